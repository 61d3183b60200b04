/- Each function of the program answers as its plain counterpart does, where that answers. Conditions: none. -/
import Derived.Test.YtgeaoceiacdadaaDoorMir
import Derived.Test.YtgeaoceiacdadaaDoorProg
set_option linter.unusedSimpArgs false
set_option linter.unusedVariables false
set_option linter.unnecessarySimpa false
namespace Go.Proofs.YtgeaoceiacdadaaDoor.Walk
open Go.AV Go.M Go.RowKit Go.Proofs
theorem A107 : ArTy Tryd.prog 107 3 1 3 [(.int IntKind.i64 (0)), (.int IntKind.i64 (0)), (.int IntKind.i64 (0))] := ArTy.of Tryd.underlying107 (by kernel_rfl) (by decide) (by kernel_rfl) rfl
theorem A123 : ArTy Tryd.prog 123 4 2 104 [(.int IntKind.i64 (0)), (.int IntKind.i64 (0)), (.int IntKind.i64 (0)), (.int IntKind.i64 (0)), (.int IntKind.i64 (0)), (.int IntKind.i64 (0)), (.int IntKind.i64 (0)), (.int IntKind.i64 (0))] := ArTy.of Tryd.underlying123 (by kernel_rfl) (by decide) (by kernel_rfl) rfl
theorem A89 : ArTy Tryd.prog 89 9 1 3 [(.int IntKind.i64 (0)), (.int IntKind.i64 (0)), (.int IntKind.i64 (0)), (.int IntKind.i64 (0)), (.int IntKind.i64 (0)), (.int IntKind.i64 (0)), (.int IntKind.i64 (0)), (.int IntKind.i64 (0)), (.int IntKind.i64 (0))] := ArTy.of Tryd.underlying89 (by kernel_rfl) (by decide) (by kernel_rfl) rfl
theorem B104 : StTy Tryd.prog 104 [(0, 1), (1, 1)] [(.int IntKind.i64 (0)), (.int IntKind.i64 (0))] := StTy.of Tryd.underlying104 (by kernel_rfl) (by kernel_rfl) rfl
theorem B127 : StTy Tryd.prog 127 [(0, 1), (1, 1)] [(.int IntKind.i64 (0)), (.string ⟨#[]⟩)] := StTy.of Tryd.underlying127 (by kernel_rfl) (by kernel_rfl) rfl
theorem B25 : StTy Tryd.prog 25 [(0, 1), (1, 1), (2, 1), (3, 1), (4, 1)] [(.slice none 0 0), (.slice none 0 0), (.int IntKind.i64 (0)), (.int IntKind.i64 (0)), (.int IntKind.i64 (0))] := StTy.of Tryd.underlying25 (by kernel_rfl) (by kernel_rfl) rfl
theorem B41 : StTy Tryd.prog 41 [(0, 1)] [(.slice none 0 0)] := StTy.of Tryd.underlying41 (by kernel_rfl) (by kernel_rfl) rfl
theorem B43 : StTy Tryd.prog 43 [(0, 1), (1, 1), (2, 1)] [(.slice none 0 0), (.slice none 0 0), (.slice none 0 0)] := StTy.of Tryd.underlying43 (by kernel_rfl) (by kernel_rfl) rfl
theorem B55 : StTy Tryd.prog 55 [(0, 1), (1, 1)] [(.slice none 0 0), (.slice none 0 0)] := StTy.of Tryd.underlying55 (by kernel_rfl) (by kernel_rfl) rfl
theorem B61 : StTy Tryd.prog 61 [(0, 1), (1, 1), (2, 1)] [(.int IntKind.i64 (0)), (.int IntKind.i64 (0)), (.int IntKind.i64 (0))] := StTy.of Tryd.underlying61 (by kernel_rfl) (by kernel_rfl) rfl
theorem B63 : StTy Tryd.prog 63 [(0, 1), (1, 1), (2, 1), (3, 1)] [(.int IntKind.i64 (0)), (.int IntKind.i64 (0)), (.int IntKind.i64 (0)), (.bool false)] := StTy.of Tryd.underlying63 (by kernel_rfl) (by kernel_rfl) rfl
theorem B87 : StTy Tryd.prog 87 [(0, 5), (5, 1), (6, 1), (7, 1), (8, 1)] [(.slice none 0 0), (.slice none 0 0), (.int IntKind.i64 (0)), (.int IntKind.i64 (0)), (.int IntKind.i64 (0)), (.map none), (.int IntKind.i64 (0)), (.slice none 0 0), (.int IntKind.i64 (0))] := StTy.of Tryd.underlying87 (by kernel_rfl) (by kernel_rfl) rfl
theorem G104 : AggTy Tryd.prog 104 2 := AggTy.of Tryd.underlying104 rfl (by kernel_rfl)
theorem G107 : AggTy Tryd.prog 107 3 := AggTy.of Tryd.underlying107 rfl (by kernel_rfl)
theorem G109 : AggTy Tryd.prog 109 3 := AggTy.of Tryd.underlying109 rfl (by kernel_rfl)
theorem G123 : AggTy Tryd.prog 123 8 := AggTy.of Tryd.underlying123 rfl (by kernel_rfl)
theorem G127 : AggTy Tryd.prog 127 2 := AggTy.of Tryd.underlying127 rfl (by kernel_rfl)
theorem G25 : AggTy Tryd.prog 25 5 := AggTy.of Tryd.underlying25 rfl (by kernel_rfl)
theorem G41 : AggTy Tryd.prog 41 1 := AggTy.of Tryd.underlying41 rfl (by kernel_rfl)
theorem G43 : AggTy Tryd.prog 43 3 := AggTy.of Tryd.underlying43 rfl (by kernel_rfl)
theorem G45 : AggTy Tryd.prog 45 9 := AggTy.of Tryd.underlying45 rfl (by kernel_rfl)
theorem G55 : AggTy Tryd.prog 55 2 := AggTy.of Tryd.underlying55 rfl (by kernel_rfl)
theorem G61 : AggTy Tryd.prog 61 3 := AggTy.of Tryd.underlying61 rfl (by kernel_rfl)
theorem G63 : AggTy Tryd.prog 63 4 := AggTy.of Tryd.underlying63 rfl (by kernel_rfl)
theorem G80 : AggTy Tryd.prog 80 3 := AggTy.of Tryd.underlying80 rfl (by kernel_rfl)
theorem G89 : AggTy Tryd.prog 89 9 := AggTy.of Tryd.underlying89 rfl (by kernel_rfl)
theorem K3 : KeyTy Tryd.prog 3 kI := keyInt Tryd.underlying3
theorem K9 : KeyTy Tryd.prog 9 kS := keyStr Tryd.underlying9
theorem L104_0 : FldTy Tryd.prog 104 0 0 1 3 := FldTy.of Tryd.underlying104 rfl (by kernel_rfl) (by decide)
theorem L104_1 : FldTy Tryd.prog 104 1 1 1 3 := FldTy.of Tryd.underlying104 rfl (by kernel_rfl) (by decide)
theorem L109_0 : FldTy Tryd.prog 109 0 0 1 3 := FldTy.of Tryd.underlying109 rfl (by kernel_rfl) (by decide)
theorem L109_1 : FldTy Tryd.prog 109 1 1 1 30 := FldTy.of Tryd.underlying109 rfl (by kernel_rfl) (by decide)
theorem L109_2 : FldTy Tryd.prog 109 2 2 1 9 := FldTy.of Tryd.underlying109 rfl (by kernel_rfl) (by decide)
theorem L25_0 : FldTy Tryd.prog 25 0 0 1 22 := FldTy.of Tryd.underlying25 rfl (by kernel_rfl) (by decide)
theorem L25_1 : FldTy Tryd.prog 25 1 1 1 23 := FldTy.of Tryd.underlying25 rfl (by kernel_rfl) (by decide)
theorem L25_2 : FldTy Tryd.prog 25 2 2 1 3 := FldTy.of Tryd.underlying25 rfl (by kernel_rfl) (by decide)
theorem L25_3 : FldTy Tryd.prog 25 3 3 1 3 := FldTy.of Tryd.underlying25 rfl (by kernel_rfl) (by decide)
theorem L25_4 : FldTy Tryd.prog 25 4 4 1 3 := FldTy.of Tryd.underlying25 rfl (by kernel_rfl) (by decide)
theorem L41_0 : FldTy Tryd.prog 41 0 0 1 39 := FldTy.of Tryd.underlying41 rfl (by kernel_rfl) (by decide)
theorem L43_0 : FldTy Tryd.prog 43 0 0 1 37 := FldTy.of Tryd.underlying43 rfl (by kernel_rfl) (by decide)
theorem L43_1 : FldTy Tryd.prog 43 1 1 1 38 := FldTy.of Tryd.underlying43 rfl (by kernel_rfl) (by decide)
theorem L43_2 : FldTy Tryd.prog 43 2 2 1 41 := FldTy.of Tryd.underlying43 rfl (by kernel_rfl) (by decide)
theorem L45_0 : FldTy Tryd.prog 45 0 0 3 43 := FldTy.of Tryd.underlying45 rfl (by kernel_rfl) (by decide)
theorem L45_1 : FldTy Tryd.prog 45 1 3 5 25 := FldTy.of Tryd.underlying45 rfl (by kernel_rfl) (by decide)
theorem L45_2 : FldTy Tryd.prog 45 2 8 1 30 := FldTy.of Tryd.underlying45 rfl (by kernel_rfl) (by decide)
theorem L55_0 : FldTy Tryd.prog 55 0 0 1 30 := FldTy.of Tryd.underlying55 rfl (by kernel_rfl) (by decide)
theorem L55_1 : FldTy Tryd.prog 55 1 1 1 31 := FldTy.of Tryd.underlying55 rfl (by kernel_rfl) (by decide)
theorem L61_0 : FldTy Tryd.prog 61 0 0 1 3 := FldTy.of Tryd.underlying61 rfl (by kernel_rfl) (by decide)
theorem L61_1 : FldTy Tryd.prog 61 1 1 1 3 := FldTy.of Tryd.underlying61 rfl (by kernel_rfl) (by decide)
theorem L61_2 : FldTy Tryd.prog 61 2 2 1 3 := FldTy.of Tryd.underlying61 rfl (by kernel_rfl) (by decide)
theorem L63_0 : FldTy Tryd.prog 63 0 0 1 3 := FldTy.of Tryd.underlying63 rfl (by kernel_rfl) (by decide)
theorem L63_1 : FldTy Tryd.prog 63 1 1 1 3 := FldTy.of Tryd.underlying63 rfl (by kernel_rfl) (by decide)
theorem L63_2 : FldTy Tryd.prog 63 2 2 1 3 := FldTy.of Tryd.underlying63 rfl (by kernel_rfl) (by decide)
theorem L63_3 : FldTy Tryd.prog 63 3 3 1 4 := FldTy.of Tryd.underlying63 rfl (by kernel_rfl) (by decide)
theorem L80_0 : FldTy Tryd.prog 80 0 0 1 9 := FldTy.of Tryd.underlying80 rfl (by kernel_rfl) (by decide)
theorem L80_1 : FldTy Tryd.prog 80 1 1 1 3 := FldTy.of Tryd.underlying80 rfl (by kernel_rfl) (by decide)
theorem L80_2 : FldTy Tryd.prog 80 2 2 1 3 := FldTy.of Tryd.underlying80 rfl (by kernel_rfl) (by decide)
theorem L87_0 : FldTy Tryd.prog 87 0 0 5 25 := FldTy.of Tryd.underlying87 rfl (by kernel_rfl) (by decide)
theorem L87_1 : FldTy Tryd.prog 87 1 5 1 85 := FldTy.of Tryd.underlying87 rfl (by kernel_rfl) (by decide)
theorem L87_2 : FldTy Tryd.prog 87 2 6 1 3 := FldTy.of Tryd.underlying87 rfl (by kernel_rfl) (by decide)
theorem L87_3 : FldTy Tryd.prog 87 3 7 1 37 := FldTy.of Tryd.underlying87 rfl (by kernel_rfl) (by decide)
theorem L87_4 : FldTy Tryd.prog 87 4 8 1 3 := FldTy.of Tryd.underlying87 rfl (by kernel_rfl) (by decide)
theorem M125 : MapTy Tryd.prog 125 127 4 (.bool false) := MapTy.of Tryd.underlying125 (by kernel_rfl)
theorem M131 : MapTy Tryd.prog 131 3 3 (.int IntKind.i64 (0)) := MapTy.of Tryd.underlying131 (by kernel_rfl)
theorem M82 : MapTy Tryd.prog 82 9 4 (.bool false) := MapTy.of Tryd.underlying82 (by kernel_rfl)
theorem M85 : MapTy Tryd.prog 85 89 31 (.slice none 0 0) := MapTy.of Tryd.underlying85 (by kernel_rfl)
theorem M96 : MapTy Tryd.prog 96 3 30 (.slice none 0 0) := MapTy.of Tryd.underlying96 (by kernel_rfl)
theorem O131 : OneTy Tryd.prog 131 := OneTy.of Tryd.underlying131 rfl (by kernel_rfl)
theorem O22 : OneTy Tryd.prog 22 := OneTy.of Tryd.underlying22 rfl (by kernel_rfl)
theorem O23 : OneTy Tryd.prog 23 := OneTy.of Tryd.underlying23 rfl (by kernel_rfl)
theorem O3 : OneTy Tryd.prog 3 := OneTy.of Tryd.underlying3 rfl (by kernel_rfl)
theorem O30 : OneTy Tryd.prog 30 := OneTy.of Tryd.underlying30 rfl (by kernel_rfl)
theorem O31 : OneTy Tryd.prog 31 := OneTy.of Tryd.underlying31 rfl (by kernel_rfl)
theorem O37 : OneTy Tryd.prog 37 := OneTy.of Tryd.underlying37 rfl (by kernel_rfl)
theorem O38 : OneTy Tryd.prog 38 := OneTy.of Tryd.underlying38 rfl (by kernel_rfl)
theorem O39 : OneTy Tryd.prog 39 := OneTy.of Tryd.underlying39 rfl (by kernel_rfl)
theorem O4 : OneTy Tryd.prog 4 := OneTy.of Tryd.underlying4 rfl (by kernel_rfl)
theorem O64 : OneTy Tryd.prog 64 := OneTy.of Tryd.underlying64 rfl (by kernel_rfl)
theorem O76 : OneTy Tryd.prog 76 := OneTy.of Tryd.underlying76 rfl (by kernel_rfl)
theorem O85 : OneTy Tryd.prog 85 := OneTy.of Tryd.underlying85 rfl (by kernel_rfl)
theorem O9 : OneTy Tryd.prog 9 := OneTy.of Tryd.underlying9 rfl (by kernel_rfl)
theorem O95 : OneTy Tryd.prog 95 := OneTy.of Tryd.underlying95 rfl (by kernel_rfl)
theorem O96 : OneTy Tryd.prog 96 := OneTy.of Tryd.underlying96 rfl (by kernel_rfl)
theorem S22 : SlTy Tryd.prog 22 55 2 48 (.agg #[(.slice none 0 0), (.slice none 0 0)]) := SlTy.of Tryd.underlying22 (by kernel_rfl) rfl (by decide) rfl
theorem S23 : SlTy Tryd.prog 23 80 3 32 (.agg #[(.string ⟨#[]⟩), (.int IntKind.i64 (0)), (.int IntKind.i64 (0))]) := SlTy.of Tryd.underlying23 (by kernel_rfl) rfl (by decide) rfl
theorem S30 : SlTy Tryd.prog 30 3 1 8 (.int IntKind.i64 (0)) := SlTy.of Tryd.underlying30 (by kernel_rfl) rfl (by decide) rfl
theorem S31 : SlTy Tryd.prog 31 63 4 32 (.agg #[(.int IntKind.i64 (0)), (.int IntKind.i64 (0)), (.int IntKind.i64 (0)), (.bool false)]) := SlTy.of Tryd.underlying31 (by kernel_rfl) rfl (by decide) rfl
theorem S37 : SlTy Tryd.prog 37 61 3 24 (.agg #[(.int IntKind.i64 (0)), (.int IntKind.i64 (0)), (.int IntKind.i64 (0))]) := SlTy.of Tryd.underlying37 (by kernel_rfl) rfl (by decide) rfl
theorem S38 : SlTy Tryd.prog 38 109 3 48 (.agg #[(.int IntKind.i64 (0)), (.slice none 0 0), (.string ⟨#[]⟩)]) := SlTy.of Tryd.underlying38 (by kernel_rfl) rfl (by decide) rfl
theorem S39 : SlTy Tryd.prog 39 104 2 16 (.agg #[(.int IntKind.i64 (0)), (.int IntKind.i64 (0))]) := SlTy.of Tryd.underlying39 (by kernel_rfl) rfl (by decide) rfl
theorem Z0 : gdOf Tryd.prog 0 = some [.int .i64 4352, .int .i64 4370, .int .i64 4449, .int .i64 4469, .int .i64 4520, .int .i64 4546, .int .i64 44032, .int .i64 55203] := by kernel_rfl
set_option maxRecDepth 10000 in
theorem E104 : EqTy Tryd.prog 104 eRange := EqTy.of (vals := fun (x : Range) => [.int IntKind.i64 x.Lo, .int IntKind.i64 x.Hi]) (cs := fun (a b : Range) => [decide (a.Lo = b.Lo), decide (a.Hi = b.Hi)]) Tryd.underlying104 (by kernel_rfl) (by kernel_rfl) (fun _ => rfl) (fun a b w => (eqs_int (d := 9998) rfl O3 (eqs_int (d := 9998) rfl O3 eqs_nil Tryd.underlying3 rfl rfl) Tryd.underlying3 rfl rfl)) (fun a b => by cases a; cases b; simp)
theorem E107 : EqTy Tryd.prog 107 eA3Int := EqTy.ofA (vals := fun (x : A3Int) => [.int IntKind.i64 x.x0, .int IntKind.i64 x.x1, .int IntKind.i64 x.x2]) (cs := fun (a b : A3Int) => [decide (a.x0 = b.x0), decide (a.x1 = b.x1), decide (a.x2 = b.x2)]) A107 O3 (by kernel_rfl) (fun _ => rfl) (fun a b w => (Pw.cons ⟨_, _, rfl, rfl, Go.AV.run_equalIn_int Tryd.underlying3 _ _ _ _⟩ (Pw.cons ⟨_, _, rfl, rfl, Go.AV.run_equalIn_int Tryd.underlying3 _ _ _ _⟩ (Pw.cons ⟨_, _, rfl, rfl, Go.AV.run_equalIn_int Tryd.underlying3 _ _ _ _⟩ Pw.nil)))) (fun a b => by cases a; cases b; simp)
set_option maxRecDepth 10000 in
theorem E127 : EqTy Tryd.prog 127 eMapping_key := EqTy.of (vals := fun (x : Mapping_key) => [.int IntKind.i64 x.from_, .string ⟨x.tag.toArray⟩]) (cs := fun (a b : Mapping_key) => [decide (a.from_ = b.from_), decide (a.tag = b.tag)]) Tryd.underlying127 (by kernel_rfl) (by kernel_rfl) (fun _ => rfl) (fun a b w => (eqs_int (d := 9998) rfl O3 (eqs_str (d := 9998) rfl O9 eqs_nil Tryd.underlying9 rfl rfl) Tryd.underlying3 rfl rfl)) (fun a b => by cases a; cases b; simp)
set_option maxRecDepth 10000 in
theorem E63 : EqTy Tryd.prog 63 eElement := EqTy.of (vals := fun (x : Element) => [.int IntKind.i64 x.Primary, .int IntKind.i64 x.Secondary, .int IntKind.i64 x.Tertiary, .bool x.Variable]) (cs := fun (a b : Element) => [decide (a.Primary = b.Primary), decide (a.Secondary = b.Secondary), decide (a.Tertiary = b.Tertiary), decide (a.Variable = b.Variable)]) Tryd.underlying63 (by kernel_rfl) (by kernel_rfl) (fun _ => rfl) (fun a b w => (eqs_int (d := 9998) rfl O3 (eqs_int (d := 9998) rfl O3 (eqs_int (d := 9998) rfl O3 (eqs_bool (d := 9998) rfl O4 eqs_nil Tryd.underlying4 rfl rfl) Tryd.underlying3 rfl rfl) Tryd.underlying3 rfl rfl) Tryd.underlying3 rfl rfl)) (fun a b => by cases a; cases b; simp)
theorem E89 : EqTy Tryd.prog 89 eA9Int := EqTy.ofA (vals := fun (x : A9Int) => [.int IntKind.i64 x.x0, .int IntKind.i64 x.x1, .int IntKind.i64 x.x2, .int IntKind.i64 x.x3, .int IntKind.i64 x.x4, .int IntKind.i64 x.x5, .int IntKind.i64 x.x6, .int IntKind.i64 x.x7, .int IntKind.i64 x.x8]) (cs := fun (a b : A9Int) => [decide (a.x0 = b.x0), decide (a.x1 = b.x1), decide (a.x2 = b.x2), decide (a.x3 = b.x3), decide (a.x4 = b.x4), decide (a.x5 = b.x5), decide (a.x6 = b.x6), decide (a.x7 = b.x7), decide (a.x8 = b.x8)]) A89 O3 (by kernel_rfl) (fun _ => rfl) (fun a b w => (Pw.cons ⟨_, _, rfl, rfl, Go.AV.run_equalIn_int Tryd.underlying3 _ _ _ _⟩ (Pw.cons ⟨_, _, rfl, rfl, Go.AV.run_equalIn_int Tryd.underlying3 _ _ _ _⟩ (Pw.cons ⟨_, _, rfl, rfl, Go.AV.run_equalIn_int Tryd.underlying3 _ _ _ _⟩ (Pw.cons ⟨_, _, rfl, rfl, Go.AV.run_equalIn_int Tryd.underlying3 _ _ _ _⟩ (Pw.cons ⟨_, _, rfl, rfl, Go.AV.run_equalIn_int Tryd.underlying3 _ _ _ _⟩ (Pw.cons ⟨_, _, rfl, rfl, Go.AV.run_equalIn_int Tryd.underlying3 _ _ _ _⟩ (Pw.cons ⟨_, _, rfl, rfl, Go.AV.run_equalIn_int Tryd.underlying3 _ _ _ _⟩ (Pw.cons ⟨_, _, rfl, rfl, Go.AV.run_equalIn_int Tryd.underlying3 _ _ _ _⟩ (Pw.cons ⟨_, _, rfl, rfl, Go.AV.run_equalIn_int Tryd.underlying3 _ _ _ _⟩ Pw.nil)))))))))) (fun a b => by cases a; cases b; simp)
theorem K127 : KeyTy Tryd.prog 127 kMapping_key := keyAgg (vals := fun (x : Mapping_key) => [.int IntKind.i64 x.from_, .string ⟨x.tag.toArray⟩]) Tryd.underlying127 E127 (fun _ => rfl) (fun _ => rfl) (fun _ => rfl) (fun _ => by simp [Instr.sameBits, ba_beq]) (fun a b w => check_str' Tryd.underlying127 (List.forall_mem_cons.2 ⟨⟨O3, ⟨_, Tryd.underlying3, rfl⟩, lq rfl⟩, (List.forall_mem_cons.2 ⟨⟨O9, ⟨_, Tryd.underlying9, rfl⟩, lq rfl⟩, (fun _ h => by cases h)⟩)⟩) b w)
theorem K89 : KeyTy Tryd.prog 89 kA9Int := keyAgg (vals := fun (x : A9Int) => [.int IntKind.i64 x.x0, .int IntKind.i64 x.x1, .int IntKind.i64 x.x2, .int IntKind.i64 x.x3, .int IntKind.i64 x.x4, .int IntKind.i64 x.x5, .int IntKind.i64 x.x6, .int IntKind.i64 x.x7, .int IntKind.i64 x.x8]) Tryd.underlying89 E89 (fun _ => rfl) (fun _ => rfl) (fun _ => rfl) (fun _ => by simp [Instr.sameBits, ba_beq]) (fun a b w => check_arr A89 O3 Tryd.underlying3 rfl rfl b w)
theorem MX : Tryd.prog.follows .mixedOrders = true := by kernel_rfl
theorem ref20_Small_c  {a0 : (List Span)}  {r : Bool} (h : ref20_Small a0 = some r) : Contract Tryd.prog 52 [(dsl eSpan a0)] [(db r)] := by
 refine contract_of Tryd.func52 (by kernel_rfl) rfl (lq rfl) (lq rfl) fun w0 I0 hI0 hG0 => ?_
 unfold ref20_Small at h
 refine avc_sq2 <| avc_sq ?_
 refine sqa (a_assign_d (lq rfl) rfl) ?_
 refine sq_nil <| avc_sq2 <| avc_sq ?_
 refine sqa (a_move_d (lq rfl) rfl) ?_
 refine sqa (m_len (en := eSpan) (l := a0) (lq rfl) S37 rfl) ?_
 refine sqa (a_leq (lq rfl) rfl rfl) ?_
 refine sqa (a_assign_d (lq rfl) rfl) ?_
 refine sq_nil ?_
 cases h
 refine avc_ret ?_
 exact ret_1 rfl
theorem ref11_Small_c  {a0 : (List Mapping)}  {r : Bool} (h : ref11_Small a0 = some r) : Contract Tryd.prog 53 [(dsl eMapping a0)] [(db r)] := by
 refine contract_of Tryd.func53 (by kernel_rfl) rfl (lq rfl) (lq rfl) fun w0 I0 hI0 hG0 => ?_
 unfold ref11_Small at h
 refine avc_sq2 <| avc_sq ?_
 refine sqa (a_assign_d (lq rfl) rfl) ?_
 refine sq_nil <| avc_sq2 <| avc_sq2 <| avc_sq ?_
 refine sqa (a_assign_d (lq rfl) rfl) ?_
 refine sq_nil <| avc_block ?_
 obtain ⟨y1, hy1, h'⟩ := bE h; clear h
 refine avc_tail2 y1 (.exit 0) (fun y1 => ⟨[(0, .d (dsl eMapping a0))], []⟩) .ret (fun y1 => ⟨[(2, .d (db y1))], []⟩) ?_ ?_ ?_
 ·
  refine avc_loopM (fun x => ⟨[(0, .d (dsl eMapping a0)), (3, .d (di x))], []⟩) hy1 (weak_cov ⟨rfl, rfl, trivial⟩ trivial) ?_
  rintro v3 sy1 hsy1
  replace hsy1 : ref11_Small_L0 a0 v3 = some sy1 := hsy1
  unfold ref11_Small_L0 at hsy1
  refine avc_sq2 <| avc_sq2 <| avc_sq ?_
  refine sqa (a_move_d (lq rfl) rfl) ?_
  refine sqa (a_move_d (lq rfl) rfl) ?_
  refine sqa (m_len (en := eMapping) (l := a0) (lq rfl) S38 rfl) ?_
  refine sqa (a_lss (lq rfl) rfl rfl) ?_
  obtain ⟨b8, hb8, hsy1'⟩ := bE hsy1; clear hsy1
  refine sqa ((a_move_d (lq rfl) rfl).bool (Option.some.inj hb8)) ?_
  refine sq_g (x := .d (di v3)) rfl rfl rfl (lq rfl) (lq rfl) rfl (fun hb => by obtain rfl : b8 = true := hb; exact a_move_d (lq rfl) rfl) ?_
  refine sq_g (x := .d (db (decide (v3 < 30)))) rfl rfl rfl (lq rfl) (lq rfl) rfl (fun hb => by obtain rfl : b8 = true := hb; exact a_lss (lq rfl) rfl rfl) ?_
  refine sqa (a_pick_and (lq rfl) rfl rfl) ?_
  refine sq_nil ?_
  refine avc_if rfl ⟨fun c1 => ?_, fun c1 => ?_⟩
  ·
   replace hsy1' := cT c1 hsy1'
   refine avc_skip <| avc_sq2 <| avc_block <| avc_sq2 <| avc_sq ?_
   refine sqa (a_move_d (lq rfl) rfl) ?_
   refine sqa (a_move_d (lq rfl) rfl) ?_
   obtain ⟨t16, ht16, hsy1⟩ := bE hsy1'; clear hsy1'
   refine sqa (m_index (en := eMapping) (lq rfl) S38 rfl rfl ht16) ?_
   refine sqa (a_fieldAddr_ip (lq rfl) L109_1 rfl) ?_
   refine sqa (m_loadE (en := eMapping) (l := a0) (i := v3) (v := t16) (off := 1) (lq rfl) O30 rfl ht16 rfl) ?_
   refine sqa (m_len (en := eI) (l := t16.To) (lq rfl) S30 rfl) ?_
   refine sqa (a_gtr (lq rfl) rfl rfl) ?_
   obtain ⟨b21, hb21, hsy1'⟩ := bE hsy1; clear hsy1
   refine sqa ((a_move_d (lq rfl) rfl).bool (Option.some.inj hb21)) ?_
   refine sq_g (x := .d (dsl eMapping a0)) rfl rfl rfl (lq rfl) (lq rfl) rfl (fun hb => by obtain rfl := gF hb; exact a_move_d (lq rfl) rfl) ?_
   refine sq_g (x := .d (di v3)) rfl rfl rfl (lq rfl) (lq rfl) rfl (fun hb => by obtain rfl := gF hb; exact a_move_d (lq rfl) rfl) ?_
   obtain ⟨t24, ht24, hsy1⟩ := bE hsy1'; clear hsy1'
   refine sq_g (x := .ip (eMapping.all a0) (v3.toNat * eMapping.size)) rfl rfl rfl (lq rfl) (lq rfl) rfl (fun hb => by obtain rfl := gF hb; exact m_index (en := eMapping) (lq rfl) S38 rfl rfl ht24) ?_
   refine sq_g (x := .ip (eMapping.all a0) (v3.toNat * eMapping.size + 2)) rfl rfl rfl (lq rfl) (lq rfl) rfl (fun hb => by obtain rfl := gF hb; exact a_fieldAddr_ip (lq rfl) L109_2 rfl) ?_
   refine sq_g (x := .d (ds t24.Tag)) rfl rfl rfl (lq rfl) (lq rfl) rfl (fun hb => by obtain rfl := gF hb; exact m_loadE (en := eMapping) (l := a0) (i := v3) (v := t24) (off := 2) (lq rfl) O9 rfl ht24 rfl) ?_
   refine sq_g (x := .d (di (t24.Tag.length : Int))) rfl rfl rfl (lq rfl) (lq rfl) rfl (fun hb => by obtain rfl := gF hb; exact m_slen (s := t24.Tag) (lq rfl) Tryd.underlying9 rfl) ?_
   refine sq_g (x := .d (db (decide (40 < (t24.Tag.length : Int))))) rfl rfl rfl (lq rfl) (lq rfl) rfl (fun hb => by obtain rfl := gF hb; exact a_gtr (lq rfl) rfl rfl) ?_
   refine sqa (a_pick_or (lq rfl) rfl rfl) ?_
   refine sq_nil ?_
   refine avc_if rfl ⟨fun c2 => ?_, fun c2 => ?_⟩
   ·
    replace hsy1 := cT c2 hsy1
    refine avc_sq2 <| avc_sq ?_
    refine sqa (a_assign_d (lq rfl) rfl) ?_
    refine sq_nil ?_
    refine avc_ret ?_
    cases hsy1
    intro q; cases q
    exact ⟨rfl, weak_cov ⟨rfl, trivial⟩ trivial⟩
   ·
    replace hsy1 := cF c2 hsy1
    refine avc_skip <| avc_sq ?_
    refine sqa (a_move_d (lq rfl) rfl) ?_
    refine sqa (m_add (lq rfl) rfl rfl) ?_
    refine sqa (a_assign_d (lq rfl) rfl) ?_
    refine sq_nil ?_
    cases hsy1
    exact weak_cov ⟨rfl, rfl, trivial⟩ trivial
  ·
   replace hsy1' := cF c1 hsy1'
   refine avc_exit ?_
   cases hsy1'
   intro q; cases q
   exact ⟨rfl, weak_cov ⟨rfl, trivial⟩ trivial⟩
 ·
  rintro y1 rfl
  replace h' := eL h'
  refine avc_sq2 <| avc_sq ?_
  refine sqa (a_move_d (lq rfl) rfl) ?_
  refine sqa (m_len (en := eMapping) (l := a0) (lq rfl) S38 rfl) ?_
  refine sqa (a_leq (lq rfl) rfl rfl) ?_
  refine sqa (a_assign_d (lq rfl) rfl) ?_
  refine sq_nil ?_
  cases h'
  refine avc_ret ?_
  exact ret_1 rfl
 ·
  rintro y1 rfl
  replace h' := eR h'
  cases h'
  exact ret_1 rfl
theorem ref02_Small_c  {a0 : Set}  {r : Bool} (h : ref02_Small a0 = some r) : Contract Tryd.prog 54 [(eSet.dv a0)] [(db r)] := by
 refine contract_of Tryd.func54 (by kernel_rfl) rfl (lq rfl) (lq rfl) fun w0 I0 hI0 hG0 => ?_
 unfold ref02_Small at h
 refine avc_sq2 <| avc_sq ?_
 refine sqa (m_box (size := 1) (lq rfl) rfl rfl) ?_
 refine sqa (a_assign_d (lq rfl) rfl) ?_
 refine sq_nil <| avc_sq2 <| avc_sq ?_
 refine sqa (m_fieldPt (lq rfl) L41_0 rfl) ?_
 refine sqa (a_load_ip (lq rfl) O39 rfl rfl) ?_
 refine sqa (m_len (en := eRange) (l := a0.Ranges) (lq rfl) S39 rfl) ?_
 refine sqa (a_leq (lq rfl) rfl rfl) ?_
 refine sqa (a_assign_d (lq rfl) rfl) ?_
 refine sq_nil ?_
 cases h
 refine avc_ret ?_
 exact ret_1 rfl
theorem ref21_Small_c  {a0 : Norm}  {r : Bool} (h : ref21_Small a0 = some r) : Contract Tryd.prog 37 [(eNorm.dv a0)] [(db r)] := by
 refine contract_of Tryd.func37 (by kernel_rfl) rfl (lq rfl) (lq rfl) fun w0 I0 hI0 hG0 => ?_
 unfold ref21_Small at h
 refine avc_sq2 <| avc_sq ?_
 refine sqa (m_box (size := 3) (lq rfl) rfl rfl) ?_
 refine sqa (a_assign_d (lq rfl) rfl) ?_
 refine sq_nil <| avc_sq2 <| avc_sq ?_
 refine sqa (m_fieldPt (lq rfl) L43_0 rfl) ?_
 refine sqa (a_load_ip (lq rfl) O37 rfl rfl) ?_
 obtain ⟨t5, ht5, h'⟩ := bE h; clear h
 refine sqa (a_call (lq rfl) rfl (ref20_Small_c ht5)) ?_
 obtain ⟨b6, hb6, h⟩ := bE h'; clear h'
 refine sqa ((a_move_d (lq rfl) rfl).bool (Option.some.inj hb6)) ?_
 refine sq_g (x := .ip (eNorm.cells a0) (0 + 1)) rfl rfl rfl (lq rfl) (lq rfl) rfl (fun hb => by obtain rfl : b6 = true := hb; exact m_fieldPt (lq rfl) L43_1 rfl) ?_
 refine sq_g (x := .d (dsl eMapping a0.Decomp)) rfl rfl rfl (lq rfl) (lq rfl) rfl (fun hb => by obtain rfl : b6 = true := hb; exact a_load_ip (lq rfl) O38 rfl rfl) ?_
 obtain ⟨t9, ht9, h'⟩ := bE h; clear h
 refine sq_g (x := .d (db t9)) rfl rfl rfl (lq rfl) (lq rfl) rfl (fun hb => by obtain rfl : b6 = true := hb; exact a_call (lq rfl) rfl (ref11_Small_c ht9)) ?_
 refine sqa (a_pick_and (lq rfl) rfl rfl) ?_
 obtain ⟨b11, hb11, h⟩ := bE h'; clear h'
 refine sqa ((a_move_d (lq rfl) rfl).bool (Option.some.inj hb11)) ?_
 refine sq_g (x := .ip (eNorm.cells a0) (0 + 2)) rfl rfl rfl (lq rfl) (lq rfl) rfl (fun hb => by obtain rfl : b11 = true := hb; exact m_fieldPt (lq rfl) L43_2 rfl) ?_
 refine sq_g (x := .d (eSet.dv a0.Excluded)) rfl rfl rfl (lq rfl) (lq rfl) rfl (fun hb => by obtain rfl : b11 = true := hb; exact a_load_ipA (lq rfl) G41 rfl rfl rfl) ?_
 obtain ⟨t14, ht14, h'⟩ := bE h; clear h
 refine sq_g (x := .d (db t14)) rfl rfl rfl (lq rfl) (lq rfl) rfl (fun hb => by obtain rfl : b11 = true := hb; exact a_call (lq rfl) rfl (ref02_Small_c ht14)) ?_
 refine sqa (a_pick_and (lq rfl) rfl rfl) ?_
 refine sqa (a_assign_d (lq rfl) rfl) ?_
 refine sq_nil ?_
 cases h'
 refine avc_ret ?_
 exact ret_1 rfl
theorem ref43_Small_c  {a0 : Collation}  {r : Bool} (h : ref43_Small a0 = some r) : Contract Tryd.prog 8 [(eCollation.dv a0)] [(db r)] := by
 refine contract_of Tryd.func8 (by kernel_rfl) rfl (lq rfl) (lq rfl) fun w0 I0 hI0 hG0 => ?_
 unfold ref43_Small at h
 refine avc_sq2 <| avc_sq ?_
 refine sqa (m_box (size := 5) (lq rfl) rfl rfl) ?_
 refine sqa (a_assign_d (lq rfl) rfl) ?_
 refine sq_nil <| avc_sq2 <| avc_sq2 <| avc_sq ?_
 refine sqa (m_fieldPt (lq rfl) L25_0 rfl) ?_
 refine sqa (a_load_ip (lq rfl) O22 rfl rfl) ?_
 refine sqa (m_len (en := eEntry) (l := a0.Entries) (lq rfl) S22 rfl) ?_
 refine sqa (a_gtr (lq rfl) rfl rfl) ?_
 obtain ⟨b8, hb8, h'⟩ := bE h; clear h
 refine sqa ((a_move_d (lq rfl) rfl).bool (Option.some.inj hb8)) ?_
 refine sq_g (x := .ip (eCollation.cells a0) (0 + 1)) rfl rfl rfl (lq rfl) (lq rfl) rfl (fun hb => by obtain rfl := gF hb; exact m_fieldPt (lq rfl) L25_1 rfl) ?_
 refine sq_g (x := .d (dsl eGroup a0.Groups)) rfl rfl rfl (lq rfl) (lq rfl) rfl (fun hb => by obtain rfl := gF hb; exact a_load_ip (lq rfl) O23 rfl rfl) ?_
 refine sq_g (x := .d (di (a0.Groups.length : Int))) rfl rfl rfl (lq rfl) (lq rfl) rfl (fun hb => by obtain rfl := gF hb; exact m_len (en := eGroup) (l := a0.Groups) (lq rfl) S23 rfl) ?_
 refine sq_g (x := .d (db (decide (8 < (a0.Groups.length : Int))))) rfl rfl rfl (lq rfl) (lq rfl) rfl (fun hb => by obtain rfl := gF hb; exact a_gtr (lq rfl) rfl rfl) ?_
 refine sqa (a_pick_or (lq rfl) rfl rfl) ?_
 refine sq_nil ?_
 refine avc_if rfl ⟨fun c1 => ?_, fun c1 => ?_⟩
 ·
  replace h' := cT c1 h'
  refine avc_sq2 <| avc_sq ?_
  refine sqa (a_assign_d (lq rfl) rfl) ?_
  refine sq_nil ?_
  cases h'
  refine avc_ret ?_
  exact ret_1 rfl
 ·
  replace h' := cF c1 h'
  refine avc_skip <| avc_sq2 <| avc_sq2 <| avc_sq ?_
  refine sqa (a_assign_d (lq rfl) rfl) ?_
  refine sq_nil <| avc_block ?_
  obtain ⟨y1, hy1, h⟩ := bE h'; clear h'
  refine avc_tail2 y1 (.exit 0) (fun y1 => ⟨[], []⟩) .ret (fun y1 => ⟨[(2, .d (db y1))], []⟩) ?_ ?_ ?_
  ·
   refine avc_loopM (fun x => ⟨[(1, .d (.pt (eCollation.cells a0))), (3, .d (di x))], []⟩) hy1 (weak_cov ⟨rfl, rfl, trivial⟩ trivial) ?_
   rintro v3 sy1 hsy1
   replace hsy1 : ref43_Small_L0 a0 v3 = some sy1 := hsy1
   unfold ref43_Small_L0 at hsy1
   refine avc_sq2 <| avc_sq2 <| avc_sq ?_
   refine sqa (a_move_d (lq rfl) rfl) ?_
   refine sqa (m_fieldPt (lq rfl) L25_0 rfl) ?_
   refine sqa (a_load_ip (lq rfl) O22 rfl rfl) ?_
   refine sqa (m_len (en := eEntry) (l := a0.Entries) (lq rfl) S22 rfl) ?_
   refine sqa (a_lss (lq rfl) rfl rfl) ?_
   refine sq_nil ?_
   refine avc_if rfl ⟨fun c2 => ?_, fun c2 => ?_⟩
   ·
    replace hsy1 := cT c2 hsy1
    refine avc_skip <| avc_sq2 <| avc_block <| avc_sq2 <| avc_sq ?_
    refine sqa (m_fieldPt (lq rfl) L25_0 rfl) ?_
    refine sqa (a_load_ip (lq rfl) O22 rfl rfl) ?_
    refine sqa (a_move_d (lq rfl) rfl) ?_
    obtain ⟨t24, ht24, hsy1'⟩ := bE hsy1; clear hsy1
    refine sqa (m_index (en := eEntry) (lq rfl) S22 rfl rfl ht24) ?_
    refine sqa (a_fieldAddr_ip (lq rfl) L55_0 rfl) ?_
    refine sqa (m_loadE (en := eEntry) (l := a0.Entries) (i := v3) (v := t24) (off := 0) (lq rfl) O30 rfl ht24 rfl) ?_
    refine sqa (m_len (en := eI) (l := t24.Codes) (lq rfl) S30 rfl) ?_
    refine sqa (a_gtr (lq rfl) rfl rfl) ?_
    obtain ⟨b29, hb29, hsy1⟩ := bE hsy1'; clear hsy1'
    refine sqa ((a_move_d (lq rfl) rfl).bool (Option.some.inj hb29)) ?_
    refine sq_g (x := .ip (eCollation.cells a0) (0 + 0)) rfl rfl rfl (lq rfl) (lq rfl) rfl (fun hb => by obtain rfl := gF hb; exact m_fieldPt (lq rfl) L25_0 rfl) ?_
    refine sq_g (x := .d (dsl eEntry a0.Entries)) rfl rfl rfl (lq rfl) (lq rfl) rfl (fun hb => by obtain rfl := gF hb; exact a_load_ip (lq rfl) O22 rfl rfl) ?_
    refine sq_g (x := .d (di v3)) rfl rfl rfl (lq rfl) (lq rfl) rfl (fun hb => by obtain rfl := gF hb; exact a_move_d (lq rfl) rfl) ?_
    obtain ⟨t33, ht33, hsy1'⟩ := bE hsy1; clear hsy1
    refine sq_g (x := .ip (eEntry.all a0.Entries) (v3.toNat * eEntry.size)) rfl rfl rfl (lq rfl) (lq rfl) rfl (fun hb => by obtain rfl := gF hb; exact m_index (en := eEntry) (lq rfl) S22 rfl rfl ht33) ?_
    refine sq_g (x := .ip (eEntry.all a0.Entries) (v3.toNat * eEntry.size + 1)) rfl rfl rfl (lq rfl) (lq rfl) rfl (fun hb => by obtain rfl := gF hb; exact a_fieldAddr_ip (lq rfl) L55_1 rfl) ?_
    refine sq_g (x := .d (dsl eElement t33.Elements)) rfl rfl rfl (lq rfl) (lq rfl) rfl (fun hb => by obtain rfl := gF hb; exact m_loadE (en := eEntry) (l := a0.Entries) (i := v3) (v := t33) (off := 1) (lq rfl) O31 rfl ht33 rfl) ?_
    refine sq_g (x := .d (di (t33.Elements.length : Int))) rfl rfl rfl (lq rfl) (lq rfl) rfl (fun hb => by obtain rfl := gF hb; exact m_len (en := eElement) (l := t33.Elements) (lq rfl) S31 rfl) ?_
    refine sq_g (x := .d (db (decide (20 < (t33.Elements.length : Int))))) rfl rfl rfl (lq rfl) (lq rfl) rfl (fun hb => by obtain rfl := gF hb; exact a_gtr (lq rfl) rfl rfl) ?_
    refine sqa (a_pick_or (lq rfl) rfl rfl) ?_
    refine sq_nil ?_
    refine avc_if rfl ⟨fun c3 => ?_, fun c3 => ?_⟩
    ·
     replace hsy1' := cT c3 hsy1'
     refine avc_sq2 <| avc_sq ?_
     refine sqa (a_assign_d (lq rfl) rfl) ?_
     refine sq_nil ?_
     refine avc_ret ?_
     cases hsy1'
     intro q; cases q
     exact ⟨rfl, weak_cov ⟨rfl, trivial⟩ trivial⟩
    ·
     replace hsy1' := cF c3 hsy1'
     refine avc_skip <| avc_sq ?_
     refine sqa (a_move_d (lq rfl) rfl) ?_
     refine sqa (m_add (lq rfl) rfl rfl) ?_
     refine sqa (a_assign_d (lq rfl) rfl) ?_
     refine sq_nil ?_
     cases hsy1'
     exact weak_cov ⟨rfl, rfl, trivial⟩ trivial
   ·
    replace hsy1 := cF c2 hsy1
    refine avc_exit ?_
    cases hsy1
    intro q; cases q
    exact ⟨rfl, weak_cov trivial trivial⟩
  ·
   rintro y1 rfl
   replace h := eL h
   refine avc_sq2 <| avc_sq ?_
   refine sqa (a_assign_d (lq rfl) rfl) ?_
   refine sq_nil ?_
   cases h
   refine avc_ret ?_
   exact ret_1 rfl
  ·
   rintro y1 rfl
   replace h := eR h
   cases h
   exact ret_1 rfl
theorem law43_few_c  {a0 : Unicodetextlaw43_Case}  {r : Bool} (h : law43_few a0 = some r) : Contract Tryd.prog 17 [(eUnicodetextlaw43_Case.dv a0)] [(db r)] := by
 refine contract_of Tryd.func17 (by kernel_rfl) rfl (lq rfl) (lq rfl) fun w0 I0 hI0 hG0 => ?_
 unfold law43_few at h
 refine avc_sq2 <| avc_sq ?_
 refine sqa (m_box (size := 9) (lq rfl) rfl rfl) ?_
 refine sqa (a_assign_d (lq rfl) rfl) ?_
 refine sq_nil <| avc_sq2 <| avc_sq ?_
 refine sqa (m_fieldPt (lq rfl) L45_0 rfl) ?_
 refine sqa (a_load_ipA (lq rfl) G43 rfl rfl rfl) ?_
 obtain ⟨t5, ht5, h'⟩ := bE h; clear h
 refine sqa (a_call (lq rfl) rfl (ref21_Small_c ht5)) ?_
 obtain ⟨b6, hb6, h⟩ := bE h'; clear h'
 refine sqa ((a_move_d (lq rfl) rfl).bool (Option.some.inj hb6)) ?_
 refine sq_g (x := .ip (eUnicodetextlaw43_Case.cells a0) (0 + 3)) rfl rfl rfl (lq rfl) (lq rfl) rfl (fun hb => by obtain rfl : b6 = true := hb; exact m_fieldPt (lq rfl) L45_1 rfl) ?_
 refine sq_g (x := .d (eCollation.dv a0.C)) rfl rfl rfl (lq rfl) (lq rfl) rfl (fun hb => by obtain rfl : b6 = true := hb; exact a_load_ipA (lq rfl) G25 rfl rfl rfl) ?_
 obtain ⟨t9, ht9, h'⟩ := bE h; clear h
 refine sq_g (x := .d (db t9)) rfl rfl rfl (lq rfl) (lq rfl) rfl (fun hb => by obtain rfl : b6 = true := hb; exact a_call (lq rfl) rfl (ref43_Small_c ht9)) ?_
 refine sqa (a_pick_and (lq rfl) rfl rfl) ?_
 obtain ⟨b11, hb11, h⟩ := bE h'; clear h'
 refine sqa ((a_move_d (lq rfl) rfl).bool (Option.some.inj hb11)) ?_
 refine sq_g (x := .ip (eUnicodetextlaw43_Case.cells a0) (0 + 8)) rfl rfl rfl (lq rfl) (lq rfl) rfl (fun hb => by obtain rfl : b11 = true := hb; exact m_fieldPt (lq rfl) L45_2 rfl) ?_
 refine sq_g (x := .d (dsl eI a0.Text)) rfl rfl rfl (lq rfl) (lq rfl) rfl (fun hb => by obtain rfl : b11 = true := hb; exact a_load_ip (lq rfl) O30 rfl rfl) ?_
 refine sq_g (x := .d (di (a0.Text.length : Int))) rfl rfl rfl (lq rfl) (lq rfl) rfl (fun hb => by obtain rfl : b11 = true := hb; exact m_len (en := eI) (l := a0.Text) (lq rfl) S30 rfl) ?_
 refine sq_g (x := .d (db (decide ((a0.Text.length : Int) ≤ 12)))) rfl rfl rfl (lq rfl) (lq rfl) rfl (fun hb => by obtain rfl : b11 = true := hb; exact a_leq (lq rfl) rfl rfl) ?_
 refine sqa (a_pick_and (lq rfl) rfl rfl) ?_
 refine sqa (a_assign_d (lq rfl) rfl) ?_
 refine sq_nil ?_
 cases h
 refine avc_ret ?_
 exact ret_1 rfl
theorem slices_Clone_int_int_g {a0 r : (List Int)} (h : slices_Clone_int_int a0 = some r) : GC Tryd.prog 38 [.d (dsl eI a0)] [] [] [.row 5] [(5, .row 3 eI.size false (eI.all r))] := by
 unfold slices_Clone_int_int at h
 cases a0 with
 | nil =>
  refine gc_empty (by decide) fun B c => ?_
  refine gc_of Tryd.func38 (by kernel_rfl) rfl (lq rfl) (lq rfl) fun w0 I0 hG0 p0 => ?_
  refine avc_sq2 <| avc_sq ?_
  refine sqa (a_assign_d (lq rfl) rfl) ?_
  refine sq_nil <| avc_sq2 <| avc_sq2 <| avc_sq ?_
  refine sqa (a_move_d (lq rfl) rfl) ?_
  refine sqa (a_eqnil_v (lq rfl) Tryd.underlying30 rfl) ?_
  refine sq_nil ?_
  refine avc_if rfl ⟨fun c1 => ?_, fun c1 => ?_⟩
  ·
   obtain ⟨rfl, _⟩ := app_some h
   refine avc_sq2 <| avc_sq ?_
   refine sqa (a_assign_d (lq rfl) rfl) ?_
   refine sq_nil ?_
   refine avc_weak (weak_nil (t := 2) 5 3 eI.size (lq rfl) (lq rfl) rfl rfl) ?_
   refine avc_ret ?_
   exact ⟨⟨_, _, rfl, rfl, rfl⟩, rfl, trivial⟩
  ·
   refine avc_skip <| avc_sq2 <| avc_sq ?_
   refine sq_b rfl (step_buildSlice (lq rfl) S30 rfl rfl rfl rfl (by decide) rfl) ?_
   refine sqa (a_move_d (lq rfl) rfl) ?_
   refine sq_weak (weak_empty_d (t := 6) eI.size (lq rfl) rfl) ?_ (by simp)
   refine sq_b rfl (m_append (en := eI) (l := []) (m := []) (lq rfl) S30 rfl rfl rfl h (by decide) (by decide) rfl rfl) ?_
   refine sqa (a_assign_row (lq rfl) rfl) ?_
   refine sq_nil ?_
   refine avc_ret ?_
   exact ⟨⟨_, _, rfl, rfl, rfl⟩, rfl, trivial⟩
 | cons x l =>
  refine gc_of Tryd.func38 (by kernel_rfl) rfl (lq rfl) (lq rfl) fun w0 I0 hG0 p0 => ?_
  refine avc_sq2 <| avc_sq ?_
  refine sqa (a_assign_d (lq rfl) rfl) ?_
  refine sq_nil <| avc_sq2 <| avc_sq2 <| avc_sq ?_
  refine sqa (a_move_d (lq rfl) rfl) ?_
  refine sqa (a_eqnil (lq rfl) Tryd.underlying30 rfl (all_ne (by decide))) ?_
  refine sq_nil ?_
  refine avc_if rfl ⟨fun c1 => (by cases c1), fun c1 => ?_⟩
  refine avc_skip <| avc_sq2 <| avc_sq ?_
  refine sq_b rfl (step_buildSlice (lq rfl) S30 rfl rfl rfl rfl (by decide) rfl) ?_
  refine sqa (a_move_d (lq rfl) rfl) ?_
  refine sq_b rfl (m_append (en := eI) (l := []) (m := x :: l) (lq rfl) S30 rfl rfl rfl h (by decide) (by decide) rfl rfl) ?_
  refine sqa (a_assign_row (lq rfl) rfl) ?_
  refine sq_nil ?_
  refine avc_ret ?_
  exact ⟨⟨_, _, rfl, rfl, rfl⟩, rfl, trivial⟩
theorem colltable_isWeight_c  {a0 : Int}  {r : Bool} (h : colltable_isWeight a0 = some r) : Contract Tryd.prog 23 [(di a0)] [(db r)] := by
 refine contract_of Tryd.func23 (by kernel_rfl) rfl (lq rfl) (lq rfl) fun w0 I0 hI0 hG0 => ?_
 unfold colltable_isWeight at h
 refine avc_sq2 <| avc_sq ?_
 refine sqa (a_assign_d (lq rfl) rfl) ?_
 refine sq_nil <| avc_sq2 <| avc_sq ?_
 refine sqa (a_move_d (lq rfl) rfl) ?_
 refine sqa (a_geq (lq rfl) rfl rfl) ?_
 obtain ⟨b5, hb5, h'⟩ := bE h; clear h
 refine sqa ((a_move_d (lq rfl) rfl).bool (Option.some.inj hb5)) ?_
 refine sq_g (x := .d (di a0)) rfl rfl rfl (lq rfl) (lq rfl) rfl (fun hb => by obtain rfl : b5 = true := hb; exact a_move_d (lq rfl) rfl) ?_
 refine sq_g (x := .d (db (decide (a0 ≤ 65535)))) rfl rfl rfl (lq rfl) (lq rfl) rfl (fun hb => by obtain rfl : b5 = true := hb; exact a_leq (lq rfl) rfl rfl) ?_
 refine sqa (a_pick_and (lq rfl) rfl rfl) ?_
 refine sqa (a_assign_d (lq rfl) rfl) ?_
 refine sq_nil ?_
 cases h'
 refine avc_ret ?_
 exact ret_1 rfl
theorem colltable_isName_c  {a0 : Str}  {r : Bool} (h : colltable_isName a0 = some r) : Contract Tryd.prog 45 [(ds a0)] [(db r)] := by
 refine contract_of Tryd.func45 (by kernel_rfl) rfl (lq rfl) (lq rfl) fun w0 I0 hI0 hG0 => ?_
 unfold colltable_isName at h
 refine avc_sq2 <| avc_sq ?_
 refine sqa (a_assign_d (lq rfl) rfl) ?_
 refine sq_nil <| avc_sq2 <| avc_sq2 <| avc_sq ?_
 refine sqa (a_move_d (lq rfl) rfl) ?_
 refine sqa (m_slen (s := a0) (lq rfl) Tryd.underlying9 rfl) ?_
 refine sqa (a_move_d (lq rfl) rfl) ?_
 refine sq_nil <| avc_block ?_
 obtain ⟨y1, hy1, h'⟩ := bE h; clear h
 refine avc_tail2 y1 (.exit 0) (fun y1 => ⟨[(0, .d (ds a0))], []⟩) .ret (fun y1 => ⟨[(2, .d (db y1))], []⟩) ?_ ?_ ?_
 ·
  refine avc_loopM (fun x => ⟨[(0, .d (ds a0)), (6, .d (di (a0.length : Int))), (7, .d (di x))], []⟩) hy1 (weak_cov ⟨rfl, rfl, rfl, trivial⟩ trivial) ?_
  rintro v7 sy1 hsy1
  replace hsy1 : colltable_isName_L0 a0 v7 = some sy1 := hsy1
  unfold colltable_isName_L0 at hsy1
  refine avc_sq2 <| avc_sq ?_
  refine sqa (a_lss (lq rfl) rfl rfl) ?_
  refine sq_nil <| avc_sq2 ?_
  refine avc_if rfl ⟨fun c1 => ?_, fun c1 => ?_⟩
  ·
   replace hsy1 := cT c1 hsy1
   refine avc_skip <| avc_sq2 <| avc_block <| avc_sq2 <| avc_sq ?_
   refine sqa (a_move_d (lq rfl) rfl) ?_
   refine sqa (a_assign_d (lq rfl) rfl) ?_
   refine sq_nil <| avc_sq2 <| avc_sq ?_
   refine sqa (a_move_d (lq rfl) rfl) ?_
   refine sqa (a_move_d (lq rfl) rfl) ?_
   obtain ⟨t12, ht12, hsy1'⟩ := bE hsy1; clear hsy1
   refine sqa (m_sindex (s := a0) (lq rfl) Tryd.underlying9 rfl rfl ht12) ?_
   refine sqa (a_assign_d (lq rfl) rfl) ?_
   refine sq_nil <| avc_sq2 <| avc_sq ?_
   refine sqa (a_move_d (lq rfl) rfl) ?_
   refine sqa (a_geq (lq rfl) rfl rfl) ?_
   obtain ⟨b15, hb15, hsy1⟩ := bE hsy1'; clear hsy1'
   refine sqa ((a_move_d (lq rfl) rfl).bool (Option.some.inj hb15)) ?_
   refine sq_g (x := .d (dby t12)) rfl rfl rfl (lq rfl) (lq rfl) rfl (fun hb => by obtain rfl : b15 = true := hb; exact a_move_d (lq rfl) rfl) ?_
   refine sq_g (x := .d (db (decide (t12 ≤ 90)))) rfl rfl rfl (lq rfl) (lq rfl) rfl (fun hb => by obtain rfl : b15 = true := hb; exact a_leq (lq rfl) rfl rfl) ?_
   refine sqa (a_pick_and (lq rfl) rfl rfl) ?_
   obtain ⟨b19, hb19, hsy1'⟩ := bE hsy1; clear hsy1
   refine sqa ((a_move_d (lq rfl) rfl).bool (Option.some.inj hb19)) ?_
   refine sq_g (x := .d (dby t12)) rfl rfl rfl (lq rfl) (lq rfl) rfl (fun hb => by obtain rfl := gF hb; exact a_move_d (lq rfl) rfl) ?_
   refine sq_g (x := .d (db (decide (97 ≤ t12)))) rfl rfl rfl (lq rfl) (lq rfl) rfl (fun hb => by obtain rfl := gF hb; exact a_geq (lq rfl) rfl rfl) ?_
   obtain ⟨b22, hb22, hsy1⟩ := bE hsy1'; clear hsy1'
   refine sq_g (x := .d (db b22)) rfl rfl rfl (lq rfl) (lq rfl) rfl (fun hb => by obtain rfl := gF hb; exact (a_move_d (lq rfl) rfl).bool (Option.some.inj hb22)) ?_
   refine sq_g2 (x := .d (dby t12)) rfl rfl rfl (lq rfl) (lq rfl) rfl (fun hb => by obtain ⟨hb, hb1⟩ := and_split hb; obtain rfl := gF hb; obtain rfl : b22 = true := hb1; exact a_move_d (lq rfl) rfl) ?_
   refine sq_g2 (x := .d (db (decide (t12 ≤ 122)))) rfl rfl rfl (lq rfl) (lq rfl) rfl (fun hb => by obtain ⟨hb, hb1⟩ := and_split hb; obtain rfl := gF hb; obtain rfl : b22 = true := hb1; exact a_leq (lq rfl) rfl rfl) ?_
   refine sq_g (x := .d (db (b22 && (decide (t12 ≤ 122))))) rfl rfl rfl (lq rfl) (lq rfl) rfl (fun hb => by obtain rfl := gF hb; exact a_pick_and (lq rfl) rfl rfl) ?_
   refine sqa (a_pick_or (lq rfl) rfl rfl) ?_
   obtain ⟨b27, hb27, hsy1'⟩ := bE hsy1; clear hsy1
   refine sqa ((a_move_d (lq rfl) rfl).bool (Option.some.inj hb27)) ?_
   refine sq_g (x := .d (dby t12)) rfl rfl rfl (lq rfl) (lq rfl) rfl (fun hb => by obtain rfl := gF hb; exact a_move_d (lq rfl) rfl) ?_
   refine sq_g (x := .d (db (decide (48 ≤ t12)))) rfl rfl rfl (lq rfl) (lq rfl) rfl (fun hb => by obtain rfl := gF hb; exact a_geq (lq rfl) rfl rfl) ?_
   obtain ⟨b30, hb30, hsy1⟩ := bE hsy1'; clear hsy1'
   refine sq_g (x := .d (db b30)) rfl rfl rfl (lq rfl) (lq rfl) rfl (fun hb => by obtain rfl := gF hb; exact (a_move_d (lq rfl) rfl).bool (Option.some.inj hb30)) ?_
   refine sq_g2 (x := .d (dby t12)) rfl rfl rfl (lq rfl) (lq rfl) rfl (fun hb => by obtain ⟨hb, hb1⟩ := and_split hb; obtain rfl := gF hb; obtain rfl : b30 = true := hb1; exact a_move_d (lq rfl) rfl) ?_
   refine sq_g2 (x := .d (db (decide (t12 ≤ 57)))) rfl rfl rfl (lq rfl) (lq rfl) rfl (fun hb => by obtain ⟨hb, hb1⟩ := and_split hb; obtain rfl := gF hb; obtain rfl : b30 = true := hb1; exact a_leq (lq rfl) rfl rfl) ?_
   refine sq_g (x := .d (db (b30 && (decide (t12 ≤ 57))))) rfl rfl rfl (lq rfl) (lq rfl) rfl (fun hb => by obtain rfl := gF hb; exact a_pick_and (lq rfl) rfl rfl) ?_
   refine sqa (a_pick_or (lq rfl) rfl rfl) ?_
   obtain ⟨b35, hb35, hsy1'⟩ := bE hsy1; clear hsy1
   refine sqa ((a_move_d (lq rfl) rfl).bool (Option.some.inj hb35)) ?_
   refine sq_g (x := .d (dby t12)) rfl rfl rfl (lq rfl) (lq rfl) rfl (fun hb => by obtain rfl := gF hb; exact a_move_d (lq rfl) rfl) ?_
   refine sq_g (x := .d (db (decide (t12 = 95)))) rfl rfl rfl (lq rfl) (lq rfl) rfl (fun hb => by obtain rfl := gF hb; exact a_eql (lq rfl) rfl rfl) ?_
   refine sqa (a_pick_or (lq rfl) rfl rfl) ?_
   refine sqa (a_not (lq rfl) rfl) ?_
   refine sq_nil ?_
   refine avc_if rfl ⟨fun c2 => ?_, fun c2 => ?_⟩
   ·
    replace hsy1' := cT c2 hsy1'
    refine avc_sq2 <| avc_sq ?_
    refine sqa (a_assign_d (lq rfl) rfl) ?_
    refine sq_nil ?_
    refine avc_ret ?_
    cases hsy1'
    intro q; cases q
    exact ⟨rfl, weak_cov ⟨rfl, trivial⟩ trivial⟩
   ·
    replace hsy1' := cF c2 hsy1'
    refine avc_skip <| avc_sq ?_
    refine sqa (m_add (lq rfl) rfl rfl) ?_
    refine sqa (a_move_d (lq rfl) rfl) ?_
    refine sq_nil ?_
    cases hsy1'
    exact weak_cov ⟨rfl, rfl, rfl, trivial⟩ trivial
  ·
   replace hsy1 := cF c1 hsy1
   refine avc_exit ?_
   cases hsy1
   intro q; cases q
   exact ⟨rfl, weak_cov ⟨rfl, trivial⟩ trivial⟩
 ·
  rintro y1 rfl
  replace h' := eL h'
  refine avc_sq2 <| avc_sq ?_
  refine sqa (a_move_d (lq rfl) rfl) ?_
  refine sqa (m_sneq (a := a0) (b := []) (lq rfl) rfl rfl) ?_
  obtain ⟨b43, hb43, h⟩ := bE h'; clear h'
  refine sqa ((a_move_d (lq rfl) rfl).bool (Option.some.inj hb43)) ?_
  refine sq_g (x := .d (ds a0)) rfl rfl rfl (lq rfl) (lq rfl) rfl (fun hb => by obtain rfl : b43 = true := hb; exact a_move_d (lq rfl) rfl) ?_
  refine sq_g (x := .d (di (a0.length : Int))) rfl rfl rfl (lq rfl) (lq rfl) rfl (fun hb => by obtain rfl : b43 = true := hb; exact m_slen (s := a0) (lq rfl) Tryd.underlying9 rfl) ?_
  refine sq_g (x := .d (db (decide ((a0.length : Int) ≤ 32)))) rfl rfl rfl (lq rfl) (lq rfl) rfl (fun hb => by obtain rfl : b43 = true := hb; exact a_leq (lq rfl) rfl rfl) ?_
  refine sqa (a_pick_and (lq rfl) rfl rfl) ?_
  refine sqa (a_assign_d (lq rfl) rfl) ?_
  refine sq_nil ?_
  cases h
  refine avc_ret ?_
  exact ret_1 rfl
 ·
  rintro y1 rfl
  replace h' := eR h'
  cases h'
  exact ret_1 rfl
theorem colltable_checkGroups_c  {a0 : Collation}  {r : Int} (h : colltable_checkGroups a0 = some r) : Contract Tryd.prog 24 [(eCollation.dv a0)] [(di r)] := by
 refine contract_of Tryd.func24 (by kernel_rfl) rfl (lq rfl) (lq rfl) fun w0 I0 hI0 hG0 => ?_
 unfold colltable_checkGroups at h
 refine avc_sq2 <| avc_sq ?_
 refine sqa (m_box (size := 5) (lq rfl) rfl rfl) ?_
 refine sqa (a_assign_d (lq rfl) rfl) ?_
 refine sq_nil <| avc_sq2 <| avc_sq2 <| avc_sq ?_
 refine sqa (m_fieldPt (lq rfl) L25_1 rfl) ?_
 refine sqa (a_load_ip (lq rfl) O23 rfl rfl) ?_
 refine sqa (m_len (en := eGroup) (l := a0.Groups) (lq rfl) S23 rfl) ?_
 refine sqa (a_move_d (lq rfl) rfl) ?_
 refine sq_nil <| avc_block ?_
 obtain ⟨y1, hy1, h'⟩ := bE h; clear h
 refine avc_tail2 y1 (.exit 0) (fun y1 => ⟨[(1, .d (.pt (eCollation.cells a0)))], []⟩) .ret (fun y1 => ⟨[(2, .d (di y1))], []⟩) ?_ ?_ ?_
 ·
  refine avc_loopM (fun x => ⟨[(1, .d (.pt (eCollation.cells a0))), (13, .d (dsl eGroup a0.Groups)), (14, .d (di (a0.Groups.length : Int))), (15, .d (di x))], []⟩) hy1 (weak_cov ⟨rfl, rfl, rfl, rfl, trivial⟩ trivial) ?_
  rintro v15 sy1 hsy1
  replace hsy1 : colltable_checkGroups_L0 a0 v15 = some sy1 := hsy1
  unfold colltable_checkGroups_L0 at hsy1
  refine avc_sq2 <| avc_sq ?_
  refine sqa (a_lss (lq rfl) rfl rfl) ?_
  refine sq_nil <| avc_sq2 ?_
  refine avc_if rfl ⟨fun c1 => ?_, fun c1 => ?_⟩
  ·
   replace hsy1 := cT c1 hsy1
   refine avc_skip <| avc_sq2 <| avc_block <| avc_sq2 <| avc_sq ?_
   obtain ⟨t17, ht17, hsy1'⟩ := bE hsy1; clear hsy1
   refine sqa (m_index (en := eGroup) (lq rfl) S23 rfl rfl ht17) ?_
   refine sqa (m_loadEA (en := eGroup) (l := a0.Groups) (i := v15) (v := t17) (off := 0) (lq rfl) G80 rfl ht17 rfl rfl (by decide)) ?_
   refine sq_b rfl (step_alloc (zs := [(.string ⟨#[]⟩), (.int IntKind.i64 (0)), (.int IntKind.i64 (0))]) (lq rfl) (by kernel_rfl) rfl rfl) ?_
   refine sq_b rfl (s_store_boxA G80 rfl rfl rfl rfl rfl rfl) ?_
   refine sq_nil ?_
   refine avc_weak (weak_freeze (t := 4) (lq rfl) rfl rfl rfl) ?_
   refine avc_sq2 <| avc_sq ?_
   refine sqa (m_fieldPt (lq rfl) L80_0 rfl) ?_
   refine sqa (a_load_ip (lq rfl) O9 rfl rfl) ?_
   obtain ⟨t21, ht21, hsy1⟩ := bE hsy1'; clear hsy1'
   refine sqa (a_call (lq rfl) rfl (colltable_isName_c ht21)) ?_
   refine sqa (a_not (lq rfl) rfl) ?_
   refine sq_nil ?_
   refine avc_if rfl ⟨fun c2 => ?_, fun c2 => ?_⟩
   ·
    replace hsy1 := cT c2 hsy1
    refine avc_sq2 <| avc_sq ?_
    refine sqa (a_assign_d (lq rfl) rfl) ?_
    refine sq_nil ?_
    refine avc_ret ?_
    cases hsy1
    intro q; cases q
    exact ⟨rfl, weak_cov ⟨rfl, trivial⟩ trivial⟩
   ·
    replace hsy1 := cF c2 hsy1
    refine avc_skip <| avc_sq ?_
    refine sqa (m_add (lq rfl) rfl rfl) ?_
    refine sqa (a_move_d (lq rfl) rfl) ?_
    refine sq_nil ?_
    cases hsy1
    exact weak_cov ⟨rfl, rfl, rfl, rfl, trivial⟩ trivial
  ·
   replace hsy1 := cF c1 hsy1
   refine avc_exit ?_
   cases hsy1
   intro q; cases q
   exact ⟨rfl, weak_cov ⟨rfl, trivial⟩ trivial⟩
 ·
  rintro y1 rfl
  replace h' := eL h'
  refine avc_sq2 <| avc_sq ?_
  refine sq_b rfl (m_makeMap (lq rfl) rfl) ?_
  refine sqa (a_assign_row (lq rfl) rfl) ?_
  refine sq_nil <| avc_sq2 <| avc_sq2 <| avc_sq ?_
  refine sqa (m_fieldPt (lq rfl) L25_1 rfl) ?_
  refine sqa (a_load_ip (lq rfl) O23 rfl rfl) ?_
  refine sqa (m_len (en := eGroup) (l := a0.Groups) (lq rfl) S23 rfl) ?_
  refine sqa (a_move_d (lq rfl) rfl) ?_
  refine sq_nil <| avc_block ?_
  obtain ⟨y2, hy2, h⟩ := bE h'; clear h'
  refine avc_tail2 y2 (.exit 2) (fun y2 => ⟨[(1, .d (.pt (eCollation.cells a0)))], []⟩) .ret (fun y2 => ⟨[(2, .d (di y2))], []⟩) ?_ ?_ ?_
  ·
   refine avc_loopM (fun x => ⟨[(1, .d (.pt (eCollation.cells a0))), (5, .row 24), (26, .d (dsl eGroup a0.Groups)), (27, .d (di (a0.Groups.length : Int))), (28, .d (di x.1))], [(24, .map (mapE kS eB x.2))]⟩) hy2 (weak_cov ⟨rfl, rfl, rfl, rfl, rfl, trivial⟩ ⟨rfl, trivial⟩) ?_
   rintro ⟨v28, r24⟩ sy2 hsy2
   replace hsy2 : colltable_checkGroups_L1 a0 v28 r24 = some sy2 := hsy2
   unfold colltable_checkGroups_L1 at hsy2
   refine avc_sq2 <| avc_sq ?_
   refine sqa (a_lss (lq rfl) rfl rfl) ?_
   refine sq_nil <| avc_sq2 ?_
   refine avc_if rfl ⟨fun c3 => ?_, fun c3 => ?_⟩
   ·
    replace hsy2 := cT c3 hsy2
    refine avc_skip <| avc_sq2 <| avc_block <| avc_sq2 <| avc_sq ?_
    obtain ⟨t30, ht30, hsy2'⟩ := bE hsy2; clear hsy2
    refine sqa (m_index (en := eGroup) (lq rfl) S23 rfl rfl ht30) ?_
    refine sqa (m_loadEA (en := eGroup) (l := a0.Groups) (i := v28) (v := t30) (off := 0) (lq rfl) G80 rfl ht30 rfl rfl (by decide)) ?_
    refine sq_b rfl (step_alloc (zs := [(.string ⟨#[]⟩), (.int IntKind.i64 (0)), (.int IntKind.i64 (0))]) (lq rfl) (by kernel_rfl) rfl rfl) ?_
    refine sq_b rfl (s_store_boxA G80 rfl rfl rfl rfl rfl rfl) ?_
    refine sq_nil ?_
    refine avc_weak (weak_freeze (t := 7) (lq rfl) rfl rfl rfl) ?_
    refine avc_sq2 <| avc_sq2 <| avc_sq ?_
    refine sqa (a_move_row (lq rfl) rfl) ?_
    refine sqa (m_fieldPt (lq rfl) L80_0 rfl) ?_
    refine sqa (a_load_ip (lq rfl) O9 rfl rfl) ?_
    refine sqa (m_lookup (kv := kS) (ev := eB) (mp := r24) (k := t30.Name) (zero := false) (lq rfl) M82 K9 rfl rfl rfl (fun _ _ => .v _)) ?_
    refine sq_nil ?_
    refine avc_if rfl ⟨fun c4 => ?_, fun c4 => ?_⟩
    ·
     replace hsy2' := cT c4 hsy2'
     refine avc_sq2 <| avc_sq ?_
     refine sqa (a_assign_d (lq rfl) rfl) ?_
     refine sq_nil ?_
     refine avc_ret ?_
     cases hsy2'
     intro q; cases q
     exact ⟨rfl, weak_cov ⟨rfl, trivial⟩ trivial⟩
    ·
     replace hsy2' := cF c4 hsy2'
     refine avc_skip <| avc_sq ?_
     refine sqa (a_move_row (lq rfl) rfl) ?_
     refine sqa (m_fieldPt (lq rfl) L80_0 rfl) ?_
     refine sqa (a_load_ip (lq rfl) O9 rfl rfl) ?_
     refine sq_b rfl (m_mapUpdate (kv := kS) (ev := eB) (mp := r24) (k := t30.Name) (v := true) M82 K9 rfl rfl rfl rfl rfl rfl) ?_
     refine sq_nil <| avc_sq ?_
     refine sqa (m_add (lq rfl) rfl rfl) ?_
     refine sqa (a_move_d (lq rfl) rfl) ?_
     refine sq_nil ?_
     cases hsy2'
     exact weak_cov ⟨rfl, rfl, rfl, rfl, rfl, trivial⟩ ⟨rfl, trivial⟩
   ·
    replace hsy2 := cF c3 hsy2
    refine avc_exit ?_
    cases hsy2
    intro q; cases q
    exact ⟨rfl, weak_cov ⟨rfl, trivial⟩ trivial⟩
  ·
   rintro y2 rfl
   replace h := eL h
   refine avc_sq2 <| avc_sq2 <| avc_sq ?_
   refine sqa (m_fieldPt (lq rfl) L25_1 rfl) ?_
   refine sqa (a_load_ip (lq rfl) O23 rfl rfl) ?_
   refine sqa (m_len (en := eGroup) (l := a0.Groups) (lq rfl) S23 rfl) ?_
   refine sqa (a_move_d (lq rfl) rfl) ?_
   refine sq_nil <| avc_block ?_
   obtain ⟨y3, hy3, h'⟩ := bE h; clear h
   refine avc_tail2 y3 (.exit 4) (fun y3 => ⟨[(1, .d (.pt (eCollation.cells a0)))], []⟩) .ret (fun y3 => ⟨[(2, .d (di y3))], []⟩) ?_ ?_ ?_
   ·
    refine avc_loopM (fun x => ⟨[(1, .d (.pt (eCollation.cells a0))), (41, .d (dsl eGroup a0.Groups)), (42, .d (di (a0.Groups.length : Int))), (43, .d (di x))], []⟩) hy3 (weak_cov ⟨rfl, rfl, rfl, rfl, trivial⟩ trivial) ?_
    rintro v43 sy3 hsy3
    replace hsy3 : colltable_checkGroups_L2 a0 v43 = some sy3 := hsy3
    unfold colltable_checkGroups_L2 at hsy3
    refine avc_sq2 <| avc_sq ?_
    refine sqa (a_lss (lq rfl) rfl rfl) ?_
    refine sq_nil <| avc_sq2 ?_
    refine avc_if rfl ⟨fun c5 => ?_, fun c5 => ?_⟩
    ·
     replace hsy3 := cT c5 hsy3
     refine avc_skip <| avc_sq2 <| avc_block <| avc_sq2 <| avc_sq ?_
     obtain ⟨t45, ht45, hsy3'⟩ := bE hsy3; clear hsy3
     refine sqa (m_index (en := eGroup) (lq rfl) S23 rfl rfl ht45) ?_
     refine sqa (m_loadEA (en := eGroup) (l := a0.Groups) (i := v43) (v := t45) (off := 0) (lq rfl) G80 rfl ht45 rfl rfl (by decide)) ?_
     refine sq_b rfl (step_alloc (zs := [(.string ⟨#[]⟩), (.int IntKind.i64 (0)), (.int IntKind.i64 (0))]) (lq rfl) (by kernel_rfl) rfl rfl) ?_
     refine sq_b rfl (s_store_boxA G80 rfl rfl rfl rfl rfl rfl) ?_
     refine sq_nil ?_
     refine avc_weak (weak_freeze (t := 9) (lq rfl) rfl rfl rfl) ?_
     refine avc_sq2 <| avc_sq ?_
     refine sqa (m_fieldPt (lq rfl) L80_1 rfl) ?_
     refine sqa (a_load_ip (lq rfl) O3 rfl rfl) ?_
     refine sqa (a_lss (lq rfl) rfl rfl) ?_
     obtain ⟨b50, hb50, hsy3⟩ := bE hsy3'; clear hsy3'
     refine sqa ((a_move_d (lq rfl) rfl).bool (Option.some.inj hb50)) ?_
     refine sq_g (x := .ip (eGroup.cells t45) (0 + 2)) rfl rfl rfl (lq rfl) (lq rfl) rfl (fun hb => by obtain rfl := gF hb; exact m_fieldPt (lq rfl) L80_2 rfl) ?_
     refine sq_g (x := .d (di t45.Hi)) rfl rfl rfl (lq rfl) (lq rfl) rfl (fun hb => by obtain rfl := gF hb; exact a_load_ip (lq rfl) O3 rfl rfl) ?_
     refine sq_g (x := .ip (eGroup.cells t45) (0 + 1)) rfl rfl rfl (lq rfl) (lq rfl) rfl (fun hb => by obtain rfl := gF hb; exact m_fieldPt (lq rfl) L80_1 rfl) ?_
     refine sq_g (x := .d (di t45.Lo)) rfl rfl rfl (lq rfl) (lq rfl) rfl (fun hb => by obtain rfl := gF hb; exact a_load_ip (lq rfl) O3 rfl rfl) ?_
     refine sq_g (x := .d (db (decide (t45.Hi < t45.Lo)))) rfl rfl rfl (lq rfl) (lq rfl) rfl (fun hb => by obtain rfl := gF hb; exact a_lss (lq rfl) rfl rfl) ?_
     refine sqa (a_pick_or (lq rfl) rfl rfl) ?_
     obtain ⟨b57, hb57, hsy3'⟩ := bE hsy3; clear hsy3
     refine sqa ((a_move_d (lq rfl) rfl).bool (Option.some.inj hb57)) ?_
     refine sq_g (x := .ip (eGroup.cells t45) (0 + 2)) rfl rfl rfl (lq rfl) (lq rfl) rfl (fun hb => by obtain rfl := gF hb; exact m_fieldPt (lq rfl) L80_2 rfl) ?_
     refine sq_g (x := .d (di t45.Hi)) rfl rfl rfl (lq rfl) (lq rfl) rfl (fun hb => by obtain rfl := gF hb; exact a_load_ip (lq rfl) O3 rfl rfl) ?_
     refine sq_g (x := .ip (eCollation.cells a0) (0 + 2)) rfl rfl rfl (lq rfl) (lq rfl) rfl (fun hb => by obtain rfl := gF hb; exact m_fieldPt (lq rfl) L25_2 rfl) ?_
     refine sq_g (x := .d (di a0.Base)) rfl rfl rfl (lq rfl) (lq rfl) rfl (fun hb => by obtain rfl := gF hb; exact a_load_ip (lq rfl) O3 rfl rfl) ?_
     refine sq_g (x := .d (db (decide (a0.Base ≤ t45.Hi)))) rfl rfl rfl (lq rfl) (lq rfl) rfl (fun hb => by obtain rfl := gF hb; exact a_geq (lq rfl) rfl rfl) ?_
     refine sqa (a_pick_or (lq rfl) rfl rfl) ?_
     refine sq_nil ?_
     refine avc_if rfl ⟨fun c6 => ?_, fun c6 => ?_⟩
     ·
      replace hsy3' := cT c6 hsy3'
      refine avc_sq2 <| avc_sq ?_
      refine sqa (a_assign_d (lq rfl) rfl) ?_
      refine sq_nil ?_
      refine avc_ret ?_
      cases hsy3'
      intro q; cases q
      exact ⟨rfl, weak_cov ⟨rfl, trivial⟩ trivial⟩
     ·
      replace hsy3' := cF c6 hsy3'
      refine avc_skip <| avc_sq ?_
      refine sqa (m_add (lq rfl) rfl rfl) ?_
      refine sqa (a_move_d (lq rfl) rfl) ?_
      refine sq_nil ?_
      cases hsy3'
      exact weak_cov ⟨rfl, rfl, rfl, rfl, trivial⟩ trivial
    ·
     replace hsy3 := cF c5 hsy3
     refine avc_exit ?_
     cases hsy3
     intro q; cases q
     exact ⟨rfl, weak_cov ⟨rfl, trivial⟩ trivial⟩
   ·
    rintro y3 rfl
    replace h' := eL h'
    refine avc_sq2 <| avc_sq2 <| avc_sq ?_
    refine sqa (m_fieldPt (lq rfl) L25_1 rfl) ?_
    refine sqa (a_load_ip (lq rfl) O23 rfl rfl) ?_
    refine sqa (m_len (en := eGroup) (l := a0.Groups) (lq rfl) S23 rfl) ?_
    refine sqa (a_move_d (lq rfl) rfl) ?_
    refine sq_nil <| avc_block ?_
    obtain ⟨y4, hy4, h⟩ := bE h'; clear h'
    refine avc_tail2 y4 (.exit 6) (fun y4 => ⟨[], []⟩) .ret (fun y4 => ⟨[(2, .d (di y4))], []⟩) ?_ ?_ ?_
    ·
     refine avc_loopM (fun x => ⟨[(1, .d (.pt (eCollation.cells a0))), (66, .d (dsl eGroup a0.Groups)), (67, .d (di (a0.Groups.length : Int))), (68, .d (di x))], []⟩) hy4 (weak_cov ⟨rfl, rfl, rfl, rfl, trivial⟩ trivial) ?_
     rintro v68 sy4 hsy4
     replace hsy4 : colltable_checkGroups_L3 a0 v68 = some sy4 := hsy4
     unfold colltable_checkGroups_L3 at hsy4
     refine avc_sq2 <| avc_sq ?_
     refine sqa (a_lss (lq rfl) rfl rfl) ?_
     refine sq_nil <| avc_sq2 ?_
     refine avc_if rfl ⟨fun c7 => ?_, fun c7 => ?_⟩
     ·
      replace hsy4 := cT c7 hsy4
      refine avc_skip <| avc_sq2 <| avc_block <| avc_sq2 <| avc_sq ?_
      refine sqa (a_move_d (lq rfl) rfl) ?_
      obtain ⟨t71, ht71, hsy4'⟩ := bE hsy4; clear hsy4
      refine sqa (m_index (en := eGroup) (lq rfl) S23 rfl rfl ht71) ?_
      refine sqa (m_loadEA (en := eGroup) (l := a0.Groups) (i := v68) (v := t71) (off := 0) (lq rfl) G80 rfl ht71 rfl rfl (by decide)) ?_
      refine sq_b rfl (step_alloc (zs := [(.string ⟨#[]⟩), (.int IntKind.i64 (0)), (.int IntKind.i64 (0))]) (lq rfl) (by kernel_rfl) rfl rfl) ?_
      refine sqa (a_assign_d (lq rfl) rfl) ?_
      refine sq_b rfl (s_store_boxA G80 rfl rfl rfl rfl rfl rfl) ?_
      refine sq_nil ?_
      refine avc_weak (weak_freeze (t := 11) (lq rfl) rfl rfl rfl) ?_
      refine avc_sq2 ?_
      refine avc_drawA MX rfl ?_
      refine daa (a_move_d (lq rfl) rfl) ?_
      refine daa (a_gtr (lq rfl) rfl rfl) ?_
      obtain ⟨b75, hb75, hsy4⟩ := bE hsy4'; clear hsy4'
      refine daa ((a_move_d (lq rfl) rfl).bool (Option.some.inj hb75)) ?_
      refine da_g (x := .ip (eGroup.cells t71) (0 + 1)) rfl rfl rfl (lq rfl) (lq rfl) rfl (fun hb => by obtain rfl : b75 = true := hb; exact m_fieldPt (lq rfl) L80_1 rfl) ?_
      refine da_g (x := .d (di t71.Lo)) rfl rfl rfl (lq rfl) (lq rfl) rfl (fun hb => by obtain rfl : b75 = true := hb; exact a_load_ip (lq rfl) O3 rfl rfl) ?_
      refine da_g (x := .ip (eCollation.cells a0) (0 + 1)) rfl rfl rfl (lq rfl) (lq rfl) rfl (fun hb => by obtain rfl : b75 = true := hb; exact m_fieldPt (lq rfl) L25_1 rfl) ?_
      refine da_g (x := .d (dsl eGroup a0.Groups)) rfl rfl rfl (lq rfl) (lq rfl) rfl (fun hb => by obtain rfl : b75 = true := hb; exact a_load_ip (lq rfl) O23 rfl rfl) ?_
      refine da_g (x := .d (di v68)) rfl rfl rfl (lq rfl) (lq rfl) rfl (fun hb => by obtain rfl : b75 = true := hb; exact a_move_d (lq rfl) rfl) ?_
      refine da_g (x := .d (di (wi (v68 - 1)))) rfl rfl rfl (lq rfl) (lq rfl) rfl (fun hb => by obtain rfl : b75 = true := hb; exact m_sub (lq rfl) rfl rfl) ?_
      obtain ⟨t82, ht82, hsy4'⟩ := bE hsy4; clear hsy4
      refine da_g (x := .ip (eGroup.all a0.Groups) ((wi (v68 - 1)).toNat * eGroup.size)) rfl rfl rfl (lq rfl) (lq rfl) rfl (fun hb => by obtain rfl : b75 = true := hb; exact m_index (en := eGroup) (lq rfl) S23 rfl rfl ht82) ?_
      refine da_g (x := .ip (eGroup.all a0.Groups) ((wi (v68 - 1)).toNat * eGroup.size + 2)) rfl rfl rfl (lq rfl) (lq rfl) rfl (fun hb => by obtain rfl : b75 = true := hb; exact a_fieldAddr_ip (lq rfl) L80_2 rfl) ?_
      refine da_g (x := .d (di t82.Hi)) rfl rfl rfl (lq rfl) (lq rfl) rfl (fun hb => by obtain rfl : b75 = true := hb; exact m_loadE (en := eGroup) (l := a0.Groups) (i := (wi (v68 - 1))) (v := t82) (off := 2) (lq rfl) O3 rfl ht82 rfl) ?_
      refine da_g (x := .d (di (wi (t82.Hi + 1)))) rfl rfl rfl (lq rfl) (lq rfl) rfl (fun hb => by obtain rfl : b75 = true := hb; exact m_add (lq rfl) rfl rfl) ?_
      refine da_g (x := .d (db (!decide (t71.Lo = (wi (t82.Hi + 1)))))) rfl rfl rfl (lq rfl) (lq rfl) rfl (fun hb => by obtain rfl : b75 = true := hb; exact a_neq (lq rfl) rfl rfl) ?_
      refine daa (a_pick_and (lq rfl) rfl rfl) ?_
      refine da_nil ?_
      refine avc_if rfl ⟨fun c8 => ?_, fun c8 => ?_⟩
      ·
       replace hsy4' := cT c8 hsy4'
       refine avc_sq2 <| avc_sq ?_
       refine sqa (a_assign_d (lq rfl) rfl) ?_
       refine sq_nil ?_
       refine avc_ret ?_
       cases hsy4'
       intro q; cases q
       exact ⟨rfl, weak_cov ⟨rfl, trivial⟩ trivial⟩
      ·
       replace hsy4' := cF c8 hsy4'
       refine avc_skip <| avc_sq ?_
       refine sqa (m_add (lq rfl) rfl rfl) ?_
       refine sqa (a_move_d (lq rfl) rfl) ?_
       refine sq_nil ?_
       cases hsy4'
       exact weak_cov ⟨rfl, rfl, rfl, rfl, trivial⟩ trivial
     ·
      replace hsy4 := cF c7 hsy4
      refine avc_exit ?_
      cases hsy4
      intro q; cases q
      exact ⟨rfl, weak_cov trivial trivial⟩
    ·
     rintro y4 rfl
     replace h := eL h
     refine avc_sq2 <| avc_sq ?_
     refine sqa (a_assign_d (lq rfl) rfl) ?_
     refine sq_nil ?_
     cases h
     refine avc_ret ?_
     exact ret_1 rfl
    ·
     rintro y4 rfl
     replace h := eR h
     cases h
     exact ret_1 rfl
   ·
    rintro y3 rfl
    replace h' := eR h'
    cases h'
    exact ret_1 rfl
  ·
   rintro y2 rfl
   replace h := eR h
   cases h
   exact ret_1 rfl
 ·
  rintro y1 rfl
  replace h' := eR h'
  cases h'
  exact ret_1 rfl
theorem codepoint_Valid_c  {a0 : Int}  {r : Bool} (h : codepoint_Valid a0 = some r) : Contract Tryd.prog 46 [(di a0)] [(db r)] := by
 refine contract_of Tryd.func46 (by kernel_rfl) rfl (lq rfl) (lq rfl) fun w0 I0 hI0 hG0 => ?_
 unfold codepoint_Valid at h
 refine avc_sq2 <| avc_sq ?_
 refine sqa (a_assign_d (lq rfl) rfl) ?_
 refine sq_nil <| avc_sq2 <| avc_sq ?_
 refine sqa (a_move_d (lq rfl) rfl) ?_
 refine sqa (a_geq (lq rfl) rfl rfl) ?_
 obtain ⟨b5, hb5, h'⟩ := bE h; clear h
 refine sqa ((a_move_d (lq rfl) rfl).bool (Option.some.inj hb5)) ?_
 refine sq_g (x := .d (di a0)) rfl rfl rfl (lq rfl) (lq rfl) rfl (fun hb => by obtain rfl : b5 = true := hb; exact a_move_d (lq rfl) rfl) ?_
 refine sq_g (x := .d (db (decide (a0 ≤ 1114111)))) rfl rfl rfl (lq rfl) (lq rfl) rfl (fun hb => by obtain rfl : b5 = true := hb; exact a_leq (lq rfl) rfl rfl) ?_
 refine sqa (a_pick_and (lq rfl) rfl rfl) ?_
 refine sqa (a_assign_d (lq rfl) rfl) ?_
 refine sq_nil ?_
 cases h'
 refine avc_ret ?_
 exact ret_1 rfl
theorem element_Check_c  {a0 : Element}  {r : Int} (h : element_Check a0 = some r) : Contract Tryd.prog 47 [(eElement.dv a0)] [(di r)] := by
 refine contract_of Tryd.func47 (by kernel_rfl) rfl (lq rfl) (lq rfl) fun w0 I0 hI0 hG0 => ?_
 unfold element_Check at h
 refine avc_sq2 <| avc_sq ?_
 refine sqa (m_box (size := 4) (lq rfl) rfl rfl) ?_
 refine sqa (a_assign_d (lq rfl) rfl) ?_
 refine sq_nil <| avc_sq2 <| avc_sq2 <| avc_sq ?_
 refine sqa (m_fieldPt (lq rfl) L63_0 rfl) ?_
 refine sqa (a_load_ip (lq rfl) O3 rfl rfl) ?_
 refine sqa (m_fieldPt (lq rfl) L63_1 rfl) ?_
 refine sqa (a_load_ip (lq rfl) O3 rfl rfl) ?_
 refine sqa (m_fieldPt (lq rfl) L63_2 rfl) ?_
 refine sqa (a_load_ip (lq rfl) O3 rfl rfl) ?_
 refine sqa (m_abuild (lq rfl) A107 rfl rfl) ?_
 refine sqa (a_move_d (lq rfl) rfl) ?_
 refine sq_nil <| avc_block ?_
 obtain ⟨y1, hy1, h'⟩ := bE h; clear h
 refine avc_tail2 y1 (.exit 0) (fun y1 => ⟨[(1, .d (.pt (eElement.cells a0)))], []⟩) .ret (fun y1 => ⟨[(2, .d (di y1))], []⟩) ?_ ?_ ?_
 ·
  refine avc_loopM (fun x => ⟨[(1, .d (.pt (eElement.cells a0))), (11, .d (eA3Int.dv ({ x0 := a0.Primary, x1 := a0.Secondary, x2 := a0.Tertiary } : A3Int))), (12, .d (di x))], []⟩) hy1 (weak_cov ⟨rfl, rfl, rfl, trivial⟩ trivial) ?_
  rintro v12 sy1 hsy1
  replace hsy1 : element_Check_L0 a0 v12 = some sy1 := hsy1
  unfold element_Check_L0 at hsy1
  refine avc_sq2 <| avc_sq ?_
  refine sqa (a_lss (lq rfl) rfl rfl) ?_
  refine sq_nil <| avc_sq2 ?_
  refine avc_if rfl ⟨fun c1 => ?_, fun c1 => ?_⟩
  ·
   replace hsy1 := cT c1 hsy1
   refine avc_skip <| avc_sq2 <| avc_block <| avc_sq2 <| avc_sq ?_
   obtain ⟨t14, ht14, hsy1'⟩ := bE hsy1; clear hsy1
   refine sqa (m_aindex (en := eI) (l := [({ x0 := a0.Primary, x1 := a0.Secondary, x2 := a0.Tertiary } : A3Int).x0, ({ x0 := a0.Primary, x1 := a0.Secondary, x2 := a0.Tertiary } : A3Int).x1, ({ x0 := a0.Primary, x1 := a0.Secondary, x2 := a0.Tertiary } : A3Int).x2]) (lq rfl) A107 O3 (fun _ => rfl) rfl rfl rfl ht14) ?_
   refine sqa (a_assign_d (lq rfl) rfl) ?_
   refine sq_nil <| avc_sq2 <| avc_sq ?_
   refine sqa (a_move_d (lq rfl) rfl) ?_
   refine sqa (a_lss (lq rfl) rfl rfl) ?_
   obtain ⟨b17, hb17, hsy1⟩ := bE hsy1'; clear hsy1'
   refine sqa ((a_move_d (lq rfl) rfl).bool (Option.some.inj hb17)) ?_
   refine sq_g (x := .d (di t14)) rfl rfl rfl (lq rfl) (lq rfl) rfl (fun hb => by obtain rfl := gF hb; exact a_move_d (lq rfl) rfl) ?_
   refine sq_g (x := .d (db (decide (65535 < t14)))) rfl rfl rfl (lq rfl) (lq rfl) rfl (fun hb => by obtain rfl := gF hb; exact a_gtr (lq rfl) rfl rfl) ?_
   refine sqa (a_pick_or (lq rfl) rfl rfl) ?_
   refine sq_nil ?_
   refine avc_if rfl ⟨fun c2 => ?_, fun c2 => ?_⟩
   ·
    replace hsy1 := cT c2 hsy1
    refine avc_sq2 <| avc_sq ?_
    refine sqa (a_assign_d (lq rfl) rfl) ?_
    refine sq_nil ?_
    refine avc_ret ?_
    cases hsy1
    intro q; cases q
    exact ⟨rfl, weak_cov ⟨rfl, trivial⟩ trivial⟩
   ·
    replace hsy1 := cF c2 hsy1
    refine avc_skip <| avc_sq ?_
    refine sqa (m_add (lq rfl) rfl rfl) ?_
    refine sqa (a_move_d (lq rfl) rfl) ?_
    refine sq_nil ?_
    cases hsy1
    exact weak_cov ⟨rfl, rfl, rfl, trivial⟩ trivial
  ·
   replace hsy1 := cF c1 hsy1
   refine avc_exit ?_
   cases hsy1
   intro q; cases q
   exact ⟨rfl, weak_cov ⟨rfl, trivial⟩ trivial⟩
 ·
  rintro y1 rfl
  replace h' := eL h'
  refine avc_sq2 <| avc_block <| avc_sq2 <| avc_sq ?_
  refine sqa (m_fieldPt (lq rfl) L63_0 rfl) ?_
  refine sqa (a_load_ip (lq rfl) O3 rfl rfl) ?_
  refine sqa (a_neq (lq rfl) rfl rfl) ?_
  obtain ⟨b26, hb26, h⟩ := bE h'; clear h'
  refine sqa ((a_move_d (lq rfl) rfl).bool (Option.some.inj hb26)) ?_
  refine sq_g (x := .ip (eElement.cells a0) (0 + 1)) rfl rfl rfl (lq rfl) (lq rfl) rfl (fun hb => by obtain rfl : b26 = true := hb; exact m_fieldPt (lq rfl) L63_1 rfl) ?_
  refine sq_g (x := .d (di a0.Secondary)) rfl rfl rfl (lq rfl) (lq rfl) rfl (fun hb => by obtain rfl : b26 = true := hb; exact a_load_ip (lq rfl) O3 rfl rfl) ?_
  refine sq_g (x := .d (db (decide (a0.Secondary = 0)))) rfl rfl rfl (lq rfl) (lq rfl) rfl (fun hb => by obtain rfl : b26 = true := hb; exact a_eql (lq rfl) rfl rfl) ?_
  obtain ⟨b30, hb30, h'⟩ := bE h; clear h
  refine sq_g (x := .d (db b30)) rfl rfl rfl (lq rfl) (lq rfl) rfl (fun hb => by obtain rfl : b26 = true := hb; exact (a_move_d (lq rfl) rfl).bool (Option.some.inj hb30)) ?_
  refine sq_g2 (x := .ip (eElement.cells a0) (0 + 2)) rfl rfl rfl (lq rfl) (lq rfl) rfl (fun hb => by obtain ⟨hb, hb1⟩ := and_split hb; obtain rfl : b26 = true := hb; obtain rfl := gF hb1; exact m_fieldPt (lq rfl) L63_2 rfl) ?_
  refine sq_g2 (x := .d (di a0.Tertiary)) rfl rfl rfl (lq rfl) (lq rfl) rfl (fun hb => by obtain ⟨hb, hb1⟩ := and_split hb; obtain rfl : b26 = true := hb; obtain rfl := gF hb1; exact a_load_ip (lq rfl) O3 rfl rfl) ?_
  refine sq_g2 (x := .d (db (decide (a0.Tertiary = 0)))) rfl rfl rfl (lq rfl) (lq rfl) rfl (fun hb => by obtain ⟨hb, hb1⟩ := and_split hb; obtain rfl : b26 = true := hb; obtain rfl := gF hb1; exact a_eql (lq rfl) rfl rfl) ?_
  refine sq_g (x := .d (db (b30 || (decide (a0.Tertiary = 0))))) rfl rfl rfl (lq rfl) (lq rfl) rfl (fun hb => by obtain rfl : b26 = true := hb; exact a_pick_or (lq rfl) rfl rfl) ?_
  refine sqa (a_pick_and (lq rfl) rfl rfl) ?_
  refine sqa (a_assign_d (lq rfl) rfl) ?_
  refine sq_nil ?_
  refine avc_if rfl ⟨fun c3 => ?_, fun c3 => ?_⟩
  ·
   replace h' := cT c3 h'
   refine avc_sq2 <| avc_sq ?_
   refine sqa (a_assign_d (lq rfl) rfl) ?_
   refine sq_nil ?_
   cases h'
   refine avc_ret ?_
   exact ret_1 rfl
  ·
   replace h' := cF c3 h'
   refine avc_sq2 <| avc_sq ?_
   refine sqa (m_fieldPt (lq rfl) L63_1 rfl) ?_
   refine sqa (a_load_ip (lq rfl) O3 rfl rfl) ?_
   refine sqa (a_neq (lq rfl) rfl rfl) ?_
   obtain ⟨b40, hb40, h⟩ := bE h'; clear h'
   refine sqa ((a_move_d (lq rfl) rfl).bool (Option.some.inj hb40)) ?_
   refine sq_g (x := .ip (eElement.cells a0) (0 + 2)) rfl rfl rfl (lq rfl) (lq rfl) rfl (fun hb => by obtain rfl : b40 = true := hb; exact m_fieldPt (lq rfl) L63_2 rfl) ?_
   refine sq_g (x := .d (di a0.Tertiary)) rfl rfl rfl (lq rfl) (lq rfl) rfl (fun hb => by obtain rfl : b40 = true := hb; exact a_load_ip (lq rfl) O3 rfl rfl) ?_
   refine sq_g (x := .d (db (decide (a0.Tertiary = 0)))) rfl rfl rfl (lq rfl) (lq rfl) rfl (fun hb => by obtain rfl : b40 = true := hb; exact a_eql (lq rfl) rfl rfl) ?_
   refine sqa (a_pick_and (lq rfl) rfl rfl) ?_
   refine sqa (a_assign_d (lq rfl) rfl) ?_
   refine sq_nil ?_
   refine avc_if rfl ⟨fun c4 => ?_, fun c4 => ?_⟩
   ·
    replace h := cT c4 h
    refine avc_sq2 <| avc_sq ?_
    refine sqa (a_assign_d (lq rfl) rfl) ?_
    refine sq_nil ?_
    cases h
    refine avc_ret ?_
    exact ret_1 rfl
   ·
    replace h := cF c4 h
    refine avc_sq2 <| avc_sq ?_
    refine sqa (m_fieldPt (lq rfl) L63_3 rfl) ?_
    refine sqa (a_load_ip (lq rfl) O4 rfl rfl) ?_
    obtain ⟨b48, hb48, h'⟩ := bE h; clear h
    refine sqa ((a_move_d (lq rfl) rfl).bool (Option.some.inj hb48)) ?_
    refine sq_g (x := .ip (eElement.cells a0) (0 + 0)) rfl rfl rfl (lq rfl) (lq rfl) rfl (fun hb => by obtain rfl : b48 = true := hb; exact m_fieldPt (lq rfl) L63_0 rfl) ?_
    refine sq_g (x := .d (di a0.Primary)) rfl rfl rfl (lq rfl) (lq rfl) rfl (fun hb => by obtain rfl : b48 = true := hb; exact a_load_ip (lq rfl) O3 rfl rfl) ?_
    refine sq_g (x := .d (db (decide (a0.Primary = 0)))) rfl rfl rfl (lq rfl) (lq rfl) rfl (fun hb => by obtain rfl : b48 = true := hb; exact a_eql (lq rfl) rfl rfl) ?_
    refine sqa (a_pick_and (lq rfl) rfl rfl) ?_
    refine sqa (a_assign_d (lq rfl) rfl) ?_
    refine sq_nil ?_
    refine avc_if rfl ⟨fun c5 => ?_, fun c5 => ?_⟩
    ·
     replace h' := cT c5 h'
     refine avc_sq2 <| avc_sq ?_
     refine sqa (a_assign_d (lq rfl) rfl) ?_
     refine sq_nil ?_
     cases h'
     refine avc_ret ?_
     exact ret_1 rfl
    ·
     replace h' := cF c5 h'
     refine avc_skip <| avc_sq2 <| avc_sq ?_
     refine sqa (a_assign_d (lq rfl) rfl) ?_
     refine sq_nil ?_
     cases h'
     refine avc_ret ?_
     exact ret_1 rfl
 ·
  rintro y1 rfl
  replace h' := eR h'
  cases h'
  exact ret_1 rfl
theorem colltable_checkEntry_c  {a0 : Entry} {a1 : Int}  {r : Int} (h : colltable_checkEntry a0 a1 = some r) : Contract Tryd.prog 25 [(eEntry.dv a0), (di a1)] [(di r)] := by
 refine contract_of Tryd.func25 (by kernel_rfl) rfl (lq rfl) (lq rfl) fun w0 I0 hI0 hG0 => ?_
 unfold colltable_checkEntry at h
 refine avc_sq2 <| avc_sq ?_
 refine sqa (m_box (size := 2) (lq rfl) rfl rfl) ?_
 refine sqa (a_assign_d (lq rfl) rfl) ?_
 refine sq_nil <| avc_sq2 <| avc_sq2 <| avc_sq ?_
 refine sqa (m_fieldPt (lq rfl) L55_0 rfl) ?_
 refine sqa (a_load_ip (lq rfl) O30 rfl rfl) ?_
 refine sqa (m_len (en := eI) (l := a0.Codes) (lq rfl) S30 rfl) ?_
 refine sqa (a_lss (lq rfl) rfl rfl) ?_
 obtain ⟨b16, hb16, h'⟩ := bE h; clear h
 refine sqa ((a_move_d (lq rfl) rfl).bool (Option.some.inj hb16)) ?_
 refine sq_g (x := .ip (eEntry.cells a0) (0 + 0)) rfl rfl rfl (lq rfl) (lq rfl) rfl (fun hb => by obtain rfl := gF hb; exact m_fieldPt (lq rfl) L55_0 rfl) ?_
 refine sq_g (x := .d (dsl eI a0.Codes)) rfl rfl rfl (lq rfl) (lq rfl) rfl (fun hb => by obtain rfl := gF hb; exact a_load_ip (lq rfl) O30 rfl rfl) ?_
 refine sq_g (x := .d (di (a0.Codes.length : Int))) rfl rfl rfl (lq rfl) (lq rfl) rfl (fun hb => by obtain rfl := gF hb; exact m_len (en := eI) (l := a0.Codes) (lq rfl) S30 rfl) ?_
 refine sq_g (x := .d (db (decide (8 < (a0.Codes.length : Int))))) rfl rfl rfl (lq rfl) (lq rfl) rfl (fun hb => by obtain rfl := gF hb; exact a_gtr (lq rfl) rfl rfl) ?_
 refine sqa (a_pick_or (lq rfl) rfl rfl) ?_
 obtain ⟨b22, hb22, h⟩ := bE h'; clear h'
 refine sqa ((a_move_d (lq rfl) rfl).bool (Option.some.inj hb22)) ?_
 refine sq_g (x := .ip (eEntry.cells a0) (0 + 1)) rfl rfl rfl (lq rfl) (lq rfl) rfl (fun hb => by obtain rfl := gF hb; exact m_fieldPt (lq rfl) L55_1 rfl) ?_
 refine sq_g (x := .d (dsl eElement a0.Elements)) rfl rfl rfl (lq rfl) (lq rfl) rfl (fun hb => by obtain rfl := gF hb; exact a_load_ip (lq rfl) O31 rfl rfl) ?_
 refine sq_g (x := .d (di (a0.Elements.length : Int))) rfl rfl rfl (lq rfl) (lq rfl) rfl (fun hb => by obtain rfl := gF hb; exact m_len (en := eElement) (l := a0.Elements) (lq rfl) S31 rfl) ?_
 refine sq_g (x := .d (db (decide (16 < (a0.Elements.length : Int))))) rfl rfl rfl (lq rfl) (lq rfl) rfl (fun hb => by obtain rfl := gF hb; exact a_gtr (lq rfl) rfl rfl) ?_
 refine sqa (a_pick_or (lq rfl) rfl rfl) ?_
 refine sq_nil ?_
 refine avc_if rfl ⟨fun c1 => ?_, fun c1 => ?_⟩
 ·
  replace h := cT c1 h
  refine avc_sq2 <| avc_sq ?_
  refine sqa (a_assign_d (lq rfl) rfl) ?_
  refine sq_nil ?_
  cases h
  refine avc_ret ?_
  exact ret_1 rfl
 ·
  replace h := cF c1 h
  refine avc_skip <| avc_sq2 <| avc_sq2 <| avc_sq ?_
  refine sqa (m_fieldPt (lq rfl) L55_0 rfl) ?_
  refine sqa (a_load_ip (lq rfl) O30 rfl rfl) ?_
  refine sqa (m_len (en := eI) (l := a0.Codes) (lq rfl) S30 rfl) ?_
  refine sqa (a_move_d (lq rfl) rfl) ?_
  refine sq_nil <| avc_block ?_
  obtain ⟨y1, hy1, h'⟩ := bE h; clear h
  refine avc_tail2 y1 (.exit 0) (fun y1 => ⟨[(1, .d (di a1)), (2, .d (.pt (eEntry.cells a0)))], []⟩) .ret (fun y1 => ⟨[(4, .d (di y1))], []⟩) ?_ ?_ ?_
  ·
   refine avc_loopM (fun x => ⟨[(1, .d (di a1)), (2, .d (.pt (eEntry.cells a0))), (29, .d (dsl eI a0.Codes)), (30, .d (di (a0.Codes.length : Int))), (31, .d (di x))], []⟩) hy1 (weak_cov ⟨rfl, rfl, rfl, rfl, rfl, trivial⟩ trivial) ?_
   rintro v31 sy1 hsy1
   replace hsy1 : colltable_checkEntry_L0 a0 v31 = some sy1 := hsy1
   unfold colltable_checkEntry_L0 at hsy1
   refine avc_sq2 <| avc_sq ?_
   refine sqa (a_lss (lq rfl) rfl rfl) ?_
   refine sq_nil <| avc_sq2 ?_
   refine avc_if rfl ⟨fun c2 => ?_, fun c2 => ?_⟩
   ·
    replace hsy1 := cT c2 hsy1
    refine avc_skip <| avc_sq2 <| avc_block <| avc_sq2 <| avc_sq ?_
    obtain ⟨t33, ht33, hsy1'⟩ := bE hsy1; clear hsy1
    refine sqa (m_index (en := eI) (lq rfl) S30 rfl rfl ht33) ?_
    refine sqa (m_loadE (en := eI) (l := a0.Codes) (i := v31) (v := t33) (off := 0) (lq rfl) O3 rfl ht33 rfl) ?_
    refine sqa (a_assign_d (lq rfl) rfl) ?_
    refine sq_nil <| avc_sq2 <| avc_sq ?_
    refine sqa (a_move_d (lq rfl) rfl) ?_
    obtain ⟨t36, ht36, hsy1⟩ := bE hsy1'; clear hsy1'
    refine sqa (a_call (lq rfl) rfl (codepoint_Valid_c ht36)) ?_
    refine sqa (a_not (lq rfl) rfl) ?_
    refine sq_nil ?_
    refine avc_if rfl ⟨fun c3 => ?_, fun c3 => ?_⟩
    ·
     replace hsy1 := cT c3 hsy1
     refine avc_sq2 <| avc_sq ?_
     refine sqa (a_assign_d (lq rfl) rfl) ?_
     refine sq_nil ?_
     refine avc_ret ?_
     cases hsy1
     intro q; cases q
     exact ⟨rfl, weak_cov ⟨rfl, trivial⟩ trivial⟩
    ·
     replace hsy1 := cF c3 hsy1
     refine avc_skip <| avc_sq ?_
     refine sqa (m_add (lq rfl) rfl rfl) ?_
     refine sqa (a_move_d (lq rfl) rfl) ?_
     refine sq_nil ?_
     cases hsy1
     exact weak_cov ⟨rfl, rfl, rfl, rfl, rfl, trivial⟩ trivial
   ·
    replace hsy1 := cF c2 hsy1
    refine avc_exit ?_
    cases hsy1
    intro q; cases q
    exact ⟨rfl, weak_cov ⟨rfl, rfl, trivial⟩ trivial⟩
  ·
   rintro y1 rfl
   replace h' := eL h'
   refine avc_sq2 <| avc_sq2 <| avc_sq ?_
   refine sqa (m_fieldPt (lq rfl) L55_1 rfl) ?_
   refine sqa (a_load_ip (lq rfl) O31 rfl rfl) ?_
   refine sqa (m_len (en := eElement) (l := a0.Elements) (lq rfl) S31 rfl) ?_
   refine sqa (a_move_d (lq rfl) rfl) ?_
   refine sq_nil <| avc_block ?_
   obtain ⟨y2, hy2, h⟩ := bE h'; clear h'
   refine avc_tail2 y2 (.exit 2) (fun y2 => ⟨[(1, .d (di a1)), (2, .d (.pt (eEntry.cells a0)))], []⟩) .ret (fun y2 => ⟨[(4, .d (di y2))], []⟩) ?_ ?_ ?_
   ·
    refine avc_loopM (fun x => ⟨[(1, .d (di a1)), (2, .d (.pt (eEntry.cells a0))), (40, .d (dsl eElement a0.Elements)), (41, .d (di (a0.Elements.length : Int))), (42, .d (di x))], []⟩) hy2 (weak_cov ⟨rfl, rfl, rfl, rfl, rfl, trivial⟩ trivial) ?_
    rintro v42 sy2 hsy2
    replace hsy2 : colltable_checkEntry_L1 a0 v42 = some sy2 := hsy2
    unfold colltable_checkEntry_L1 at hsy2
    refine avc_sq2 <| avc_sq ?_
    refine sqa (a_lss (lq rfl) rfl rfl) ?_
    refine sq_nil <| avc_sq2 ?_
    refine avc_if rfl ⟨fun c4 => ?_, fun c4 => ?_⟩
    ·
     replace hsy2 := cT c4 hsy2
     refine avc_skip <| avc_sq2 <| avc_block <| avc_sq2 <| avc_sq ?_
     obtain ⟨t44, ht44, hsy2'⟩ := bE hsy2; clear hsy2
     refine sqa (m_index (en := eElement) (lq rfl) S31 rfl rfl ht44) ?_
     refine sqa (m_loadEA (en := eElement) (l := a0.Elements) (i := v42) (v := t44) (off := 0) (lq rfl) G63 rfl ht44 rfl rfl (by decide)) ?_
     refine sq_b rfl (step_alloc (zs := [(.int IntKind.i64 (0)), (.int IntKind.i64 (0)), (.int IntKind.i64 (0)), (.bool false)]) (lq rfl) (by kernel_rfl) rfl rfl) ?_
     refine sq_b rfl (s_store_boxA G63 rfl rfl rfl rfl rfl rfl) ?_
     refine sq_nil ?_
     refine avc_weak (weak_freeze (t := 8) (lq rfl) rfl rfl rfl) ?_
     refine avc_sq2 <| avc_sq ?_
     refine sqa (m_loadPt (lq rfl) G63 rfl rfl) ?_
     obtain ⟨t47, ht47, hsy2⟩ := bE hsy2'; clear hsy2'
     refine sqa (a_call (lq rfl) rfl (element_Check_c ht47)) ?_
     refine sqa (a_assign_d (lq rfl) rfl) ?_
     refine sq_nil <| avc_sq2 <| avc_sq ?_
     refine sqa (a_move_d (lq rfl) rfl) ?_
     refine sqa (a_neq (lq rfl) rfl rfl) ?_
     refine sq_nil ?_
     refine avc_if rfl ⟨fun c5 => ?_, fun c5 => ?_⟩
     ·
      replace hsy2 := cT c5 hsy2
      refine avc_sq2 <| avc_sq ?_
      refine sqa (a_move_d (lq rfl) rfl) ?_
      refine sqa (a_assign_d (lq rfl) rfl) ?_
      refine sq_nil ?_
      refine avc_ret ?_
      cases hsy2
      intro q; cases q
      exact ⟨rfl, weak_cov ⟨rfl, trivial⟩ trivial⟩
     ·
      replace hsy2 := cF c5 hsy2
      refine avc_skip <| avc_sq ?_
      refine sqa (m_add (lq rfl) rfl rfl) ?_
      refine sqa (a_move_d (lq rfl) rfl) ?_
      refine sq_nil ?_
      cases hsy2
      exact weak_cov ⟨rfl, rfl, rfl, rfl, rfl, trivial⟩ trivial
    ·
     replace hsy2 := cF c4 hsy2
     refine avc_exit ?_
     cases hsy2
     intro q; cases q
     exact ⟨rfl, weak_cov ⟨rfl, rfl, trivial⟩ trivial⟩
   ·
    rintro y2 rfl
    replace h := eL h
    refine avc_sq2 <| avc_sq2 <| avc_sq ?_
    refine sqa (m_fieldPt (lq rfl) L55_1 rfl) ?_
    refine sqa (a_load_ip (lq rfl) O31 rfl rfl) ?_
    refine sqa (m_len (en := eElement) (l := a0.Elements) (lq rfl) S31 rfl) ?_
    refine sqa (a_move_d (lq rfl) rfl) ?_
    refine sq_nil <| avc_block ?_
    obtain ⟨y3, hy3, h'⟩ := bE h; clear h
    refine avc_tail2 y3 (.exit 4) (fun y3 => ⟨[], []⟩) .ret (fun y3 => ⟨[(4, .d (di y3))], []⟩) ?_ ?_ ?_
    ·
     refine avc_loopM (fun x => ⟨[(1, .d (di a1)), (53, .d (dsl eElement a0.Elements)), (54, .d (di (a0.Elements.length : Int))), (55, .d (di x))], []⟩) hy3 (weak_cov ⟨rfl, rfl, rfl, rfl, trivial⟩ trivial) ?_
     rintro v55 sy3 hsy3
     replace hsy3 : colltable_checkEntry_L2 a0 a1 v55 = some sy3 := hsy3
     unfold colltable_checkEntry_L2 at hsy3
     refine avc_sq2 <| avc_sq ?_
     refine sqa (a_lss (lq rfl) rfl rfl) ?_
     refine sq_nil <| avc_sq2 ?_
     refine avc_if rfl ⟨fun c6 => ?_, fun c6 => ?_⟩
     ·
      replace hsy3 := cT c6 hsy3
      refine avc_skip <| avc_sq2 <| avc_block <| avc_sq2 <| avc_sq ?_
      obtain ⟨t57, ht57, hsy3'⟩ := bE hsy3; clear hsy3
      refine sqa (m_index (en := eElement) (lq rfl) S31 rfl rfl ht57) ?_
      refine sqa (m_loadEA (en := eElement) (l := a0.Elements) (i := v55) (v := t57) (off := 0) (lq rfl) G63 rfl ht57 rfl rfl (by decide)) ?_
      refine sq_b rfl (step_alloc (zs := [(.int IntKind.i64 (0)), (.int IntKind.i64 (0)), (.int IntKind.i64 (0)), (.bool false)]) (lq rfl) (by kernel_rfl) rfl rfl) ?_
      refine sq_b rfl (s_store_boxA G63 rfl rfl rfl rfl rfl rfl) ?_
      refine sq_nil ?_
      refine avc_weak (weak_freeze (t := 11) (lq rfl) rfl rfl rfl) ?_
      refine avc_sq2 <| avc_sq ?_
      refine sqa (m_fieldPt (lq rfl) L63_0 rfl) ?_
      refine sqa (a_load_ip (lq rfl) O3 rfl rfl) ?_
      refine sqa (a_move_d (lq rfl) rfl) ?_
      refine sqa (a_geq (lq rfl) rfl rfl) ?_
      refine sq_nil ?_
      refine avc_if rfl ⟨fun c7 => ?_, fun c7 => ?_⟩
      ·
       replace hsy3' := cT c7 hsy3'
       refine avc_sq2 <| avc_sq ?_
       refine sqa (a_assign_d (lq rfl) rfl) ?_
       refine sq_nil ?_
       refine avc_ret ?_
       cases hsy3'
       intro q; cases q
       exact ⟨rfl, weak_cov ⟨rfl, trivial⟩ trivial⟩
      ·
       replace hsy3' := cF c7 hsy3'
       refine avc_skip <| avc_sq ?_
       refine sqa (m_add (lq rfl) rfl rfl) ?_
       refine sqa (a_move_d (lq rfl) rfl) ?_
       refine sq_nil ?_
       cases hsy3'
       exact weak_cov ⟨rfl, rfl, rfl, rfl, trivial⟩ trivial
     ·
      replace hsy3 := cF c6 hsy3
      refine avc_exit ?_
      cases hsy3
      intro q; cases q
      exact ⟨rfl, weak_cov trivial trivial⟩
    ·
     rintro y3 rfl
     replace h' := eL h'
     refine avc_sq2 <| avc_sq ?_
     refine sqa (a_assign_d (lq rfl) rfl) ?_
     refine sq_nil ?_
     cases h'
     refine avc_ret ?_
     exact ret_1 rfl
    ·
     rintro y3 rfl
     replace h' := eR h'
     cases h'
     exact ret_1 rfl
   ·
    rintro y2 rfl
    replace h := eR h
    cases h
    exact ret_1 rfl
  ·
   rintro y1 rfl
   replace h' := eR h'
   cases h'
   exact ret_1 rfl
theorem cmp_isNaN_int_c  {a0 : Int}  {r : Bool} (h : cmp_isNaN_int a0 = some r) : Contract Tryd.prog 64 [(di a0)] [(db r)] := by
 refine contract_of Tryd.func64 (by kernel_rfl) rfl (lq rfl) (lq rfl) fun w0 I0 hI0 hG0 => ?_
 unfold cmp_isNaN_int at h
 refine avc_sq2 <| avc_sq ?_
 refine sqa (a_assign_d (lq rfl) rfl) ?_
 refine sq_nil <| avc_sq2 <| avc_sq ?_
 refine sqa (a_move_d (lq rfl) rfl) ?_
 refine sqa (a_move_d (lq rfl) rfl) ?_
 refine sqa (a_neq (lq rfl) rfl rfl) ?_
 refine sqa (a_assign_d (lq rfl) rfl) ?_
 refine sq_nil ?_
 cases h
 refine avc_ret ?_
 exact ret_1 rfl
theorem cmp_Compare_int_c  {a0 : Int} {a1 : Int}  {r : Int} (h : cmp_Compare_int a0 a1 = some r) : Contract Tryd.prog 48 [(di a0), (di a1)] [(di r)] := by
 refine contract_of Tryd.func48 (by kernel_rfl) rfl (lq rfl) (lq rfl) fun w0 I0 hI0 hG0 => ?_
 unfold cmp_Compare_int at h
 refine avc_sq2 <| avc_sq ?_
 refine sqa (a_assign_d (lq rfl) rfl) ?_
 refine sq_nil <| avc_sq2 <| avc_sq ?_
 refine sqa (a_move_d (lq rfl) rfl) ?_
 obtain ⟨t8, ht8, h'⟩ := bE h; clear h
 refine sqa (a_call (lq rfl) rfl (cmp_isNaN_int_c ht8)) ?_
 refine sqa (a_assign_d (lq rfl) rfl) ?_
 refine sq_nil <| avc_sq2 <| avc_sq ?_
 refine sqa (a_move_d (lq rfl) rfl) ?_
 obtain ⟨t10, ht10, h⟩ := bE h'; clear h'
 refine sqa (a_call (lq rfl) rfl (cmp_isNaN_int_c ht10)) ?_
 refine sqa (a_assign_d (lq rfl) rfl) ?_
 refine sq_nil <| avc_sq2 <| avc_sq2 <| avc_sq ?_
 refine sqa (a_move_d (lq rfl) rfl) ?_
 refine sq_nil ?_
 refine avc_if rfl ⟨fun c1 => ?_, fun c1 => ?_⟩
 ·
  replace h := cT c1 h
  refine avc_sq2 <| avc_sq2 <| avc_sq ?_
  refine sqa (a_move_d (lq rfl) rfl) ?_
  refine sq_nil ?_
  refine avc_if rfl ⟨fun c2 => ?_, fun c2 => ?_⟩
  ·
   replace h := cT c2 h
   refine avc_sq2 <| avc_sq ?_
   refine sqa (a_assign_d (lq rfl) rfl) ?_
   refine sq_nil ?_
   cases h
   refine avc_ret ?_
   exact ret_1 rfl
  ·
   replace h := cF c2 h
   refine avc_skip <| avc_sq2 <| avc_sq ?_
   refine sqa (a_assign_d (lq rfl) rfl) ?_
   refine sq_nil ?_
   cases h
   refine avc_ret ?_
   exact ret_1 rfl
 ·
  replace h := cF c1 h
  refine avc_skip <| avc_sq2 <| avc_sq2 <| avc_sq ?_
  refine sqa (a_move_d (lq rfl) rfl) ?_
  refine sq_nil ?_
  refine avc_if rfl ⟨fun c3 => ?_, fun c3 => ?_⟩
  ·
   replace h := cT c3 h
   refine avc_sq2 <| avc_sq ?_
   refine sqa (a_assign_d (lq rfl) rfl) ?_
   refine sq_nil ?_
   cases h
   refine avc_ret ?_
   exact ret_1 rfl
  ·
   replace h := cF c3 h
   refine avc_skip <| avc_sq2 <| avc_sq2 <| avc_sq ?_
   refine sqa (a_move_d (lq rfl) rfl) ?_
   refine sqa (a_move_d (lq rfl) rfl) ?_
   refine sqa (a_lss (lq rfl) rfl rfl) ?_
   refine sq_nil ?_
   refine avc_if rfl ⟨fun c4 => ?_, fun c4 => ?_⟩
   ·
    replace h := cT c4 h
    refine avc_sq2 <| avc_sq ?_
    refine sqa (a_assign_d (lq rfl) rfl) ?_
    refine sq_nil ?_
    cases h
    refine avc_ret ?_
    exact ret_1 rfl
   ·
    replace h := cF c4 h
    refine avc_skip <| avc_sq2 <| avc_sq2 <| avc_sq ?_
    refine sqa (a_move_d (lq rfl) rfl) ?_
    refine sqa (a_move_d (lq rfl) rfl) ?_
    refine sqa (a_gtr (lq rfl) rfl rfl) ?_
    refine sq_nil ?_
    refine avc_if rfl ⟨fun c5 => ?_, fun c5 => ?_⟩
    ·
     replace h := cT c5 h
     refine avc_sq2 <| avc_sq ?_
     refine sqa (a_assign_d (lq rfl) rfl) ?_
     refine sq_nil ?_
     cases h
     refine avc_ret ?_
     exact ret_1 rfl
    ·
     replace h := cF c5 h
     refine avc_skip <| avc_sq2 <| avc_sq ?_
     refine sqa (a_assign_d (lq rfl) rfl) ?_
     refine sq_nil ?_
     cases h
     refine avc_ret ?_
     exact ret_1 rfl
theorem codepoint_Compare_c  {a0 : (List Int)} {a1 : (List Int)}  {r : Int} (h : codepoint_Compare a0 a1 = some r) : Contract Tryd.prog 26 [(dsl eI a0), (dsl eI a1)] [(di r)] := by
 refine contract_of Tryd.func26 (by kernel_rfl) rfl (lq rfl) (lq rfl) fun w0 I0 hI0 hG0 => ?_
 unfold codepoint_Compare at h
 refine avc_sq2 <| avc_sq ?_
 refine sqa (a_assign_d (lq rfl) rfl) ?_
 refine sq_nil <| avc_sq2 <| avc_sq2 <| avc_sq ?_
 refine sqa (a_move_d (lq rfl) rfl) ?_
 refine sqa (m_len (en := eI) (l := a0) (lq rfl) S30 rfl) ?_
 refine sqa (a_move_d (lq rfl) rfl) ?_
 refine sqa (m_len (en := eI) (l := a1) (lq rfl) S30 rfl) ?_
 refine sqa (a_min (lq rfl) rfl rfl) ?_
 refine sqa (a_move_d (lq rfl) rfl) ?_
 refine sq_nil <| avc_block ?_
 obtain ⟨y1, hy1, h'⟩ := bE h; clear h
 refine avc_tail2 y1 (.exit 0) (fun y1 => ⟨[(0, .d (dsl eI a0)), (1, .d (dsl eI a1))], []⟩) .ret (fun y1 => ⟨[(4, .d (di y1))], []⟩) ?_ ?_ ?_
 ·
  refine avc_loopM (fun x => ⟨[(0, .d (dsl eI a0)), (1, .d (dsl eI a1)), (10, .d (di (min (a0.length : Int) (a1.length : Int)))), (11, .d (di x))], []⟩) hy1 (weak_cov ⟨rfl, rfl, rfl, rfl, trivial⟩ trivial) ?_
  rintro v11 sy1 hsy1
  replace hsy1 : codepoint_Compare_L0 a0 a1 v11 = some sy1 := hsy1
  unfold codepoint_Compare_L0 at hsy1
  refine avc_sq2 <| avc_sq ?_
  refine sqa (a_lss (lq rfl) rfl rfl) ?_
  refine sq_nil <| avc_sq2 ?_
  refine avc_if rfl ⟨fun c1 => ?_, fun c1 => ?_⟩
  ·
   replace hsy1 := cT c1 hsy1
   refine avc_skip <| avc_sq2 <| avc_block <| avc_sq2 <| avc_sq ?_
   refine sqa (a_move_d (lq rfl) rfl) ?_
   refine sqa (a_assign_d (lq rfl) rfl) ?_
   refine sq_nil <| avc_sq2 ?_
   refine avc_drawA MX rfl ?_
   refine daa (a_move_d (lq rfl) rfl) ?_
   refine daa (a_move_d (lq rfl) rfl) ?_
   obtain ⟨t16, ht16, hsy1'⟩ := bE hsy1; clear hsy1
   refine daa (m_index (en := eI) (lq rfl) S30 rfl rfl ht16) ?_
   refine daa (m_loadE (en := eI) (l := a0) (i := v11) (v := t16) (off := 0) (lq rfl) O3 rfl ht16 rfl) ?_
   refine daa (a_move_d (lq rfl) rfl) ?_
   refine daa (a_move_d (lq rfl) rfl) ?_
   obtain ⟨t20, ht20, hsy1⟩ := bE hsy1'; clear hsy1'
   refine daa (m_index (en := eI) (lq rfl) S30 rfl rfl ht20) ?_
   refine daa (m_loadE (en := eI) (l := a1) (i := v11) (v := t20) (off := 0) (lq rfl) O3 rfl ht20 rfl) ?_
   refine daa (a_neq (lq rfl) rfl rfl) ?_
   refine da_nil ?_
   refine avc_if rfl ⟨fun c2 => ?_, fun c2 => ?_⟩
   ·
    replace hsy1 := cT c2 hsy1
    refine avc_sq2 ?_
    refine avc_drawA MX rfl ?_
    refine daa (a_move_d (lq rfl) rfl) ?_
    refine daa (a_move_d (lq rfl) rfl) ?_
    obtain ⟨t25, ht25, hsy1'⟩ := bE hsy1; clear hsy1
    refine daa (m_index (en := eI) (lq rfl) S30 rfl rfl ht25) ?_
    refine daa (m_loadE (en := eI) (l := a0) (i := v11) (v := t25) (off := 0) (lq rfl) O3 rfl ht25 rfl) ?_
    refine daa (a_move_d (lq rfl) rfl) ?_
    refine daa (a_move_d (lq rfl) rfl) ?_
    obtain ⟨t29, ht29, hsy1⟩ := bE hsy1'; clear hsy1'
    refine daa (m_index (en := eI) (lq rfl) S30 rfl rfl ht29) ?_
    refine daa (m_loadE (en := eI) (l := a1) (i := v11) (v := t29) (off := 0) (lq rfl) O3 rfl ht29 rfl) ?_
    obtain ⟨t31, ht31, hsy1'⟩ := bE hsy1; clear hsy1
    refine daa (a_call (lq rfl) rfl (cmp_Compare_int_c ht31)) ?_
    refine daa (a_assign_d (lq rfl) rfl) ?_
    refine da_nil ?_
    refine avc_ret ?_
    cases hsy1'
    intro q; cases q
    exact ⟨rfl, weak_cov ⟨rfl, trivial⟩ trivial⟩
   ·
    replace hsy1 := cF c2 hsy1
    refine avc_skip <| avc_sq ?_
    refine sqa (m_add (lq rfl) rfl rfl) ?_
    refine sqa (a_move_d (lq rfl) rfl) ?_
    refine sq_nil ?_
    cases hsy1
    exact weak_cov ⟨rfl, rfl, rfl, rfl, trivial⟩ trivial
  ·
   replace hsy1 := cF c1 hsy1
   refine avc_exit ?_
   cases hsy1
   intro q; cases q
   exact ⟨rfl, weak_cov ⟨rfl, rfl, trivial⟩ trivial⟩
 ·
  rintro y1 rfl
  replace h' := eL h'
  refine avc_sq2 <| avc_sq ?_
  refine sqa (a_move_d (lq rfl) rfl) ?_
  refine sqa (m_len (en := eI) (l := a0) (lq rfl) S30 rfl) ?_
  refine sqa (a_move_d (lq rfl) rfl) ?_
  refine sqa (m_len (en := eI) (l := a1) (lq rfl) S30 rfl) ?_
  obtain ⟨t37, ht37, h⟩ := bE h'; clear h'
  refine sqa (a_call (lq rfl) rfl (cmp_Compare_int_c ht37)) ?_
  refine sqa (a_assign_d (lq rfl) rfl) ?_
  refine sq_nil ?_
  cases h
  refine avc_ret ?_
  exact ret_1 rfl
 ·
  rintro y1 rfl
  replace h' := eR h'
  cases h'
  exact ret_1 rfl
theorem colltable_Check_c  {a0 : Collation}  {r : Int} (h : colltable_Check a0 = some r) : Contract Tryd.prog 9 [(eCollation.dv a0)] [(di r)] := by
 refine contract_of Tryd.func9 (by kernel_rfl) rfl (lq rfl) (lq rfl) fun w0 I0 hI0 hG0 => ?_
 unfold colltable_Check at h
 refine avc_sq2 <| avc_sq ?_
 refine sqa (m_box (size := 5) (lq rfl) rfl rfl) ?_
 refine sqa (a_assign_d (lq rfl) rfl) ?_
 refine sq_nil <| avc_sq2 <| avc_sq2 <| avc_sq ?_
 refine sqa (m_fieldPt (lq rfl) L25_2 rfl) ?_
 refine sqa (a_load_ip (lq rfl) O3 rfl rfl) ?_
 refine sqa (a_lss (lq rfl) rfl rfl) ?_
 obtain ⟨b10, hb10, h'⟩ := bE h; clear h
 refine sqa ((a_move_d (lq rfl) rfl).bool (Option.some.inj hb10)) ?_
 refine sq_g (x := .ip (eCollation.cells a0) (0 + 2)) rfl rfl rfl (lq rfl) (lq rfl) rfl (fun hb => by obtain rfl := gF hb; exact m_fieldPt (lq rfl) L25_2 rfl) ?_
 refine sq_g (x := .d (di a0.Base)) rfl rfl rfl (lq rfl) (lq rfl) rfl (fun hb => by obtain rfl := gF hb; exact a_load_ip (lq rfl) O3 rfl rfl) ?_
 refine sq_g (x := .d (db (decide (65502 < a0.Base)))) rfl rfl rfl (lq rfl) (lq rfl) rfl (fun hb => by obtain rfl := gF hb; exact a_gtr (lq rfl) rfl rfl) ?_
 refine sqa (a_pick_or (lq rfl) rfl rfl) ?_
 obtain ⟨b15, hb15, h⟩ := bE h'; clear h'
 refine sqa ((a_move_d (lq rfl) rfl).bool (Option.some.inj hb15)) ?_
 refine sq_g (x := .ip (eCollation.cells a0) (0 + 3)) rfl rfl rfl (lq rfl) (lq rfl) rfl (fun hb => by obtain rfl := gF hb; exact m_fieldPt (lq rfl) L25_3 rfl) ?_
 refine sq_g (x := .d (di a0.Second)) rfl rfl rfl (lq rfl) (lq rfl) rfl (fun hb => by obtain rfl := gF hb; exact a_load_ip (lq rfl) O3 rfl rfl) ?_
 obtain ⟨t18, ht18, h'⟩ := bE h; clear h
 refine sq_g (x := .d (db t18)) rfl rfl rfl (lq rfl) (lq rfl) rfl (fun hb => by obtain rfl := gF hb; exact a_call (lq rfl) rfl (colltable_isWeight_c ht18)) ?_
 refine sq_g (x := .d (db (!t18))) rfl rfl rfl (lq rfl) (lq rfl) rfl (fun hb => by obtain rfl := gF hb; exact a_not (lq rfl) rfl) ?_
 refine sqa (a_pick_or (lq rfl) rfl rfl) ?_
 obtain ⟨b21, hb21, h⟩ := bE h'; clear h'
 refine sqa ((a_move_d (lq rfl) rfl).bool (Option.some.inj hb21)) ?_
 refine sq_g (x := .ip (eCollation.cells a0) (0 + 4)) rfl rfl rfl (lq rfl) (lq rfl) rfl (fun hb => by obtain rfl := gF hb; exact m_fieldPt (lq rfl) L25_4 rfl) ?_
 refine sq_g (x := .d (di a0.Third)) rfl rfl rfl (lq rfl) (lq rfl) rfl (fun hb => by obtain rfl := gF hb; exact a_load_ip (lq rfl) O3 rfl rfl) ?_
 obtain ⟨t24, ht24, h'⟩ := bE h; clear h
 refine sq_g (x := .d (db t24)) rfl rfl rfl (lq rfl) (lq rfl) rfl (fun hb => by obtain rfl := gF hb; exact a_call (lq rfl) rfl (colltable_isWeight_c ht24)) ?_
 refine sq_g (x := .d (db (!t24))) rfl rfl rfl (lq rfl) (lq rfl) rfl (fun hb => by obtain rfl := gF hb; exact a_not (lq rfl) rfl) ?_
 refine sqa (a_pick_or (lq rfl) rfl rfl) ?_
 refine sq_nil ?_
 refine avc_if rfl ⟨fun c1 => ?_, fun c1 => ?_⟩
 ·
  replace h' := cT c1 h'
  refine avc_sq2 <| avc_sq ?_
  refine sqa (a_assign_d (lq rfl) rfl) ?_
  refine sq_nil ?_
  cases h'
  refine avc_ret ?_
  exact ret_1 rfl
 ·
  replace h' := cF c1 h'
  refine avc_skip <| avc_sq2 <| avc_sq2 <| avc_sq ?_
  refine sqa (m_loadPt (lq rfl) G25 rfl rfl) ?_
  obtain ⟨t28, ht28, h⟩ := bE h'; clear h'
  refine sqa (a_call (lq rfl) rfl (colltable_checkGroups_c ht28)) ?_
  refine sqa (a_assign_d (lq rfl) rfl) ?_
  refine sq_nil <| avc_sq2 <| avc_sq ?_
  refine sqa (a_move_d (lq rfl) rfl) ?_
  refine sqa (a_neq (lq rfl) rfl rfl) ?_
  refine sq_nil ?_
  refine avc_if rfl ⟨fun c2 => ?_, fun c2 => ?_⟩
  ·
   replace h := cT c2 h
   refine avc_sq2 <| avc_sq ?_
   refine sqa (a_move_d (lq rfl) rfl) ?_
   refine sqa (a_assign_d (lq rfl) rfl) ?_
   refine sq_nil ?_
   cases h
   refine avc_ret ?_
   exact ret_1 rfl
  ·
   replace h := cF c2 h
   refine avc_skip <| avc_sq2 <| avc_sq2 <| avc_sq ?_
   refine sqa (m_fieldPt (lq rfl) L25_0 rfl) ?_
   refine sqa (a_load_ip (lq rfl) O22 rfl rfl) ?_
   refine sqa (m_len (en := eEntry) (l := a0.Entries) (lq rfl) S22 rfl) ?_
   refine sqa (a_move_d (lq rfl) rfl) ?_
   refine sq_nil <| avc_block ?_
   obtain ⟨y1, hy1, h'⟩ := bE h; clear h
   refine avc_tail2 y1 (.exit 0) (fun y1 => ⟨[], []⟩) .ret (fun y1 => ⟨[(2, .d (di y1))], []⟩) ?_ ?_ ?_
   ·
    refine avc_loopM (fun x => ⟨[(1, .d (.pt (eCollation.cells a0))), (33, .d (dsl eEntry a0.Entries)), (34, .d (di (a0.Entries.length : Int))), (35, .d (di x))], []⟩) hy1 (weak_cov ⟨rfl, rfl, rfl, rfl, trivial⟩ trivial) ?_
    rintro v35 sy1 hsy1
    replace hsy1 : colltable_Check_L0 a0 v35 = some sy1 := hsy1
    unfold colltable_Check_L0 at hsy1
    refine avc_sq2 <| avc_sq ?_
    refine sqa (a_lss (lq rfl) rfl rfl) ?_
    refine sq_nil <| avc_sq2 ?_
    refine avc_if rfl ⟨fun c3 => ?_, fun c3 => ?_⟩
    ·
     replace hsy1 := cT c3 hsy1
     refine avc_skip <| avc_sq2 <| avc_block <| avc_sq2 <| avc_sq ?_
     refine sqa (a_move_d (lq rfl) rfl) ?_
     obtain ⟨t38, ht38, hsy1'⟩ := bE hsy1; clear hsy1
     refine sqa (m_index (en := eEntry) (lq rfl) S22 rfl rfl ht38) ?_
     refine sqa (m_loadEA (en := eEntry) (l := a0.Entries) (i := v35) (v := t38) (off := 0) (lq rfl) G55 rfl ht38 rfl rfl (by decide)) ?_
     refine sq_b rfl (step_alloc (zs := [(.slice none 0 0), (.slice none 0 0)]) (lq rfl) (by kernel_rfl) rfl rfl) ?_
     refine sqa (a_assign_d (lq rfl) rfl) ?_
     refine sq_b rfl (s_store_boxA G55 rfl rfl rfl rfl rfl rfl) ?_
     refine sq_nil ?_
     refine avc_weak (weak_freeze (t := 5) (lq rfl) rfl rfl rfl) ?_
     refine avc_sq2 <| avc_sq2 <| avc_sq ?_
     refine sqa (m_loadPt (lq rfl) G55 rfl rfl) ?_
     refine sqa (m_fieldPt (lq rfl) L25_2 rfl) ?_
     refine sqa (a_load_ip (lq rfl) O3 rfl rfl) ?_
     obtain ⟨t43, ht43, hsy1⟩ := bE hsy1'; clear hsy1'
     refine sqa (a_call (lq rfl) rfl (colltable_checkEntry_c ht43)) ?_
     refine sqa (a_assign_d (lq rfl) rfl) ?_
     refine sq_nil <| avc_sq2 <| avc_sq ?_
     refine sqa (a_move_d (lq rfl) rfl) ?_
     refine sqa (a_neq (lq rfl) rfl rfl) ?_
     refine sq_nil ?_
     refine avc_if rfl ⟨fun c4 => ?_, fun c4 => ?_⟩
     ·
      replace hsy1 := cT c4 hsy1
      refine avc_sq2 <| avc_sq ?_
      refine sqa (a_move_d (lq rfl) rfl) ?_
      refine sqa (a_assign_d (lq rfl) rfl) ?_
      refine sq_nil ?_
      refine avc_ret ?_
      cases hsy1
      intro q; cases q
      exact ⟨rfl, weak_cov ⟨rfl, trivial⟩ trivial⟩
     ·
      replace hsy1 := cF c4 hsy1
      refine avc_skip <| avc_sq2 ?_
      refine avc_drawA MX rfl ?_
      refine daa (a_move_d (lq rfl) rfl) ?_
      refine daa (a_gtr (lq rfl) rfl rfl) ?_
      obtain ⟨b49, hb49, hsy1'⟩ := bE hsy1; clear hsy1
      refine daa ((a_move_d (lq rfl) rfl).bool (Option.some.inj hb49)) ?_
      refine da_g (x := .ip (eCollation.cells a0) (0 + 0)) rfl rfl rfl (lq rfl) (lq rfl) rfl (fun hb => by obtain rfl : b49 = true := hb; exact m_fieldPt (lq rfl) L25_0 rfl) ?_
      refine da_g (x := .d (dsl eEntry a0.Entries)) rfl rfl rfl (lq rfl) (lq rfl) rfl (fun hb => by obtain rfl : b49 = true := hb; exact a_load_ip (lq rfl) O22 rfl rfl) ?_
      refine da_g (x := .d (di v35)) rfl rfl rfl (lq rfl) (lq rfl) rfl (fun hb => by obtain rfl : b49 = true := hb; exact a_move_d (lq rfl) rfl) ?_
      refine da_g (x := .d (di (wi (v35 - 1)))) rfl rfl rfl (lq rfl) (lq rfl) rfl (fun hb => by obtain rfl : b49 = true := hb; exact m_sub (lq rfl) rfl rfl) ?_
      obtain ⟨t54, ht54, hsy1⟩ := bE hsy1'; clear hsy1'
      refine da_g (x := .ip (eEntry.all a0.Entries) ((wi (v35 - 1)).toNat * eEntry.size)) rfl rfl rfl (lq rfl) (lq rfl) rfl (fun hb => by obtain rfl : b49 = true := hb; exact m_index (en := eEntry) (lq rfl) S22 rfl rfl ht54) ?_
      refine da_g (x := .ip (eEntry.all a0.Entries) ((wi (v35 - 1)).toNat * eEntry.size + 0)) rfl rfl rfl (lq rfl) (lq rfl) rfl (fun hb => by obtain rfl : b49 = true := hb; exact a_fieldAddr_ip (lq rfl) L55_0 rfl) ?_
      refine da_g (x := .d (dsl eI t54.Codes)) rfl rfl rfl (lq rfl) (lq rfl) rfl (fun hb => by obtain rfl : b49 = true := hb; exact m_loadE (en := eEntry) (l := a0.Entries) (i := (wi (v35 - 1))) (v := t54) (off := 0) (lq rfl) O30 rfl ht54 rfl) ?_
      refine da_g (x := .ip (eEntry.cells t38) (0 + 0)) rfl rfl rfl (lq rfl) (lq rfl) rfl (fun hb => by obtain rfl : b49 = true := hb; exact m_fieldPt (lq rfl) L55_0 rfl) ?_
      refine da_g (x := .d (dsl eI t38.Codes)) rfl rfl rfl (lq rfl) (lq rfl) rfl (fun hb => by obtain rfl : b49 = true := hb; exact a_load_ip (lq rfl) O30 rfl rfl) ?_
      obtain ⟨t59, ht59, hsy1'⟩ := bE hsy1; clear hsy1
      refine da_g (x := .d (di t59)) rfl rfl rfl (lq rfl) (lq rfl) rfl (fun hb => by obtain rfl : b49 = true := hb; exact a_call (lq rfl) rfl (codepoint_Compare_c ht59)) ?_
      refine da_g (x := .d (db (decide (0 ≤ t59)))) rfl rfl rfl (lq rfl) (lq rfl) rfl (fun hb => by obtain rfl : b49 = true := hb; exact a_geq (lq rfl) rfl rfl) ?_
      refine daa (a_pick_and (lq rfl) rfl rfl) ?_
      refine da_nil ?_
      refine avc_if rfl ⟨fun c5 => ?_, fun c5 => ?_⟩
      ·
       replace hsy1' := cT c5 hsy1'
       refine avc_sq2 <| avc_sq ?_
       refine sqa (a_assign_d (lq rfl) rfl) ?_
       refine sq_nil ?_
       refine avc_ret ?_
       cases hsy1'
       intro q; cases q
       exact ⟨rfl, weak_cov ⟨rfl, trivial⟩ trivial⟩
      ·
       replace hsy1' := cF c5 hsy1'
       refine avc_skip <| avc_sq ?_
       refine sqa (m_add (lq rfl) rfl rfl) ?_
       refine sqa (a_move_d (lq rfl) rfl) ?_
       refine sq_nil ?_
       cases hsy1'
       exact weak_cov ⟨rfl, rfl, rfl, rfl, trivial⟩ trivial
    ·
     replace hsy1 := cF c3 hsy1
     refine avc_exit ?_
     cases hsy1
     intro q; cases q
     exact ⟨rfl, weak_cov trivial trivial⟩
   ·
    rintro y1 rfl
    replace h' := eL h'
    refine avc_sq2 <| avc_sq ?_
    refine sqa (a_assign_d (lq rfl) rfl) ?_
    refine sq_nil ?_
    cases h'
    refine avc_ret ?_
    exact ret_1 rfl
   ·
    rintro y1 rfl
    replace h' := eR h'
    cases h'
    exact ret_1 rfl
theorem colltable_keyOf_c  {a0 : (List Int)}  {r : A9Int} (h : colltable_keyOf a0 = some r) : Contract Tryd.prog 51 [(dsl eI a0)] [(eA9Int.dv r)] := by
 refine contract_of Tryd.func51 (by kernel_rfl) rfl (lq rfl) (lq rfl) fun w0 I0 hI0 hG0 => ?_
 unfold colltable_keyOf at h
 refine avc_sq2 <| avc_sq ?_
 refine sq_b rfl (step_alloc (zs := [(.int IntKind.i64 (0)), (.int IntKind.i64 (0)), (.int IntKind.i64 (0)), (.int IntKind.i64 (0)), (.int IntKind.i64 (0)), (.int IntKind.i64 (0)), (.int IntKind.i64 (0)), (.int IntKind.i64 (0)), (.int IntKind.i64 (0))]) (lq rfl) (by kernel_rfl) rfl rfl) ?_
 refine sq_nil <| avc_sq2 <| avc_sq ?_
 refine sqa (a_move_d (lq rfl) rfl) ?_
 refine sqa (m_len (en := eI) (l := a0) (lq rfl) S30 rfl) ?_
 refine sqa (m_abuild (lq rfl) A89 rfl rfl) ?_
 refine sq_b rfl (step_alloc (zs := [(.int IntKind.i64 (0)), (.int IntKind.i64 (0)), (.int IntKind.i64 (0)), (.int IntKind.i64 (0)), (.int IntKind.i64 (0)), (.int IntKind.i64 (0)), (.int IntKind.i64 (0)), (.int IntKind.i64 (0)), (.int IntKind.i64 (0))]) (lq rfl) (by kernel_rfl) rfl rfl) ?_
 refine sq_b rfl (s_store_boxA G89 rfl rfl rfl rfl rfl rfl) ?_
 refine sq_nil <| avc_sq2 <| avc_sq ?_
 refine sqa (a_slice_arr 1 (lq rfl) A89 rfl (by decide)) ?_
 refine sqa (a_move_d (lq rfl) rfl) ?_
 refine sq_b rfl (m_copy8 (l := a0) (lq rfl) S30 rfl rfl rfl rfl) ?_
 refine sq_nil <| avc_sq2 <| avc_sq ?_
 refine sqa ((a_load_boxA (lq rfl) G89 rfl rfl rfl rfl).data rfl) ?_
 refine sq_b rfl (s_store_boxA G89 rfl rfl rfl rfl rfl rfl) ?_
 refine sq_nil ?_
 cases h
 refine avc_ret ?_
 exact ret_cellA rfl rfl G89 rfl
theorem colltable_made_g  {a0 : Collation}  {r : Colltable_table} (h : colltable_made a0 = some r) : GC Tryd.prog 30 [.d (eCollation.dv a0)] [] [] [.ptr 13 0] [(13, .box 87 [.d (dsl eEntry r.c.Entries), .d (dsl eGroup r.c.Groups), .d (di r.c.Base), .d (di r.c.Second), .d (di r.c.Third), .row 11, .d (di r.longest), .d (dsl eSpan r.classes), .d (di r.top)]), (11, .map (mapE kA9Int (eL eElement) r.entries))] := by
 refine gc_of Tryd.func30 (by kernel_rfl) rfl (lq rfl) (lq rfl) fun w0 I0 hG0 p0 => ?_
 unfold colltable_made at h
 refine avc_sq2 <| avc_sq ?_
 refine sq_b rfl (s_box_agg (lq rfl) rfl rfl) ?_
 refine sqa (a_assign_d (lq rfl) rfl) ?_
 refine sq_nil <| avc_sq2 <| avc_sq2 <| avc_sq ?_
 refine sqa ((a_load_boxA (lq rfl) G25 rfl rfl rfl rfl).data rfl) ?_
 obtain ⟨t7, ht7, h'⟩ := bE h; clear h
 refine sqa (a_call (lq rfl) rfl (colltable_Check_c ht7)) ?_
 refine sqa (a_neq (lq rfl) rfl rfl) ?_
 refine sq_nil ?_
 obtain ⟨y1, hy1, h⟩ := bE h'; clear h'
 refine avc_tail (e := .normal) (S2 := ⟨[(1, .ptr 1 0)], [(1, .box 25 [.d (dsl eEntry y1.1), .d (dsl eGroup y1.2.1), .d (di y1.2.2.1), .d (di y1.2.2.2.1), .d (di y1.2.2.2.2)])]⟩) ?_ ?_
 ·
  refine avc_if rfl ⟨fun c1 => ?_, fun c1 => ?_⟩
  ·
   replace hy1 := cT c1 hy1
   refine avc_sq ?_
   refine sqa ((m_build (lq rfl) B25 rfl rfl).nils (bs := eCollation.cells ({ Entries := [], Groups := [], Base := 64448, Second := 32, Third := 2 } : Collation)) (nlN (nlN (nlE (nlE (nlE nl0)))))) ?_
   refine sq_b rfl (s_store_boxA G25 rfl rfl rfl rfl rfl rfl) ?_
   refine sq_nil ?_
   cases hy1
   exact out_mk (weak_cov ⟨rfl, trivial⟩ ⟨rfl, trivial⟩)
  ·
   replace hy1 := cF c1 hy1
   refine avc_skip ?_
   cases hy1
   exact out_mk (weak_cov ⟨rfl, trivial⟩ ⟨rfl, trivial⟩)
 ·
  refine avc_sq2 <| avc_sq ?_
  refine sqa ((a_load_boxA (lq rfl) G25 rfl rfl rfl rfl).data rfl) ?_
  refine sq_b rfl (m_makeMap (lq rfl) rfl) ?_
  refine sqa (m_buildR [(0, .tmp 10)] 1 (.tmp 11) (lq rfl) B87 rfl rfl rfl rfl rfl rfl) ?_
  refine sq_b rfl (s_box_aggc (lq rfl) rfl rfl) ?_
  refine sqa (a_assign_ptr (lq rfl) rfl) ?_
  refine sq_nil <| avc_sq2 <| avc_sq2 <| avc_sq ?_
  refine sqa (a_fieldAddr_ptr (lq rfl) L25_0 rfl) ?_
  refine sqa (a_load_box (lq rfl) O22 rfl rfl rfl) ?_
  refine sqa (m_len (en := eEntry) (l := y1.1) (lq rfl) S22 rfl) ?_
  refine sqa (a_move_d (lq rfl) rfl) ?_
  refine sq_nil <| avc_block ?_
  obtain ⟨y2, hy2, h'⟩ := bE h; clear h
  refine avc_tail (e := (.exit 0)) (S2 := ⟨[(3, .ptr 13 0)], [(11, .map (mapE kA9Int (eL eElement) y2.1)), (13, .box 87 [.d (dsl eEntry (({ Entries := y1.1, Groups := y1.2.1, Base := y1.2.2.1, Second := y1.2.2.2.1, Third := y1.2.2.2.2 } : Collation).Entries)), .d (dsl eGroup (({ Entries := y1.1, Groups := y1.2.1, Base := y1.2.2.1, Second := y1.2.2.2.1, Third := y1.2.2.2.2 } : Collation).Groups)), .d (di (({ Entries := y1.1, Groups := y1.2.1, Base := y1.2.2.1, Second := y1.2.2.2.1, Third := y1.2.2.2.2 } : Collation).Base)), .d (di (({ Entries := y1.1, Groups := y1.2.1, Base := y1.2.2.1, Second := y1.2.2.2.1, Third := y1.2.2.2.2 } : Collation).Second)), .d (di (({ Entries := y1.1, Groups := y1.2.1, Base := y1.2.2.1, Second := y1.2.2.2.1, Third := y1.2.2.2.2 } : Collation).Third)), .row 11, .d (di y2.2), .d (.v (.slice none 0 0)), .d (di 0)])]⟩) ?_ ?_
  ·
   refine avc_loopM (fun x => ⟨[(3, .ptr 13 0), (15, .d (dsl eEntry y1.1)), (16, .d (di (y1.1.length : Int))), (17, .d (di x.1))], [(11, .map (mapE kA9Int (eL eElement) x.2.1)), (13, .box 87 [.d (dsl eEntry (({ Entries := y1.1, Groups := y1.2.1, Base := y1.2.2.1, Second := y1.2.2.2.1, Third := y1.2.2.2.2 } : Collation).Entries)), .d (dsl eGroup (({ Entries := y1.1, Groups := y1.2.1, Base := y1.2.2.1, Second := y1.2.2.2.1, Third := y1.2.2.2.2 } : Collation).Groups)), .d (di (({ Entries := y1.1, Groups := y1.2.1, Base := y1.2.2.1, Second := y1.2.2.2.1, Third := y1.2.2.2.2 } : Collation).Base)), .d (di (({ Entries := y1.1, Groups := y1.2.1, Base := y1.2.2.1, Second := y1.2.2.2.1, Third := y1.2.2.2.2 } : Collation).Second)), .d (di (({ Entries := y1.1, Groups := y1.2.1, Base := y1.2.2.1, Second := y1.2.2.2.1, Third := y1.2.2.2.2 } : Collation).Third)), .row 11, .d (di x.2.2), .d (.v (.slice none 0 0)), .d (di 0)])]⟩) hy2 (weak_cov ⟨rfl, rfl, rfl, rfl, trivial⟩ ⟨rfl, rfl, trivial⟩) ?_
   rintro ⟨v17, r11, k13_6⟩ sy2 hsy2
   replace hsy2 : colltable_made_L0 y1 v17 r11 k13_6 = some sy2 := hsy2
   unfold colltable_made_L0 at hsy2
   refine avc_sq2 <| avc_sq ?_
   refine sqa (a_lss (lq rfl) rfl rfl) ?_
   refine sq_nil <| avc_sq2 ?_
   refine avc_if rfl ⟨fun c2 => ?_, fun c2 => ?_⟩
   ·
    replace hsy2 := cT c2 hsy2
    refine avc_skip <| avc_sq2 <| avc_block <| avc_sq2 <| avc_sq ?_
    obtain ⟨t19, ht19, hsy2'⟩ := bE hsy2; clear hsy2
    refine sqa (m_index (en := eEntry) (lq rfl) S22 rfl rfl ht19) ?_
    refine sqa (m_loadEA (en := eEntry) (l := y1.1) (i := v17) (v := t19) (off := 0) (lq rfl) G55 rfl ht19 rfl rfl (by decide)) ?_
    refine sq_b rfl (step_alloc (zs := [(.slice none 0 0), (.slice none 0 0)]) (lq rfl) (by kernel_rfl) rfl rfl) ?_
    refine sq_b rfl (s_store_boxA G55 rfl rfl rfl rfl rfl rfl) ?_
    refine sq_nil ?_
    refine avc_weak (weak_freeze (t := 5) (lq rfl) rfl rfl rfl) ?_
    refine avc_sq2 ?_
    refine avc_draw 9 MX rfl ?_
    refine daa (a_move_ptr (lq rfl) rfl) ?_
    refine daa (a_nil_ptr (lq rfl) rfl) ?_
    refine daa (a_fieldAddr_ptr (lq rfl) L87_1 rfl) ?_
    refine daa (a_load_box (lq rfl) O85 rfl rfl rfl) ?_
    refine daa (m_fieldPt (lq rfl) L55_0 rfl) ?_
    refine daa (a_load_ip (lq rfl) O30 rfl rfl) ?_
    obtain ⟨t27, ht27, hsy2⟩ := bE hsy2'; clear hsy2'
    refine daa (a_call (lq rfl) rfl (colltable_keyOf_c ht27)) ?_
    refine daa (m_fieldPt (lq rfl) L55_1 rfl) ?_
    refine daa (a_load_ip (lq rfl) O31 rfl rfl) ?_
    refine da_nil ?_
    refine sq_b rfl (m_mapUpdateK (kv := kA9Int) (ev := (eL eElement)) (mp := r11) (k := t27) (v := t19.Elements) M85 K89 rfl rfl rfl (kAgg rfl) rfl rfl rfl) ?_
    refine sq_nil ?_
    refine avc_draw 11 MX rfl ?_
    refine daa (a_move_ptr (lq rfl) rfl) ?_
    refine daa (a_move_ptr (lq rfl) rfl) ?_
    refine daa (a_nil_ptr (lq rfl) rfl) ?_
    refine daa (a_fieldAddr_ptr (lq rfl) L87_2 rfl) ?_
    refine daa (a_load_box (lq rfl) O3 rfl rfl rfl) ?_
    refine daa (m_fieldPt (lq rfl) L55_0 rfl) ?_
    refine daa (a_load_ip (lq rfl) O30 rfl rfl) ?_
    refine daa (m_len (en := eI) (l := t19.Codes) (lq rfl) S30 rfl) ?_
    refine daa (a_max (lq rfl) rfl rfl) ?_
    refine daa (a_nil_ptr (lq rfl) rfl) ?_
    refine daa (a_fieldAddr_ptr (lq rfl) L87_2 rfl) ?_
    refine da_nil ?_
    refine sq_b rfl (s_store_box_d O3 rfl rfl (lq rfl) rfl rfl rfl) ?_
    refine sq_nil <| avc_sq ?_
    refine sqa (m_add (lq rfl) rfl rfl) ?_
    refine sqa (a_move_d (lq rfl) rfl) ?_
    refine sq_nil ?_
    cases hsy2
    exact weak_cov ⟨rfl, rfl, rfl, rfl, trivial⟩ ⟨rfl, rfl, trivial⟩
   ·
    replace hsy2 := cF c2 hsy2
    refine avc_exit ?_
    cases hsy2
    intro q; cases q
    exact out_mk (weak_cov ⟨rfl, trivial⟩ ⟨rfl, rfl, trivial⟩)
  ·
   refine avc_sq2 <| avc_sq ?_
   refine sqa (a_move_ptr (lq rfl) rfl) ?_
   refine sqa (a_assign_ptr (lq rfl) rfl) ?_
   refine sq_nil ?_
   refine avc_weak (weak_nilbox_d (bid := 13) (off := 7) eSpan.size rfl rfl) ?_
   cases h'
   refine avc_ret ?_
   exact ⟨⟨_, _, rfl, rfl, rfl⟩, ⟨rfl, rfl, trivial⟩⟩
set_option maxHeartbeats 8000000 in
theorem ordering_Check_c  {a0 : (List Span)}  {r : Int} (h : ordering_Check a0 = some r) : Contract Tryd.prog 66 [(dsl eSpan a0)] [(di r)] := by
 refine contract_of Tryd.func66 (by kernel_rfl) rfl (lq rfl) (lq rfl) fun w0 I0 hI0 hG0 => ?_
 unfold ordering_Check at h
 refine avc_sq2 <| avc_sq ?_
 refine sqa (a_assign_d (lq rfl) rfl) ?_
 refine sq_nil <| avc_sq2 <| avc_sq2 <| avc_sq ?_
 refine sqa (a_move_d (lq rfl) rfl) ?_
 refine sqa (m_len (en := eSpan) (l := a0) (lq rfl) S37 rfl) ?_
 refine sqa (a_move_d (lq rfl) rfl) ?_
 refine sq_nil <| avc_block ?_
 obtain ⟨y1, hy1, h'⟩ := bE h; clear h
 refine avc_tail2 y1 (.exit 0) (fun y1 => ⟨[(0, .d (dsl eSpan a0))], []⟩) .ret (fun y1 => ⟨[(2, .d (di y1))], []⟩) ?_ ?_ ?_
 ·
  refine avc_loopM (fun x => ⟨[(0, .d (dsl eSpan a0)), (12, .d (dsl eSpan a0)), (13, .d (di (a0.length : Int))), (14, .d (di x))], []⟩) hy1 (weak_cov ⟨rfl, rfl, rfl, rfl, trivial⟩ trivial) ?_
  rintro v14 sy1 hsy1
  replace hsy1 : ordering_Check_L0 a0 v14 = some sy1 := hsy1
  unfold ordering_Check_L0 at hsy1
  refine avc_sq2 <| avc_sq ?_
  refine sqa (a_lss (lq rfl) rfl rfl) ?_
  refine sq_nil <| avc_sq2 ?_
  refine avc_if rfl ⟨fun c1 => ?_, fun c1 => ?_⟩
  ·
   replace hsy1 := cT c1 hsy1
   refine avc_skip <| avc_sq2 <| avc_block <| avc_sq2 <| avc_sq ?_
   obtain ⟨t16, ht16, hsy1'⟩ := bE hsy1; clear hsy1
   refine sqa (m_index (en := eSpan) (lq rfl) S37 rfl rfl ht16) ?_
   refine sqa (m_loadEA (en := eSpan) (l := a0) (i := v14) (v := t16) (off := 0) (lq rfl) G61 rfl ht16 rfl rfl (by decide)) ?_
   refine sq_b rfl (step_alloc (zs := [(.int IntKind.i64 (0)), (.int IntKind.i64 (0)), (.int IntKind.i64 (0))]) (lq rfl) (by kernel_rfl) rfl rfl) ?_
   refine sq_b rfl (s_store_boxA G61 rfl rfl rfl rfl rfl rfl) ?_
   refine sq_nil ?_
   refine avc_weak (weak_freeze (t := 4) (lq rfl) rfl rfl rfl) ?_
   refine avc_sq2 <| avc_sq ?_
   refine sqa (m_fieldPt (lq rfl) L61_0 rfl) ?_
   refine sqa (a_load_ip (lq rfl) O3 rfl rfl) ?_
   refine sqa (a_lss (lq rfl) rfl rfl) ?_
   obtain ⟨b21, hb21, hsy1⟩ := bE hsy1'; clear hsy1'
   refine sqa ((a_move_d (lq rfl) rfl).bool (Option.some.inj hb21)) ?_
   refine sq_g (x := .ip (eSpan.cells t16) (0 + 1)) rfl rfl rfl (lq rfl) (lq rfl) rfl (fun hb => by obtain rfl := gF hb; exact m_fieldPt (lq rfl) L61_1 rfl) ?_
   refine sq_g (x := .d (di t16.Hi)) rfl rfl rfl (lq rfl) (lq rfl) rfl (fun hb => by obtain rfl := gF hb; exact a_load_ip (lq rfl) O3 rfl rfl) ?_
   refine sq_g (x := .d (db (decide (1114111 < t16.Hi)))) rfl rfl rfl (lq rfl) (lq rfl) rfl (fun hb => by obtain rfl := gF hb; exact a_gtr (lq rfl) rfl rfl) ?_
   refine sqa (a_pick_or (lq rfl) rfl rfl) ?_
   obtain ⟨b26, hb26, hsy1'⟩ := bE hsy1; clear hsy1
   refine sqa ((a_move_d (lq rfl) rfl).bool (Option.some.inj hb26)) ?_
   refine sq_g (x := .ip (eSpan.cells t16) (0 + 0)) rfl rfl rfl (lq rfl) (lq rfl) rfl (fun hb => by obtain rfl := gF hb; exact m_fieldPt (lq rfl) L61_0 rfl) ?_
   refine sq_g (x := .d (di t16.Lo)) rfl rfl rfl (lq rfl) (lq rfl) rfl (fun hb => by obtain rfl := gF hb; exact a_load_ip (lq rfl) O3 rfl rfl) ?_
   refine sq_g (x := .ip (eSpan.cells t16) (0 + 1)) rfl rfl rfl (lq rfl) (lq rfl) rfl (fun hb => by obtain rfl := gF hb; exact m_fieldPt (lq rfl) L61_1 rfl) ?_
   refine sq_g (x := .d (di t16.Hi)) rfl rfl rfl (lq rfl) (lq rfl) rfl (fun hb => by obtain rfl := gF hb; exact a_load_ip (lq rfl) O3 rfl rfl) ?_
   refine sq_g (x := .d (db (decide (t16.Hi < t16.Lo)))) rfl rfl rfl (lq rfl) (lq rfl) rfl (fun hb => by obtain rfl := gF hb; exact a_gtr (lq rfl) rfl rfl) ?_
   refine sqa (a_pick_or (lq rfl) rfl rfl) ?_
   obtain ⟨b33, hb33, hsy1⟩ := bE hsy1'; clear hsy1'
   refine sqa ((a_move_d (lq rfl) rfl).bool (Option.some.inj hb33)) ?_
   refine sq_g (x := .ip (eSpan.cells t16) (0 + 2)) rfl rfl rfl (lq rfl) (lq rfl) rfl (fun hb => by obtain rfl := gF hb; exact m_fieldPt (lq rfl) L61_2 rfl) ?_
   refine sq_g (x := .d (di t16.Value)) rfl rfl rfl (lq rfl) (lq rfl) rfl (fun hb => by obtain rfl := gF hb; exact a_load_ip (lq rfl) O3 rfl rfl) ?_
   refine sq_g (x := .d (db (decide (t16.Value < 1)))) rfl rfl rfl (lq rfl) (lq rfl) rfl (fun hb => by obtain rfl := gF hb; exact a_lss (lq rfl) rfl rfl) ?_
   refine sqa (a_pick_or (lq rfl) rfl rfl) ?_
   obtain ⟨b38, hb38, hsy1'⟩ := bE hsy1; clear hsy1
   refine sqa ((a_move_d (lq rfl) rfl).bool (Option.some.inj hb38)) ?_
   refine sq_g (x := .ip (eSpan.cells t16) (0 + 2)) rfl rfl rfl (lq rfl) (lq rfl) rfl (fun hb => by obtain rfl := gF hb; exact m_fieldPt (lq rfl) L61_2 rfl) ?_
   refine sq_g (x := .d (di t16.Value)) rfl rfl rfl (lq rfl) (lq rfl) rfl (fun hb => by obtain rfl := gF hb; exact a_load_ip (lq rfl) O3 rfl rfl) ?_
   refine sq_g (x := .d (db (decide (254 < t16.Value)))) rfl rfl rfl (lq rfl) (lq rfl) rfl (fun hb => by obtain rfl := gF hb; exact a_gtr (lq rfl) rfl rfl) ?_
   refine sqa (a_pick_or (lq rfl) rfl rfl) ?_
   refine sq_nil ?_
   refine avc_if rfl ⟨fun c2 => ?_, fun c2 => ?_⟩
   ·
    replace hsy1' := cT c2 hsy1'
    refine avc_sq2 <| avc_sq ?_
    refine sqa (a_assign_d (lq rfl) rfl) ?_
    refine sq_nil ?_
    refine avc_ret ?_
    cases hsy1'
    intro q; cases q
    exact ⟨rfl, weak_cov ⟨rfl, trivial⟩ trivial⟩
   ·
    replace hsy1' := cF c2 hsy1'
    refine avc_skip <| avc_sq ?_
    refine sqa (m_add (lq rfl) rfl rfl) ?_
    refine sqa (a_move_d (lq rfl) rfl) ?_
    refine sq_nil ?_
    cases hsy1'
    exact weak_cov ⟨rfl, rfl, rfl, rfl, trivial⟩ trivial
  ·
   replace hsy1 := cF c1 hsy1
   refine avc_exit ?_
   cases hsy1
   intro q; cases q
   exact ⟨rfl, weak_cov ⟨rfl, trivial⟩ trivial⟩
 ·
  rintro y1 rfl
  replace h' := eL h'
  refine avc_sq2 <| avc_sq2 <| avc_sq ?_
  refine sqa (a_assign_d (lq rfl) rfl) ?_
  refine sq_nil <| avc_block ?_
  obtain ⟨y2, hy2, h⟩ := bE h'; clear h'
  refine avc_tail2 y2 (.exit 2) (fun y2 => ⟨[(0, .d (dsl eSpan a0))], []⟩) .ret (fun y2 => ⟨[(2, .d (di y2))], []⟩) ?_ ?_ ?_
  ·
   refine avc_loopM (fun x => ⟨[(0, .d (dsl eSpan a0)), (5, .d (di x))], []⟩) hy2 (weak_cov ⟨rfl, rfl, trivial⟩ trivial) ?_
   rintro v5 sy2 hsy2
   replace hsy2 : ordering_Check_L1 a0 v5 = some sy2 := hsy2
   unfold ordering_Check_L1 at hsy2
   refine avc_sq2 <| avc_sq2 <| avc_sq ?_
   refine sqa (a_move_d (lq rfl) rfl) ?_
   refine sqa (a_move_d (lq rfl) rfl) ?_
   refine sqa (m_len (en := eSpan) (l := a0) (lq rfl) S37 rfl) ?_
   refine sqa (a_lss (lq rfl) rfl rfl) ?_
   refine sq_nil ?_
   refine avc_if rfl ⟨fun c3 => ?_, fun c3 => ?_⟩
   ·
    replace hsy2 := cT c3 hsy2
    refine avc_skip <| avc_sq2 <| avc_block <| avc_sq2 ?_
    obtain ⟨t53, ht53, hsy2'⟩ := bE hsy2; clear hsy2
    obtain ⟨t57, ht57, hsy2⟩ := bE hsy2'; clear hsy2'
    refine avc_tail (e := .normal) (S2 := ⟨[(0, .d (dsl eSpan a0)), (5, .d (di v5)), (6, .ptr 6 0), (7, .ptr 7 0)], [(6, .box 61 [.d (di t53.Lo), .d (di t53.Hi), .d (di t53.Value)]), (7, .box 61 [.d (di t57.Lo), .d (di t57.Hi), .d (di t57.Value)])]⟩) ?_ ?_
    ·
     refine avc_any MX ?_
     refine any_move (i := 0) rfl (lq rfl) rfl rfl rfl rfl ?_
     refine any_move (i := 1) rfl (lq rfl) rfl rfl rfl rfl ?_
     refine any_sub (i := 2) rfl (lq rfl) rfl rfl rfl rfl rfl rfl ?_
     refine any_index (en := eSpan) (i := 3) rfl (lq rfl) S37 rfl rfl ht53 rfl rfl rfl rfl ?_
     refine any_move (i := 5) rfl (lq rfl) rfl rfl rfl rfl ?_
     refine any_move (i := 6) rfl (lq rfl) rfl rfl rfl rfl ?_
     refine any_index (en := eSpan) (i := 7) rfl (lq rfl) S37 rfl rfl ht57 rfl rfl rfl rfl ?_
     refine any_n [4, 8, 9, 10] (by kernel_rfl) rfl ?_
     refine any_a (i := 4) rfl rfl (m_loadEA (en := eSpan) (l := a0) (i := (wi (v5 - 1))) (v := t53) (off := 0) (lq rfl) G61 rfl ht53 rfl rfl (by decide)) ?_ ?_
     ·
      refine any_n [8, 9, 10] (by kernel_rfl) rfl ?_
      refine any_a (i := 8) rfl rfl (m_loadEA (en := eSpan) (l := a0) (i := v5) (v := t57) (off := 0) (lq rfl) G61 rfl ht57 rfl rfl (by decide)) ?_ ?_
      ·
       refine any_n [9, 10] (by kernel_rfl) rfl ?_
       refine any_b (i := 9) rfl rfl (step_alloc (zs := [(.int IntKind.i64 (0)), (.int IntKind.i64 (0)), (.int IntKind.i64 (0))]) (lq rfl) (by kernel_rfl) rfl rfl) ?_ ?_
       ·
        refine any_n [10] (by kernel_rfl) rfl ?_
        refine any_b (i := 10) rfl rfl (step_alloc (zs := [(.int IntKind.i64 (0)), (.int IntKind.i64 (0)), (.int IntKind.i64 (0))]) (lq rfl) (by kernel_rfl) rfl rfl) ?_ ?_
        ·
         refine any_n [11] (by kernel_rfl) rfl ?_
         refine any_b (i := 11) rfl rfl (s_store_boxA G61 rfl rfl rfl rfl rfl rfl) ?_ ?_
         ·
          refine any_n [12] (by kernel_rfl) rfl ?_
          refine any_b (i := 12) rfl rfl (s_store_boxA G61 rfl rfl rfl rfl rfl rfl) ?_ ?_
          ·
           exact any_end rfl (out_mk (weak_cov ⟨rfl, rfl, rfl, rfl, trivial⟩ ⟨rfl, rfl, trivial⟩))
          ·
           exact any_nil
         ·
          exact any_nil
        ·
         exact any_nil
       refine any_b (i := 10) rfl rfl (step_alloc (zs := [(.int IntKind.i64 (0)), (.int IntKind.i64 (0)), (.int IntKind.i64 (0))]) (lq rfl) (by kernel_rfl) rfl rfl) ?_ ?_
       ·
        refine any_n [9] (by kernel_rfl) rfl ?_
        refine any_b (i := 9) rfl rfl (step_alloc (zs := [(.int IntKind.i64 (0)), (.int IntKind.i64 (0)), (.int IntKind.i64 (0))]) (lq rfl) (by kernel_rfl) rfl rfl) ?_ ?_
        ·
         refine any_n [11] (by kernel_rfl) rfl ?_
         refine any_b (i := 11) rfl rfl (s_store_boxA G61 rfl rfl rfl rfl rfl rfl) ?_ ?_
         ·
          refine any_n [12] (by kernel_rfl) rfl ?_
          refine any_b (i := 12) rfl rfl (s_store_boxA G61 rfl rfl rfl rfl rfl rfl) ?_ ?_
          ·
           exact any_end rfl (out_mk (weak_cov ⟨rfl, rfl, rfl, rfl, trivial⟩ ⟨rfl, rfl, trivial⟩))
          ·
           exact any_nil
         ·
          exact any_nil
        ·
         exact any_nil
       exact any_nil
      refine any_b (i := 9) rfl rfl (step_alloc (zs := [(.int IntKind.i64 (0)), (.int IntKind.i64 (0)), (.int IntKind.i64 (0))]) (lq rfl) (by kernel_rfl) rfl rfl) ?_ ?_
      ·
       refine any_n [8, 10] (by kernel_rfl) rfl ?_
       refine any_a (i := 8) rfl rfl (m_loadEA (en := eSpan) (l := a0) (i := v5) (v := t57) (off := 0) (lq rfl) G61 rfl ht57 rfl rfl (by decide)) ?_ ?_
       ·
        refine any_n [10] (by kernel_rfl) rfl ?_
        refine any_b (i := 10) rfl rfl (step_alloc (zs := [(.int IntKind.i64 (0)), (.int IntKind.i64 (0)), (.int IntKind.i64 (0))]) (lq rfl) (by kernel_rfl) rfl rfl) ?_ ?_
        ·
         refine any_n [11] (by kernel_rfl) rfl ?_
         refine any_b (i := 11) rfl rfl (s_store_boxA G61 rfl rfl rfl rfl rfl rfl) ?_ ?_
         ·
          refine any_n [12] (by kernel_rfl) rfl ?_
          refine any_b (i := 12) rfl rfl (s_store_boxA G61 rfl rfl rfl rfl rfl rfl) ?_ ?_
          ·
           exact any_end rfl (out_mk (weak_cov ⟨rfl, rfl, rfl, rfl, trivial⟩ ⟨rfl, rfl, trivial⟩))
          ·
           exact any_nil
         ·
          exact any_nil
        ·
         exact any_nil
       refine any_b (i := 10) rfl rfl (step_alloc (zs := [(.int IntKind.i64 (0)), (.int IntKind.i64 (0)), (.int IntKind.i64 (0))]) (lq rfl) (by kernel_rfl) rfl rfl) ?_ ?_
       ·
        refine any_n [8, 11] (by kernel_rfl) rfl ?_
        refine any_a (i := 8) rfl rfl (m_loadEA (en := eSpan) (l := a0) (i := v5) (v := t57) (off := 0) (lq rfl) G61 rfl ht57 rfl rfl (by decide)) ?_ ?_
        ·
         refine any_n [11] (by kernel_rfl) rfl ?_
         refine any_b (i := 11) rfl rfl (s_store_boxA G61 rfl rfl rfl rfl rfl rfl) ?_ ?_
         ·
          refine any_n [12] (by kernel_rfl) rfl ?_
          refine any_b (i := 12) rfl rfl (s_store_boxA G61 rfl rfl rfl rfl rfl rfl) ?_ ?_
          ·
           exact any_end rfl (out_mk (weak_cov ⟨rfl, rfl, rfl, rfl, trivial⟩ ⟨rfl, rfl, trivial⟩))
          ·
           exact any_nil
         ·
          exact any_nil
        refine any_b (i := 11) rfl rfl (s_store_boxA G61 rfl rfl rfl rfl rfl rfl) ?_ ?_
        ·
         refine any_n [8] (by kernel_rfl) rfl ?_
         refine any_a (i := 8) rfl rfl (m_loadEA (en := eSpan) (l := a0) (i := v5) (v := t57) (off := 0) (lq rfl) G61 rfl ht57 rfl rfl (by decide)) ?_ ?_
         ·
          refine any_n [12] (by kernel_rfl) rfl ?_
          refine any_b (i := 12) rfl rfl (s_store_boxA G61 rfl rfl rfl rfl rfl rfl) ?_ ?_
          ·
           exact any_end rfl (out_mk (weak_cov ⟨rfl, rfl, rfl, rfl, trivial⟩ ⟨rfl, rfl, trivial⟩))
          ·
           exact any_nil
         ·
          exact any_nil
        exact any_nil
       exact any_nil
      refine any_b (i := 10) rfl rfl (step_alloc (zs := [(.int IntKind.i64 (0)), (.int IntKind.i64 (0)), (.int IntKind.i64 (0))]) (lq rfl) (by kernel_rfl) rfl rfl) ?_ ?_
      ·
       refine any_n [8, 9] (by kernel_rfl) rfl ?_
       refine any_a (i := 8) rfl rfl (m_loadEA (en := eSpan) (l := a0) (i := v5) (v := t57) (off := 0) (lq rfl) G61 rfl ht57 rfl rfl (by decide)) ?_ ?_
       ·
        refine any_n [9] (by kernel_rfl) rfl ?_
        refine any_b (i := 9) rfl rfl (step_alloc (zs := [(.int IntKind.i64 (0)), (.int IntKind.i64 (0)), (.int IntKind.i64 (0))]) (lq rfl) (by kernel_rfl) rfl rfl) ?_ ?_
        ·
         refine any_n [11] (by kernel_rfl) rfl ?_
         refine any_b (i := 11) rfl rfl (s_store_boxA G61 rfl rfl rfl rfl rfl rfl) ?_ ?_
         ·
          refine any_n [12] (by kernel_rfl) rfl ?_
          refine any_b (i := 12) rfl rfl (s_store_boxA G61 rfl rfl rfl rfl rfl rfl) ?_ ?_
          ·
           exact any_end rfl (out_mk (weak_cov ⟨rfl, rfl, rfl, rfl, trivial⟩ ⟨rfl, rfl, trivial⟩))
          ·
           exact any_nil
         ·
          exact any_nil
        ·
         exact any_nil
       refine any_b (i := 9) rfl rfl (step_alloc (zs := [(.int IntKind.i64 (0)), (.int IntKind.i64 (0)), (.int IntKind.i64 (0))]) (lq rfl) (by kernel_rfl) rfl rfl) ?_ ?_
       ·
        refine any_n [8, 11] (by kernel_rfl) rfl ?_
        refine any_a (i := 8) rfl rfl (m_loadEA (en := eSpan) (l := a0) (i := v5) (v := t57) (off := 0) (lq rfl) G61 rfl ht57 rfl rfl (by decide)) ?_ ?_
        ·
         refine any_n [11] (by kernel_rfl) rfl ?_
         refine any_b (i := 11) rfl rfl (s_store_boxA G61 rfl rfl rfl rfl rfl rfl) ?_ ?_
         ·
          refine any_n [12] (by kernel_rfl) rfl ?_
          refine any_b (i := 12) rfl rfl (s_store_boxA G61 rfl rfl rfl rfl rfl rfl) ?_ ?_
          ·
           exact any_end rfl (out_mk (weak_cov ⟨rfl, rfl, rfl, rfl, trivial⟩ ⟨rfl, rfl, trivial⟩))
          ·
           exact any_nil
         ·
          exact any_nil
        refine any_b (i := 11) rfl rfl (s_store_boxA G61 rfl rfl rfl rfl rfl rfl) ?_ ?_
        ·
         refine any_n [8] (by kernel_rfl) rfl ?_
         refine any_a (i := 8) rfl rfl (m_loadEA (en := eSpan) (l := a0) (i := v5) (v := t57) (off := 0) (lq rfl) G61 rfl ht57 rfl rfl (by decide)) ?_ ?_
         ·
          refine any_n [12] (by kernel_rfl) rfl ?_
          refine any_b (i := 12) rfl rfl (s_store_boxA G61 rfl rfl rfl rfl rfl rfl) ?_ ?_
          ·
           exact any_end rfl (out_mk (weak_cov ⟨rfl, rfl, rfl, rfl, trivial⟩ ⟨rfl, rfl, trivial⟩))
          ·
           exact any_nil
         ·
          exact any_nil
        exact any_nil
       exact any_nil
      exact any_nil
     refine any_a (i := 8) rfl rfl (m_loadEA (en := eSpan) (l := a0) (i := v5) (v := t57) (off := 0) (lq rfl) G61 rfl ht57 rfl rfl (by decide)) ?_ ?_
     ·
      refine any_n [4, 9, 10] (by kernel_rfl) rfl ?_
      refine any_a (i := 4) rfl rfl (m_loadEA (en := eSpan) (l := a0) (i := (wi (v5 - 1))) (v := t53) (off := 0) (lq rfl) G61 rfl ht53 rfl rfl (by decide)) ?_ ?_
      ·
       refine any_n [9, 10] (by kernel_rfl) rfl ?_
       refine any_b (i := 9) rfl rfl (step_alloc (zs := [(.int IntKind.i64 (0)), (.int IntKind.i64 (0)), (.int IntKind.i64 (0))]) (lq rfl) (by kernel_rfl) rfl rfl) ?_ ?_
       ·
        refine any_n [10] (by kernel_rfl) rfl ?_
        refine any_b (i := 10) rfl rfl (step_alloc (zs := [(.int IntKind.i64 (0)), (.int IntKind.i64 (0)), (.int IntKind.i64 (0))]) (lq rfl) (by kernel_rfl) rfl rfl) ?_ ?_
        ·
         refine any_n [11] (by kernel_rfl) rfl ?_
         refine any_b (i := 11) rfl rfl (s_store_boxA G61 rfl rfl rfl rfl rfl rfl) ?_ ?_
         ·
          refine any_n [12] (by kernel_rfl) rfl ?_
          refine any_b (i := 12) rfl rfl (s_store_boxA G61 rfl rfl rfl rfl rfl rfl) ?_ ?_
          ·
           exact any_end rfl (out_mk (weak_cov ⟨rfl, rfl, rfl, rfl, trivial⟩ ⟨rfl, rfl, trivial⟩))
          ·
           exact any_nil
         ·
          exact any_nil
        ·
         exact any_nil
       refine any_b (i := 10) rfl rfl (step_alloc (zs := [(.int IntKind.i64 (0)), (.int IntKind.i64 (0)), (.int IntKind.i64 (0))]) (lq rfl) (by kernel_rfl) rfl rfl) ?_ ?_
       ·
        refine any_n [9] (by kernel_rfl) rfl ?_
        refine any_b (i := 9) rfl rfl (step_alloc (zs := [(.int IntKind.i64 (0)), (.int IntKind.i64 (0)), (.int IntKind.i64 (0))]) (lq rfl) (by kernel_rfl) rfl rfl) ?_ ?_
        ·
         refine any_n [11] (by kernel_rfl) rfl ?_
         refine any_b (i := 11) rfl rfl (s_store_boxA G61 rfl rfl rfl rfl rfl rfl) ?_ ?_
         ·
          refine any_n [12] (by kernel_rfl) rfl ?_
          refine any_b (i := 12) rfl rfl (s_store_boxA G61 rfl rfl rfl rfl rfl rfl) ?_ ?_
          ·
           exact any_end rfl (out_mk (weak_cov ⟨rfl, rfl, rfl, rfl, trivial⟩ ⟨rfl, rfl, trivial⟩))
          ·
           exact any_nil
         ·
          exact any_nil
        ·
         exact any_nil
       exact any_nil
      refine any_b (i := 9) rfl rfl (step_alloc (zs := [(.int IntKind.i64 (0)), (.int IntKind.i64 (0)), (.int IntKind.i64 (0))]) (lq rfl) (by kernel_rfl) rfl rfl) ?_ ?_
      ·
       refine any_n [4, 10] (by kernel_rfl) rfl ?_
       refine any_a (i := 4) rfl rfl (m_loadEA (en := eSpan) (l := a0) (i := (wi (v5 - 1))) (v := t53) (off := 0) (lq rfl) G61 rfl ht53 rfl rfl (by decide)) ?_ ?_
       ·
        refine any_n [10] (by kernel_rfl) rfl ?_
        refine any_b (i := 10) rfl rfl (step_alloc (zs := [(.int IntKind.i64 (0)), (.int IntKind.i64 (0)), (.int IntKind.i64 (0))]) (lq rfl) (by kernel_rfl) rfl rfl) ?_ ?_
        ·
         refine any_n [11] (by kernel_rfl) rfl ?_
         refine any_b (i := 11) rfl rfl (s_store_boxA G61 rfl rfl rfl rfl rfl rfl) ?_ ?_
         ·
          refine any_n [12] (by kernel_rfl) rfl ?_
          refine any_b (i := 12) rfl rfl (s_store_boxA G61 rfl rfl rfl rfl rfl rfl) ?_ ?_
          ·
           exact any_end rfl (out_mk (weak_cov ⟨rfl, rfl, rfl, rfl, trivial⟩ ⟨rfl, rfl, trivial⟩))
          ·
           exact any_nil
         ·
          exact any_nil
        ·
         exact any_nil
       refine any_b (i := 10) rfl rfl (step_alloc (zs := [(.int IntKind.i64 (0)), (.int IntKind.i64 (0)), (.int IntKind.i64 (0))]) (lq rfl) (by kernel_rfl) rfl rfl) ?_ ?_
       ·
        refine any_n [4] (by kernel_rfl) rfl ?_
        refine any_a (i := 4) rfl rfl (m_loadEA (en := eSpan) (l := a0) (i := (wi (v5 - 1))) (v := t53) (off := 0) (lq rfl) G61 rfl ht53 rfl rfl (by decide)) ?_ ?_
        ·
         refine any_n [11] (by kernel_rfl) rfl ?_
         refine any_b (i := 11) rfl rfl (s_store_boxA G61 rfl rfl rfl rfl rfl rfl) ?_ ?_
         ·
          refine any_n [12] (by kernel_rfl) rfl ?_
          refine any_b (i := 12) rfl rfl (s_store_boxA G61 rfl rfl rfl rfl rfl rfl) ?_ ?_
          ·
           exact any_end rfl (out_mk (weak_cov ⟨rfl, rfl, rfl, rfl, trivial⟩ ⟨rfl, rfl, trivial⟩))
          ·
           exact any_nil
         ·
          exact any_nil
        ·
         exact any_nil
       exact any_nil
      refine any_b (i := 10) rfl rfl (step_alloc (zs := [(.int IntKind.i64 (0)), (.int IntKind.i64 (0)), (.int IntKind.i64 (0))]) (lq rfl) (by kernel_rfl) rfl rfl) ?_ ?_
      ·
       refine any_n [4, 9] (by kernel_rfl) rfl ?_
       refine any_a (i := 4) rfl rfl (m_loadEA (en := eSpan) (l := a0) (i := (wi (v5 - 1))) (v := t53) (off := 0) (lq rfl) G61 rfl ht53 rfl rfl (by decide)) ?_ ?_
       ·
        refine any_n [9] (by kernel_rfl) rfl ?_
        refine any_b (i := 9) rfl rfl (step_alloc (zs := [(.int IntKind.i64 (0)), (.int IntKind.i64 (0)), (.int IntKind.i64 (0))]) (lq rfl) (by kernel_rfl) rfl rfl) ?_ ?_
        ·
         refine any_n [11] (by kernel_rfl) rfl ?_
         refine any_b (i := 11) rfl rfl (s_store_boxA G61 rfl rfl rfl rfl rfl rfl) ?_ ?_
         ·
          refine any_n [12] (by kernel_rfl) rfl ?_
          refine any_b (i := 12) rfl rfl (s_store_boxA G61 rfl rfl rfl rfl rfl rfl) ?_ ?_
          ·
           exact any_end rfl (out_mk (weak_cov ⟨rfl, rfl, rfl, rfl, trivial⟩ ⟨rfl, rfl, trivial⟩))
          ·
           exact any_nil
         ·
          exact any_nil
        ·
         exact any_nil
       refine any_b (i := 9) rfl rfl (step_alloc (zs := [(.int IntKind.i64 (0)), (.int IntKind.i64 (0)), (.int IntKind.i64 (0))]) (lq rfl) (by kernel_rfl) rfl rfl) ?_ ?_
       ·
        refine any_n [4] (by kernel_rfl) rfl ?_
        refine any_a (i := 4) rfl rfl (m_loadEA (en := eSpan) (l := a0) (i := (wi (v5 - 1))) (v := t53) (off := 0) (lq rfl) G61 rfl ht53 rfl rfl (by decide)) ?_ ?_
        ·
         refine any_n [11] (by kernel_rfl) rfl ?_
         refine any_b (i := 11) rfl rfl (s_store_boxA G61 rfl rfl rfl rfl rfl rfl) ?_ ?_
         ·
          refine any_n [12] (by kernel_rfl) rfl ?_
          refine any_b (i := 12) rfl rfl (s_store_boxA G61 rfl rfl rfl rfl rfl rfl) ?_ ?_
          ·
           exact any_end rfl (out_mk (weak_cov ⟨rfl, rfl, rfl, rfl, trivial⟩ ⟨rfl, rfl, trivial⟩))
          ·
           exact any_nil
         ·
          exact any_nil
        ·
         exact any_nil
       exact any_nil
      exact any_nil
     refine any_b (i := 9) rfl rfl (step_alloc (zs := [(.int IntKind.i64 (0)), (.int IntKind.i64 (0)), (.int IntKind.i64 (0))]) (lq rfl) (by kernel_rfl) rfl rfl) ?_ ?_
     ·
      refine any_n [4, 8, 10] (by kernel_rfl) rfl ?_
      refine any_a (i := 4) rfl rfl (m_loadEA (en := eSpan) (l := a0) (i := (wi (v5 - 1))) (v := t53) (off := 0) (lq rfl) G61 rfl ht53 rfl rfl (by decide)) ?_ ?_
      ·
       refine any_n [8, 10] (by kernel_rfl) rfl ?_
       refine any_a (i := 8) rfl rfl (m_loadEA (en := eSpan) (l := a0) (i := v5) (v := t57) (off := 0) (lq rfl) G61 rfl ht57 rfl rfl (by decide)) ?_ ?_
       ·
        refine any_n [10] (by kernel_rfl) rfl ?_
        refine any_b (i := 10) rfl rfl (step_alloc (zs := [(.int IntKind.i64 (0)), (.int IntKind.i64 (0)), (.int IntKind.i64 (0))]) (lq rfl) (by kernel_rfl) rfl rfl) ?_ ?_
        ·
         refine any_n [11] (by kernel_rfl) rfl ?_
         refine any_b (i := 11) rfl rfl (s_store_boxA G61 rfl rfl rfl rfl rfl rfl) ?_ ?_
         ·
          refine any_n [12] (by kernel_rfl) rfl ?_
          refine any_b (i := 12) rfl rfl (s_store_boxA G61 rfl rfl rfl rfl rfl rfl) ?_ ?_
          ·
           exact any_end rfl (out_mk (weak_cov ⟨rfl, rfl, rfl, rfl, trivial⟩ ⟨rfl, rfl, trivial⟩))
          ·
           exact any_nil
         ·
          exact any_nil
        ·
         exact any_nil
       refine any_b (i := 10) rfl rfl (step_alloc (zs := [(.int IntKind.i64 (0)), (.int IntKind.i64 (0)), (.int IntKind.i64 (0))]) (lq rfl) (by kernel_rfl) rfl rfl) ?_ ?_
       ·
        refine any_n [8, 11] (by kernel_rfl) rfl ?_
        refine any_a (i := 8) rfl rfl (m_loadEA (en := eSpan) (l := a0) (i := v5) (v := t57) (off := 0) (lq rfl) G61 rfl ht57 rfl rfl (by decide)) ?_ ?_
        ·
         refine any_n [11] (by kernel_rfl) rfl ?_
         refine any_b (i := 11) rfl rfl (s_store_boxA G61 rfl rfl rfl rfl rfl rfl) ?_ ?_
         ·
          refine any_n [12] (by kernel_rfl) rfl ?_
          refine any_b (i := 12) rfl rfl (s_store_boxA G61 rfl rfl rfl rfl rfl rfl) ?_ ?_
          ·
           exact any_end rfl (out_mk (weak_cov ⟨rfl, rfl, rfl, rfl, trivial⟩ ⟨rfl, rfl, trivial⟩))
          ·
           exact any_nil
         ·
          exact any_nil
        refine any_b (i := 11) rfl rfl (s_store_boxA G61 rfl rfl rfl rfl rfl rfl) ?_ ?_
        ·
         refine any_n [8] (by kernel_rfl) rfl ?_
         refine any_a (i := 8) rfl rfl (m_loadEA (en := eSpan) (l := a0) (i := v5) (v := t57) (off := 0) (lq rfl) G61 rfl ht57 rfl rfl (by decide)) ?_ ?_
         ·
          refine any_n [12] (by kernel_rfl) rfl ?_
          refine any_b (i := 12) rfl rfl (s_store_boxA G61 rfl rfl rfl rfl rfl rfl) ?_ ?_
          ·
           exact any_end rfl (out_mk (weak_cov ⟨rfl, rfl, rfl, rfl, trivial⟩ ⟨rfl, rfl, trivial⟩))
          ·
           exact any_nil
         ·
          exact any_nil
        exact any_nil
       exact any_nil
      refine any_a (i := 8) rfl rfl (m_loadEA (en := eSpan) (l := a0) (i := v5) (v := t57) (off := 0) (lq rfl) G61 rfl ht57 rfl rfl (by decide)) ?_ ?_
      ·
       refine any_n [4, 10] (by kernel_rfl) rfl ?_
       refine any_a (i := 4) rfl rfl (m_loadEA (en := eSpan) (l := a0) (i := (wi (v5 - 1))) (v := t53) (off := 0) (lq rfl) G61 rfl ht53 rfl rfl (by decide)) ?_ ?_
       ·
        refine any_n [10] (by kernel_rfl) rfl ?_
        refine any_b (i := 10) rfl rfl (step_alloc (zs := [(.int IntKind.i64 (0)), (.int IntKind.i64 (0)), (.int IntKind.i64 (0))]) (lq rfl) (by kernel_rfl) rfl rfl) ?_ ?_
        ·
         refine any_n [11] (by kernel_rfl) rfl ?_
         refine any_b (i := 11) rfl rfl (s_store_boxA G61 rfl rfl rfl rfl rfl rfl) ?_ ?_
         ·
          refine any_n [12] (by kernel_rfl) rfl ?_
          refine any_b (i := 12) rfl rfl (s_store_boxA G61 rfl rfl rfl rfl rfl rfl) ?_ ?_
          ·
           exact any_end rfl (out_mk (weak_cov ⟨rfl, rfl, rfl, rfl, trivial⟩ ⟨rfl, rfl, trivial⟩))
          ·
           exact any_nil
         ·
          exact any_nil
        ·
         exact any_nil
       refine any_b (i := 10) rfl rfl (step_alloc (zs := [(.int IntKind.i64 (0)), (.int IntKind.i64 (0)), (.int IntKind.i64 (0))]) (lq rfl) (by kernel_rfl) rfl rfl) ?_ ?_
       ·
        refine any_n [4] (by kernel_rfl) rfl ?_
        refine any_a (i := 4) rfl rfl (m_loadEA (en := eSpan) (l := a0) (i := (wi (v5 - 1))) (v := t53) (off := 0) (lq rfl) G61 rfl ht53 rfl rfl (by decide)) ?_ ?_
        ·
         refine any_n [11] (by kernel_rfl) rfl ?_
         refine any_b (i := 11) rfl rfl (s_store_boxA G61 rfl rfl rfl rfl rfl rfl) ?_ ?_
         ·
          refine any_n [12] (by kernel_rfl) rfl ?_
          refine any_b (i := 12) rfl rfl (s_store_boxA G61 rfl rfl rfl rfl rfl rfl) ?_ ?_
          ·
           exact any_end rfl (out_mk (weak_cov ⟨rfl, rfl, rfl, rfl, trivial⟩ ⟨rfl, rfl, trivial⟩))
          ·
           exact any_nil
         ·
          exact any_nil
        ·
         exact any_nil
       exact any_nil
      refine any_b (i := 10) rfl rfl (step_alloc (zs := [(.int IntKind.i64 (0)), (.int IntKind.i64 (0)), (.int IntKind.i64 (0))]) (lq rfl) (by kernel_rfl) rfl rfl) ?_ ?_
      ·
       refine any_n [4, 8] (by kernel_rfl) rfl ?_
       refine any_a (i := 4) rfl rfl (m_loadEA (en := eSpan) (l := a0) (i := (wi (v5 - 1))) (v := t53) (off := 0) (lq rfl) G61 rfl ht53 rfl rfl (by decide)) ?_ ?_
       ·
        refine any_n [8, 11] (by kernel_rfl) rfl ?_
        refine any_a (i := 8) rfl rfl (m_loadEA (en := eSpan) (l := a0) (i := v5) (v := t57) (off := 0) (lq rfl) G61 rfl ht57 rfl rfl (by decide)) ?_ ?_
        ·
         refine any_n [11] (by kernel_rfl) rfl ?_
         refine any_b (i := 11) rfl rfl (s_store_boxA G61 rfl rfl rfl rfl rfl rfl) ?_ ?_
         ·
          refine any_n [12] (by kernel_rfl) rfl ?_
          refine any_b (i := 12) rfl rfl (s_store_boxA G61 rfl rfl rfl rfl rfl rfl) ?_ ?_
          ·
           exact any_end rfl (out_mk (weak_cov ⟨rfl, rfl, rfl, rfl, trivial⟩ ⟨rfl, rfl, trivial⟩))
          ·
           exact any_nil
         ·
          exact any_nil
        refine any_b (i := 11) rfl rfl (s_store_boxA G61 rfl rfl rfl rfl rfl rfl) ?_ ?_
        ·
         refine any_n [8] (by kernel_rfl) rfl ?_
         refine any_a (i := 8) rfl rfl (m_loadEA (en := eSpan) (l := a0) (i := v5) (v := t57) (off := 0) (lq rfl) G61 rfl ht57 rfl rfl (by decide)) ?_ ?_
         ·
          refine any_n [12] (by kernel_rfl) rfl ?_
          refine any_b (i := 12) rfl rfl (s_store_boxA G61 rfl rfl rfl rfl rfl rfl) ?_ ?_
          ·
           exact any_end rfl (out_mk (weak_cov ⟨rfl, rfl, rfl, rfl, trivial⟩ ⟨rfl, rfl, trivial⟩))
          ·
           exact any_nil
         ·
          exact any_nil
        exact any_nil
       refine any_a (i := 8) rfl rfl (m_loadEA (en := eSpan) (l := a0) (i := v5) (v := t57) (off := 0) (lq rfl) G61 rfl ht57 rfl rfl (by decide)) ?_ ?_
       ·
        refine any_n [4] (by kernel_rfl) rfl ?_
        refine any_a (i := 4) rfl rfl (m_loadEA (en := eSpan) (l := a0) (i := (wi (v5 - 1))) (v := t53) (off := 0) (lq rfl) G61 rfl ht53 rfl rfl (by decide)) ?_ ?_
        ·
         refine any_n [11] (by kernel_rfl) rfl ?_
         refine any_b (i := 11) rfl rfl (s_store_boxA G61 rfl rfl rfl rfl rfl rfl) ?_ ?_
         ·
          refine any_n [12] (by kernel_rfl) rfl ?_
          refine any_b (i := 12) rfl rfl (s_store_boxA G61 rfl rfl rfl rfl rfl rfl) ?_ ?_
          ·
           exact any_end rfl (out_mk (weak_cov ⟨rfl, rfl, rfl, rfl, trivial⟩ ⟨rfl, rfl, trivial⟩))
          ·
           exact any_nil
         ·
          exact any_nil
        ·
         exact any_nil
       exact any_nil
      exact any_nil
     refine any_b (i := 10) rfl rfl (step_alloc (zs := [(.int IntKind.i64 (0)), (.int IntKind.i64 (0)), (.int IntKind.i64 (0))]) (lq rfl) (by kernel_rfl) rfl rfl) ?_ ?_
     ·
      refine any_n [4, 8, 9] (by kernel_rfl) rfl ?_
      refine any_a (i := 4) rfl rfl (m_loadEA (en := eSpan) (l := a0) (i := (wi (v5 - 1))) (v := t53) (off := 0) (lq rfl) G61 rfl ht53 rfl rfl (by decide)) ?_ ?_
      ·
       refine any_n [8, 9] (by kernel_rfl) rfl ?_
       refine any_a (i := 8) rfl rfl (m_loadEA (en := eSpan) (l := a0) (i := v5) (v := t57) (off := 0) (lq rfl) G61 rfl ht57 rfl rfl (by decide)) ?_ ?_
       ·
        refine any_n [9] (by kernel_rfl) rfl ?_
        refine any_b (i := 9) rfl rfl (step_alloc (zs := [(.int IntKind.i64 (0)), (.int IntKind.i64 (0)), (.int IntKind.i64 (0))]) (lq rfl) (by kernel_rfl) rfl rfl) ?_ ?_
        ·
         refine any_n [11] (by kernel_rfl) rfl ?_
         refine any_b (i := 11) rfl rfl (s_store_boxA G61 rfl rfl rfl rfl rfl rfl) ?_ ?_
         ·
          refine any_n [12] (by kernel_rfl) rfl ?_
          refine any_b (i := 12) rfl rfl (s_store_boxA G61 rfl rfl rfl rfl rfl rfl) ?_ ?_
          ·
           exact any_end rfl (out_mk (weak_cov ⟨rfl, rfl, rfl, rfl, trivial⟩ ⟨rfl, rfl, trivial⟩))
          ·
           exact any_nil
         ·
          exact any_nil
        ·
         exact any_nil
       refine any_b (i := 9) rfl rfl (step_alloc (zs := [(.int IntKind.i64 (0)), (.int IntKind.i64 (0)), (.int IntKind.i64 (0))]) (lq rfl) (by kernel_rfl) rfl rfl) ?_ ?_
       ·
        refine any_n [8, 11] (by kernel_rfl) rfl ?_
        refine any_a (i := 8) rfl rfl (m_loadEA (en := eSpan) (l := a0) (i := v5) (v := t57) (off := 0) (lq rfl) G61 rfl ht57 rfl rfl (by decide)) ?_ ?_
        ·
         refine any_n [11] (by kernel_rfl) rfl ?_
         refine any_b (i := 11) rfl rfl (s_store_boxA G61 rfl rfl rfl rfl rfl rfl) ?_ ?_
         ·
          refine any_n [12] (by kernel_rfl) rfl ?_
          refine any_b (i := 12) rfl rfl (s_store_boxA G61 rfl rfl rfl rfl rfl rfl) ?_ ?_
          ·
           exact any_end rfl (out_mk (weak_cov ⟨rfl, rfl, rfl, rfl, trivial⟩ ⟨rfl, rfl, trivial⟩))
          ·
           exact any_nil
         ·
          exact any_nil
        refine any_b (i := 11) rfl rfl (s_store_boxA G61 rfl rfl rfl rfl rfl rfl) ?_ ?_
        ·
         refine any_n [8] (by kernel_rfl) rfl ?_
         refine any_a (i := 8) rfl rfl (m_loadEA (en := eSpan) (l := a0) (i := v5) (v := t57) (off := 0) (lq rfl) G61 rfl ht57 rfl rfl (by decide)) ?_ ?_
         ·
          refine any_n [12] (by kernel_rfl) rfl ?_
          refine any_b (i := 12) rfl rfl (s_store_boxA G61 rfl rfl rfl rfl rfl rfl) ?_ ?_
          ·
           exact any_end rfl (out_mk (weak_cov ⟨rfl, rfl, rfl, rfl, trivial⟩ ⟨rfl, rfl, trivial⟩))
          ·
           exact any_nil
         ·
          exact any_nil
        exact any_nil
       exact any_nil
      refine any_a (i := 8) rfl rfl (m_loadEA (en := eSpan) (l := a0) (i := v5) (v := t57) (off := 0) (lq rfl) G61 rfl ht57 rfl rfl (by decide)) ?_ ?_
      ·
       refine any_n [4, 9] (by kernel_rfl) rfl ?_
       refine any_a (i := 4) rfl rfl (m_loadEA (en := eSpan) (l := a0) (i := (wi (v5 - 1))) (v := t53) (off := 0) (lq rfl) G61 rfl ht53 rfl rfl (by decide)) ?_ ?_
       ·
        refine any_n [9] (by kernel_rfl) rfl ?_
        refine any_b (i := 9) rfl rfl (step_alloc (zs := [(.int IntKind.i64 (0)), (.int IntKind.i64 (0)), (.int IntKind.i64 (0))]) (lq rfl) (by kernel_rfl) rfl rfl) ?_ ?_
        ·
         refine any_n [11] (by kernel_rfl) rfl ?_
         refine any_b (i := 11) rfl rfl (s_store_boxA G61 rfl rfl rfl rfl rfl rfl) ?_ ?_
         ·
          refine any_n [12] (by kernel_rfl) rfl ?_
          refine any_b (i := 12) rfl rfl (s_store_boxA G61 rfl rfl rfl rfl rfl rfl) ?_ ?_
          ·
           exact any_end rfl (out_mk (weak_cov ⟨rfl, rfl, rfl, rfl, trivial⟩ ⟨rfl, rfl, trivial⟩))
          ·
           exact any_nil
         ·
          exact any_nil
        ·
         exact any_nil
       refine any_b (i := 9) rfl rfl (step_alloc (zs := [(.int IntKind.i64 (0)), (.int IntKind.i64 (0)), (.int IntKind.i64 (0))]) (lq rfl) (by kernel_rfl) rfl rfl) ?_ ?_
       ·
        refine any_n [4] (by kernel_rfl) rfl ?_
        refine any_a (i := 4) rfl rfl (m_loadEA (en := eSpan) (l := a0) (i := (wi (v5 - 1))) (v := t53) (off := 0) (lq rfl) G61 rfl ht53 rfl rfl (by decide)) ?_ ?_
        ·
         refine any_n [11] (by kernel_rfl) rfl ?_
         refine any_b (i := 11) rfl rfl (s_store_boxA G61 rfl rfl rfl rfl rfl rfl) ?_ ?_
         ·
          refine any_n [12] (by kernel_rfl) rfl ?_
          refine any_b (i := 12) rfl rfl (s_store_boxA G61 rfl rfl rfl rfl rfl rfl) ?_ ?_
          ·
           exact any_end rfl (out_mk (weak_cov ⟨rfl, rfl, rfl, rfl, trivial⟩ ⟨rfl, rfl, trivial⟩))
          ·
           exact any_nil
         ·
          exact any_nil
        ·
         exact any_nil
       exact any_nil
      refine any_b (i := 9) rfl rfl (step_alloc (zs := [(.int IntKind.i64 (0)), (.int IntKind.i64 (0)), (.int IntKind.i64 (0))]) (lq rfl) (by kernel_rfl) rfl rfl) ?_ ?_
      ·
       refine any_n [4, 8] (by kernel_rfl) rfl ?_
       refine any_a (i := 4) rfl rfl (m_loadEA (en := eSpan) (l := a0) (i := (wi (v5 - 1))) (v := t53) (off := 0) (lq rfl) G61 rfl ht53 rfl rfl (by decide)) ?_ ?_
       ·
        refine any_n [8, 11] (by kernel_rfl) rfl ?_
        refine any_a (i := 8) rfl rfl (m_loadEA (en := eSpan) (l := a0) (i := v5) (v := t57) (off := 0) (lq rfl) G61 rfl ht57 rfl rfl (by decide)) ?_ ?_
        ·
         refine any_n [11] (by kernel_rfl) rfl ?_
         refine any_b (i := 11) rfl rfl (s_store_boxA G61 rfl rfl rfl rfl rfl rfl) ?_ ?_
         ·
          refine any_n [12] (by kernel_rfl) rfl ?_
          refine any_b (i := 12) rfl rfl (s_store_boxA G61 rfl rfl rfl rfl rfl rfl) ?_ ?_
          ·
           exact any_end rfl (out_mk (weak_cov ⟨rfl, rfl, rfl, rfl, trivial⟩ ⟨rfl, rfl, trivial⟩))
          ·
           exact any_nil
         ·
          exact any_nil
        refine any_b (i := 11) rfl rfl (s_store_boxA G61 rfl rfl rfl rfl rfl rfl) ?_ ?_
        ·
         refine any_n [8] (by kernel_rfl) rfl ?_
         refine any_a (i := 8) rfl rfl (m_loadEA (en := eSpan) (l := a0) (i := v5) (v := t57) (off := 0) (lq rfl) G61 rfl ht57 rfl rfl (by decide)) ?_ ?_
         ·
          refine any_n [12] (by kernel_rfl) rfl ?_
          refine any_b (i := 12) rfl rfl (s_store_boxA G61 rfl rfl rfl rfl rfl rfl) ?_ ?_
          ·
           exact any_end rfl (out_mk (weak_cov ⟨rfl, rfl, rfl, rfl, trivial⟩ ⟨rfl, rfl, trivial⟩))
          ·
           exact any_nil
         ·
          exact any_nil
        exact any_nil
       refine any_a (i := 8) rfl rfl (m_loadEA (en := eSpan) (l := a0) (i := v5) (v := t57) (off := 0) (lq rfl) G61 rfl ht57 rfl rfl (by decide)) ?_ ?_
       ·
        refine any_n [4] (by kernel_rfl) rfl ?_
        refine any_a (i := 4) rfl rfl (m_loadEA (en := eSpan) (l := a0) (i := (wi (v5 - 1))) (v := t53) (off := 0) (lq rfl) G61 rfl ht53 rfl rfl (by decide)) ?_ ?_
        ·
         refine any_n [11] (by kernel_rfl) rfl ?_
         refine any_b (i := 11) rfl rfl (s_store_boxA G61 rfl rfl rfl rfl rfl rfl) ?_ ?_
         ·
          refine any_n [12] (by kernel_rfl) rfl ?_
          refine any_b (i := 12) rfl rfl (s_store_boxA G61 rfl rfl rfl rfl rfl rfl) ?_ ?_
          ·
           exact any_end rfl (out_mk (weak_cov ⟨rfl, rfl, rfl, rfl, trivial⟩ ⟨rfl, rfl, trivial⟩))
          ·
           exact any_nil
         ·
          exact any_nil
        ·
         exact any_nil
       exact any_nil
      exact any_nil
     exact any_nil
    refine avc_weak (weak_freeze (t := 6) (lq rfl) rfl rfl rfl) ?_
    refine avc_weak (weak_freeze (t := 7) (lq rfl) rfl rfl rfl) ?_
    refine avc_sq2 <| avc_sq ?_
    refine sqa (m_fieldPt (lq rfl) L61_0 rfl) ?_
    refine sqa (a_load_ip (lq rfl) O3 rfl rfl) ?_
    refine sqa (m_fieldPt (lq rfl) L61_1 rfl) ?_
    refine sqa (a_load_ip (lq rfl) O3 rfl rfl) ?_
    refine sqa (a_leq (lq rfl) rfl rfl) ?_
    obtain ⟨b64, hb64, hsy2'⟩ := bE hsy2; clear hsy2
    refine sqa ((a_move_d (lq rfl) rfl).bool (Option.some.inj hb64)) ?_
    refine sq_g (x := .ip (eSpan.cells t57) (0 + 0)) rfl rfl rfl (lq rfl) (lq rfl) rfl (fun hb => by obtain rfl := gF hb; exact m_fieldPt (lq rfl) L61_0 rfl) ?_
    refine sq_g (x := .d (di t57.Lo)) rfl rfl rfl (lq rfl) (lq rfl) rfl (fun hb => by obtain rfl := gF hb; exact a_load_ip (lq rfl) O3 rfl rfl) ?_
    refine sq_g (x := .ip (eSpan.cells t53) (0 + 1)) rfl rfl rfl (lq rfl) (lq rfl) rfl (fun hb => by obtain rfl := gF hb; exact m_fieldPt (lq rfl) L61_1 rfl) ?_
    refine sq_g (x := .d (di t53.Hi)) rfl rfl rfl (lq rfl) (lq rfl) rfl (fun hb => by obtain rfl := gF hb; exact a_load_ip (lq rfl) O3 rfl rfl) ?_
    refine sq_g (x := .d (di (wi (t53.Hi + 1)))) rfl rfl rfl (lq rfl) (lq rfl) rfl (fun hb => by obtain rfl := gF hb; exact m_add (lq rfl) rfl rfl) ?_
    refine sq_g (x := .d (db (decide (t57.Lo = (wi (t53.Hi + 1)))))) rfl rfl rfl (lq rfl) (lq rfl) rfl (fun hb => by obtain rfl := gF hb; exact a_eql (lq rfl) rfl rfl) ?_
    obtain ⟨b71, hb71, hsy2⟩ := bE hsy2'; clear hsy2'
    refine sq_g (x := .d (db b71)) rfl rfl rfl (lq rfl) (lq rfl) rfl (fun hb => by obtain rfl := gF hb; exact (a_move_d (lq rfl) rfl).bool (Option.some.inj hb71)) ?_
    refine sq_g2 (x := .ip (eSpan.cells t57) (0 + 2)) rfl rfl rfl (lq rfl) (lq rfl) rfl (fun hb => by obtain ⟨hb, hb1⟩ := and_split hb; obtain rfl := gF hb; obtain rfl : b71 = true := hb1; exact m_fieldPt (lq rfl) L61_2 rfl) ?_
    refine sq_g2 (x := .d (di t57.Value)) rfl rfl rfl (lq rfl) (lq rfl) rfl (fun hb => by obtain ⟨hb, hb1⟩ := and_split hb; obtain rfl := gF hb; obtain rfl : b71 = true := hb1; exact a_load_ip (lq rfl) O3 rfl rfl) ?_
    refine sq_g2 (x := .ip (eSpan.cells t53) (0 + 2)) rfl rfl rfl (lq rfl) (lq rfl) rfl (fun hb => by obtain ⟨hb, hb1⟩ := and_split hb; obtain rfl := gF hb; obtain rfl : b71 = true := hb1; exact m_fieldPt (lq rfl) L61_2 rfl) ?_
    refine sq_g2 (x := .d (di t53.Value)) rfl rfl rfl (lq rfl) (lq rfl) rfl (fun hb => by obtain ⟨hb, hb1⟩ := and_split hb; obtain rfl := gF hb; obtain rfl : b71 = true := hb1; exact a_load_ip (lq rfl) O3 rfl rfl) ?_
    refine sq_g2 (x := .d (db (decide (t57.Value = t53.Value)))) rfl rfl rfl (lq rfl) (lq rfl) rfl (fun hb => by obtain ⟨hb, hb1⟩ := and_split hb; obtain rfl := gF hb; obtain rfl : b71 = true := hb1; exact a_eql (lq rfl) rfl rfl) ?_
    refine sq_g (x := .d (db (b71 && (decide (t57.Value = t53.Value))))) rfl rfl rfl (lq rfl) (lq rfl) rfl (fun hb => by obtain rfl := gF hb; exact a_pick_and (lq rfl) rfl rfl) ?_
    refine sqa (a_pick_or (lq rfl) rfl rfl) ?_
    refine sq_nil ?_
    refine avc_if rfl ⟨fun c4 => ?_, fun c4 => ?_⟩
    ·
     replace hsy2 := cT c4 hsy2
     refine avc_sq2 <| avc_sq ?_
     refine sqa (a_assign_d (lq rfl) rfl) ?_
     refine sq_nil ?_
     refine avc_ret ?_
     cases hsy2
     intro q; cases q
     exact ⟨rfl, weak_cov ⟨rfl, trivial⟩ trivial⟩
    ·
     replace hsy2 := cF c4 hsy2
     refine avc_skip <| avc_sq ?_
     refine sqa (a_move_d (lq rfl) rfl) ?_
     refine sqa (m_add (lq rfl) rfl rfl) ?_
     refine sqa (a_assign_d (lq rfl) rfl) ?_
     refine sq_nil ?_
     cases hsy2
     exact weak_cov ⟨rfl, rfl, trivial⟩ trivial
   ·
    replace hsy2 := cF c3 hsy2
    refine avc_exit ?_
    cases hsy2
    intro q; cases q
    exact ⟨rfl, weak_cov ⟨rfl, trivial⟩ trivial⟩
  ·
   rintro y2 rfl
   replace h := eL h
   refine avc_sq2 <| avc_sq2 <| avc_sq ?_
   refine sqa (a_move_d (lq rfl) rfl) ?_
   refine sqa (m_len (en := eSpan) (l := a0) (lq rfl) S37 rfl) ?_
   refine sqa (a_move_d (lq rfl) rfl) ?_
   refine sq_nil <| avc_block ?_
   obtain ⟨y3, hy3, h'⟩ := bE h; clear h
   refine avc_tail2 y3 (.exit 4) (fun y3 => ⟨[], []⟩) .ret (fun y3 => ⟨[(2, .d (di y3))], []⟩) ?_ ?_ ?_
   ·
    refine avc_loopM (fun x => ⟨[(79, .d (dsl eSpan a0)), (80, .d (di (a0.length : Int))), (81, .d (di x))], []⟩) hy3 (weak_cov ⟨rfl, rfl, rfl, trivial⟩ trivial) ?_
    rintro v81 sy3 hsy3
    replace hsy3 : ordering_Check_L2 a0 v81 = some sy3 := hsy3
    unfold ordering_Check_L2 at hsy3
    refine avc_sq2 <| avc_sq ?_
    refine sqa (a_lss (lq rfl) rfl rfl) ?_
    refine sq_nil <| avc_sq2 ?_
    refine avc_if rfl ⟨fun c5 => ?_, fun c5 => ?_⟩
    ·
     replace hsy3 := cT c5 hsy3
     refine avc_skip <| avc_sq2 <| avc_block <| avc_sq2 <| avc_sq ?_
     obtain ⟨t83, ht83, hsy3'⟩ := bE hsy3; clear hsy3
     refine sqa (m_index (en := eSpan) (lq rfl) S37 rfl rfl ht83) ?_
     refine sqa (m_loadEA (en := eSpan) (l := a0) (i := v81) (v := t83) (off := 0) (lq rfl) G61 rfl ht83 rfl rfl (by decide)) ?_
     refine sq_b rfl (step_alloc (zs := [(.int IntKind.i64 (0)), (.int IntKind.i64 (0)), (.int IntKind.i64 (0))]) (lq rfl) (by kernel_rfl) rfl rfl) ?_
     refine sq_b rfl (s_store_boxA G61 rfl rfl rfl rfl rfl rfl) ?_
     refine sq_nil ?_
     refine avc_weak (weak_freeze (t := 9) (lq rfl) rfl rfl rfl) ?_
     refine avc_sq2 <| avc_sq ?_
     obtain ⟨t85, ht85, hsy3⟩ := bE hsy3'; clear hsy3'
     refine sqa ((m_loadG (zs := [.int .i64 4352, .int .i64 4370, .int .i64 4449, .int .i64 4469, .int .i64 4520, .int .i64 4546, .int .i64 44032, .int .i64 55203]) (lq rfl) G123 Z0 rfl rfl).data (b := eA4Range.dv t85) (congrArg eA4Range.dv (Option.some.inj ht85))) ?_
     refine sqa (a_move_d (lq rfl) rfl) ?_
     refine sq_nil <| avc_block ?_
     obtain ⟨y4, hy4, hsy3'⟩ := bE hsy3; clear hsy3
     refine avc_tail2 y4 (.exit 6) (fun y4 => ⟨[(79, .d (dsl eSpan a0)), (80, .d (di (a0.length : Int))), (81, .d (di v81))], []⟩) .ret (fun y4 => ⟨[(2, .d (di y4))], []⟩) ?_ ?_ ?_
     ·
      refine avc_loopM (fun x => ⟨[(9, .d (.pt (eSpan.cells t83))), (79, .d (dsl eSpan a0)), (80, .d (di (a0.length : Int))), (81, .d (di v81)), (85, .d (eA4Range.dv t85)), (86, .d (di x))], []⟩) hy4 (weak_cov ⟨rfl, rfl, rfl, rfl, rfl, rfl, trivial⟩ trivial) ?_
      rintro v86 sy4 hsy4
      replace hsy4 : ordering_Check_L3 t85 t83 v86 = some sy4 := hsy4
      unfold ordering_Check_L3 at hsy4
      refine avc_sq2 <| avc_sq ?_
      refine sqa (a_lss (lq rfl) rfl rfl) ?_
      refine sq_nil <| avc_sq2 ?_
      refine avc_if rfl ⟨fun c6 => ?_, fun c6 => ?_⟩
      ·
       replace hsy4 := cT c6 hsy4
       refine avc_skip <| avc_sq2 <| avc_block <| avc_sq2 <| avc_sq ?_
       obtain ⟨t88, ht88, hsy4'⟩ := bE hsy4; clear hsy4
       refine sqa (m_aindexA (en := eRange) (l := [t85.x0, t85.x1, t85.x2, t85.x3]) (lq rfl) A123 G104 (fun _ => rfl) rfl rfl rfl ht88) ?_
       refine sq_b rfl (step_alloc (zs := [(.int IntKind.i64 (0)), (.int IntKind.i64 (0))]) (lq rfl) (by kernel_rfl) rfl rfl) ?_
       refine sq_b rfl (s_store_boxA G104 rfl rfl rfl rfl rfl rfl) ?_
       refine sq_nil ?_
       refine avc_weak (weak_freeze (t := 11) (lq rfl) rfl rfl rfl) ?_
       refine avc_sq2 <| avc_sq ?_
       refine sqa (m_fieldPt (lq rfl) L61_0 rfl) ?_
       refine sqa (a_load_ip (lq rfl) O3 rfl rfl) ?_
       refine sqa (m_fieldPt (lq rfl) L104_1 rfl) ?_
       refine sqa (a_load_ip (lq rfl) O3 rfl rfl) ?_
       refine sqa (a_leq (lq rfl) rfl rfl) ?_
       obtain ⟨b94, hb94, hsy4⟩ := bE hsy4'; clear hsy4'
       refine sqa ((a_move_d (lq rfl) rfl).bool (Option.some.inj hb94)) ?_
       refine sq_g (x := .ip (eRange.cells t88) (0 + 0)) rfl rfl rfl (lq rfl) (lq rfl) rfl (fun hb => by obtain rfl : b94 = true := hb; exact m_fieldPt (lq rfl) L104_0 rfl) ?_
       refine sq_g (x := .d (di t88.Lo)) rfl rfl rfl (lq rfl) (lq rfl) rfl (fun hb => by obtain rfl : b94 = true := hb; exact a_load_ip (lq rfl) O3 rfl rfl) ?_
       refine sq_g (x := .ip (eSpan.cells t83) (0 + 1)) rfl rfl rfl (lq rfl) (lq rfl) rfl (fun hb => by obtain rfl : b94 = true := hb; exact m_fieldPt (lq rfl) L61_1 rfl) ?_
       refine sq_g (x := .d (di t83.Hi)) rfl rfl rfl (lq rfl) (lq rfl) rfl (fun hb => by obtain rfl : b94 = true := hb; exact a_load_ip (lq rfl) O3 rfl rfl) ?_
       refine sq_g (x := .d (db (decide (t88.Lo ≤ t83.Hi)))) rfl rfl rfl (lq rfl) (lq rfl) rfl (fun hb => by obtain rfl : b94 = true := hb; exact a_leq (lq rfl) rfl rfl) ?_
       refine sqa (a_pick_and (lq rfl) rfl rfl) ?_
       refine sq_nil ?_
       refine avc_if rfl ⟨fun c7 => ?_, fun c7 => ?_⟩
       ·
        replace hsy4 := cT c7 hsy4
        refine avc_sq2 <| avc_sq ?_
        refine sqa (a_assign_d (lq rfl) rfl) ?_
        refine sq_nil ?_
        refine avc_ret ?_
        cases hsy4
        intro q; cases q
        exact ⟨rfl, weak_cov ⟨rfl, trivial⟩ trivial⟩
       ·
        replace hsy4 := cF c7 hsy4
        refine avc_skip <| avc_sq ?_
        refine sqa (m_add (lq rfl) rfl rfl) ?_
        refine sqa (a_move_d (lq rfl) rfl) ?_
        refine sq_nil ?_
        cases hsy4
        exact weak_cov ⟨rfl, rfl, rfl, rfl, rfl, rfl, trivial⟩ trivial
      ·
       replace hsy4 := cF c6 hsy4
       refine avc_exit ?_
       cases hsy4
       intro q; cases q
       exact ⟨rfl, weak_cov ⟨rfl, rfl, rfl, trivial⟩ trivial⟩
     ·
      rintro y4 rfl
      replace hsy3' := eL hsy3'
      refine avc_sq ?_
      refine sqa (m_add (lq rfl) rfl rfl) ?_
      refine sqa (a_move_d (lq rfl) rfl) ?_
      refine sq_nil ?_
      cases hsy3'
      exact weak_cov ⟨rfl, rfl, rfl, trivial⟩ trivial
     ·
      rintro y4 rfl
      replace hsy3' := eR hsy3'
      cases hsy3'
      intro q; cases q
      exact ⟨rfl, weak_cov ⟨rfl, trivial⟩ trivial⟩
    ·
     replace hsy3 := cF c5 hsy3
     refine avc_exit ?_
     cases hsy3
     intro q; cases q
     exact ⟨rfl, weak_cov trivial trivial⟩
   ·
    rintro y3 rfl
    replace h' := eL h'
    refine avc_sq2 <| avc_sq ?_
    refine sqa (a_assign_d (lq rfl) rfl) ?_
    refine sq_nil ?_
    cases h'
    refine avc_ret ?_
    exact ret_1 rfl
   ·
    rintro y3 rfl
    replace h' := eR h'
    cases h'
    exact ret_1 rfl
  ·
   rintro y2 rfl
   replace h := eR h
   cases h
   exact ret_1 rfl
 ·
  rintro y1 rfl
  replace h' := eR h'
  cases h'
  exact ret_1 rfl
theorem mapping_isName_c  {a0 : Str}  {r : Bool} (h : mapping_isName a0 = some r) : Contract Tryd.prog 90 [(ds a0)] [(db r)] := by
 refine contract_of Tryd.func90 (by kernel_rfl) rfl (lq rfl) (lq rfl) fun w0 I0 hI0 hG0 => ?_
 unfold mapping_isName at h
 refine avc_sq2 <| avc_sq ?_
 refine sqa (a_assign_d (lq rfl) rfl) ?_
 refine sq_nil <| avc_sq2 <| avc_sq2 <| avc_sq ?_
 refine sqa (a_move_d (lq rfl) rfl) ?_
 refine sqa (m_seql (a := a0) (b := []) (lq rfl) rfl rfl) ?_
 obtain ⟨b8, hb8, h'⟩ := bE h; clear h
 refine sqa ((a_move_d (lq rfl) rfl).bool (Option.some.inj hb8)) ?_
 refine sq_g (x := .d (ds a0)) rfl rfl rfl (lq rfl) (lq rfl) rfl (fun hb => by obtain rfl := gF hb; exact a_move_d (lq rfl) rfl) ?_
 refine sq_g (x := .d (di (a0.length : Int))) rfl rfl rfl (lq rfl) (lq rfl) rfl (fun hb => by obtain rfl := gF hb; exact m_slen (s := a0) (lq rfl) Tryd.underlying9 rfl) ?_
 refine sq_g (x := .d (db (decide (32 < (a0.length : Int))))) rfl rfl rfl (lq rfl) (lq rfl) rfl (fun hb => by obtain rfl := gF hb; exact a_gtr (lq rfl) rfl rfl) ?_
 refine sqa (a_pick_or (lq rfl) rfl rfl) ?_
 refine sq_nil ?_
 refine avc_if rfl ⟨fun c1 => ?_, fun c1 => ?_⟩
 ·
  replace h' := cT c1 h'
  refine avc_sq2 <| avc_sq ?_
  refine sqa (a_assign_d (lq rfl) rfl) ?_
  refine sq_nil ?_
  cases h'
  refine avc_ret ?_
  exact ret_1 rfl
 ·
  replace h' := cF c1 h'
  refine avc_skip <| avc_sq2 <| avc_sq2 <| avc_sq ?_
  refine sqa (a_move_d (lq rfl) rfl) ?_
  refine sqa (m_slen (s := a0) (lq rfl) Tryd.underlying9 rfl) ?_
  refine sqa (a_move_d (lq rfl) rfl) ?_
  refine sq_nil <| avc_block ?_
  obtain ⟨y1, hy1, h⟩ := bE h'; clear h'
  refine avc_tail2 y1 (.exit 0) (fun y1 => ⟨[], []⟩) .ret (fun y1 => ⟨[(2, .d (db y1))], []⟩) ?_ ?_ ?_
  ·
   refine avc_loopM (fun x => ⟨[(0, .d (ds a0)), (14, .d (di (a0.length : Int))), (15, .d (di x))], []⟩) hy1 (weak_cov ⟨rfl, rfl, rfl, trivial⟩ trivial) ?_
   rintro v15 sy1 hsy1
   replace hsy1 : mapping_isName_L0 a0 v15 = some sy1 := hsy1
   unfold mapping_isName_L0 at hsy1
   refine avc_sq2 <| avc_sq ?_
   refine sqa (a_lss (lq rfl) rfl rfl) ?_
   refine sq_nil <| avc_sq2 ?_
   refine avc_if rfl ⟨fun c2 => ?_, fun c2 => ?_⟩
   ·
    replace hsy1 := cT c2 hsy1
    refine avc_skip <| avc_sq2 <| avc_block <| avc_sq2 <| avc_sq ?_
    refine sqa (a_move_d (lq rfl) rfl) ?_
    refine sqa (a_assign_d (lq rfl) rfl) ?_
    refine sq_nil <| avc_sq2 <| avc_sq ?_
    refine sqa (a_move_d (lq rfl) rfl) ?_
    refine sqa (a_move_d (lq rfl) rfl) ?_
    obtain ⟨t20, ht20, hsy1'⟩ := bE hsy1; clear hsy1
    refine sqa (m_sindex (s := a0) (lq rfl) Tryd.underlying9 rfl rfl ht20) ?_
    refine sqa (a_assign_d (lq rfl) rfl) ?_
    refine sq_nil <| avc_sq2 <| avc_sq ?_
    refine sqa (a_move_d (lq rfl) rfl) ?_
    refine sqa (a_geq (lq rfl) rfl rfl) ?_
    obtain ⟨b23, hb23, hsy1⟩ := bE hsy1'; clear hsy1'
    refine sqa ((a_move_d (lq rfl) rfl).bool (Option.some.inj hb23)) ?_
    refine sq_g (x := .d (dby t20)) rfl rfl rfl (lq rfl) (lq rfl) rfl (fun hb => by obtain rfl : b23 = true := hb; exact a_move_d (lq rfl) rfl) ?_
    refine sq_g (x := .d (db (decide (t20 ≤ 90)))) rfl rfl rfl (lq rfl) (lq rfl) rfl (fun hb => by obtain rfl : b23 = true := hb; exact a_leq (lq rfl) rfl rfl) ?_
    refine sqa (a_pick_and (lq rfl) rfl rfl) ?_
    obtain ⟨b27, hb27, hsy1'⟩ := bE hsy1; clear hsy1
    refine sqa ((a_move_d (lq rfl) rfl).bool (Option.some.inj hb27)) ?_
    refine sq_g (x := .d (dby t20)) rfl rfl rfl (lq rfl) (lq rfl) rfl (fun hb => by obtain rfl := gF hb; exact a_move_d (lq rfl) rfl) ?_
    refine sq_g (x := .d (db (decide (97 ≤ t20)))) rfl rfl rfl (lq rfl) (lq rfl) rfl (fun hb => by obtain rfl := gF hb; exact a_geq (lq rfl) rfl rfl) ?_
    obtain ⟨b30, hb30, hsy1⟩ := bE hsy1'; clear hsy1'
    refine sq_g (x := .d (db b30)) rfl rfl rfl (lq rfl) (lq rfl) rfl (fun hb => by obtain rfl := gF hb; exact (a_move_d (lq rfl) rfl).bool (Option.some.inj hb30)) ?_
    refine sq_g2 (x := .d (dby t20)) rfl rfl rfl (lq rfl) (lq rfl) rfl (fun hb => by obtain ⟨hb, hb1⟩ := and_split hb; obtain rfl := gF hb; obtain rfl : b30 = true := hb1; exact a_move_d (lq rfl) rfl) ?_
    refine sq_g2 (x := .d (db (decide (t20 ≤ 122)))) rfl rfl rfl (lq rfl) (lq rfl) rfl (fun hb => by obtain ⟨hb, hb1⟩ := and_split hb; obtain rfl := gF hb; obtain rfl : b30 = true := hb1; exact a_leq (lq rfl) rfl rfl) ?_
    refine sq_g (x := .d (db (b30 && (decide (t20 ≤ 122))))) rfl rfl rfl (lq rfl) (lq rfl) rfl (fun hb => by obtain rfl := gF hb; exact a_pick_and (lq rfl) rfl rfl) ?_
    refine sqa (a_pick_or (lq rfl) rfl rfl) ?_
    refine sqa (a_assign_d (lq rfl) rfl) ?_
    refine sq_nil <| avc_sq2 <| avc_sq ?_
    refine sqa (a_move_d (lq rfl) rfl) ?_
    refine sqa (a_not (lq rfl) rfl) ?_
    obtain ⟨b37, hb37, hsy1'⟩ := bE hsy1; clear hsy1
    refine sqa ((a_move_d (lq rfl) rfl).bool (Option.some.inj hb37)) ?_
    refine sq_g (x := .d (dby t20)) rfl rfl rfl (lq rfl) (lq rfl) rfl (fun hb => by obtain rfl : b37 = true := hb; exact a_move_d (lq rfl) rfl) ?_
    refine sq_g (x := .d (db (decide (48 ≤ t20)))) rfl rfl rfl (lq rfl) (lq rfl) rfl (fun hb => by obtain rfl : b37 = true := hb; exact a_geq (lq rfl) rfl rfl) ?_
    obtain ⟨b40, hb40, hsy1⟩ := bE hsy1'; clear hsy1'
    refine sq_g (x := .d (db b40)) rfl rfl rfl (lq rfl) (lq rfl) rfl (fun hb => by obtain rfl : b37 = true := hb; exact (a_move_d (lq rfl) rfl).bool (Option.some.inj hb40)) ?_
    refine sq_g2 (x := .d (dby t20)) rfl rfl rfl (lq rfl) (lq rfl) rfl (fun hb => by obtain ⟨hb, hb1⟩ := and_split hb; obtain rfl : b37 = true := hb; obtain rfl : b40 = true := hb1; exact a_move_d (lq rfl) rfl) ?_
    refine sq_g2 (x := .d (db (decide (t20 ≤ 57)))) rfl rfl rfl (lq rfl) (lq rfl) rfl (fun hb => by obtain ⟨hb, hb1⟩ := and_split hb; obtain rfl : b37 = true := hb; obtain rfl : b40 = true := hb1; exact a_leq (lq rfl) rfl rfl) ?_
    refine sq_g (x := .d (db (b40 && (decide (t20 ≤ 57))))) rfl rfl rfl (lq rfl) (lq rfl) rfl (fun hb => by obtain rfl : b37 = true := hb; exact a_pick_and (lq rfl) rfl rfl) ?_
    refine sq_g (x := .d (db (!(b40 && (decide (t20 ≤ 57)))))) rfl rfl rfl (lq rfl) (lq rfl) rfl (fun hb => by obtain rfl : b37 = true := hb; exact a_not (lq rfl) rfl) ?_
    refine sqa (a_pick_and (lq rfl) rfl rfl) ?_
    obtain ⟨b46, hb46, hsy1'⟩ := bE hsy1; clear hsy1
    refine sqa ((a_move_d (lq rfl) rfl).bool (Option.some.inj hb46)) ?_
    refine sq_g (x := .d (dby t20)) rfl rfl rfl (lq rfl) (lq rfl) rfl (fun hb => by obtain rfl : b46 = true := hb; exact a_move_d (lq rfl) rfl) ?_
    refine sq_g (x := .d (db (!decide (t20 = 95)))) rfl rfl rfl (lq rfl) (lq rfl) rfl (fun hb => by obtain rfl : b46 = true := hb; exact a_neq (lq rfl) rfl rfl) ?_
    refine sqa (a_pick_and (lq rfl) rfl rfl) ?_
    refine sq_nil ?_
    refine avc_if rfl ⟨fun c3 => ?_, fun c3 => ?_⟩
    ·
     replace hsy1' := cT c3 hsy1'
     refine avc_sq2 <| avc_sq ?_
     refine sqa (a_assign_d (lq rfl) rfl) ?_
     refine sq_nil ?_
     refine avc_ret ?_
     cases hsy1'
     intro q; cases q
     exact ⟨rfl, weak_cov ⟨rfl, trivial⟩ trivial⟩
    ·
     replace hsy1' := cF c3 hsy1'
     refine avc_skip <| avc_sq ?_
     refine sqa (m_add (lq rfl) rfl rfl) ?_
     refine sqa (a_move_d (lq rfl) rfl) ?_
     refine sq_nil ?_
     cases hsy1'
     exact weak_cov ⟨rfl, rfl, rfl, trivial⟩ trivial
   ·
    replace hsy1 := cF c2 hsy1
    refine avc_exit ?_
    cases hsy1
    intro q; cases q
    exact ⟨rfl, weak_cov trivial trivial⟩
  ·
   rintro y1 rfl
   replace h := eL h
   refine avc_sq2 <| avc_sq ?_
   refine sqa (a_assign_d (lq rfl) rfl) ?_
   refine sq_nil ?_
   cases h
   refine avc_ret ?_
   exact ret_1 rfl
  ·
   rintro y1 rfl
   replace h := eR h
   cases h
   exact ret_1 rfl
theorem mapping_parts_c  {a0 : (List Mapping)}  {r : Int} (h : mapping_parts a0 = some r) : Contract Tryd.prog 81 [(dsl eMapping a0)] [(di r)] := by
 refine contract_of Tryd.func81 (by kernel_rfl) rfl (lq rfl) (lq rfl) fun w0 I0 hI0 hG0 => ?_
 unfold mapping_parts at h
 refine avc_sq2 <| avc_sq ?_
 refine sqa (a_assign_d (lq rfl) rfl) ?_
 refine sq_nil <| avc_sq2 <| avc_sq2 <| avc_sq ?_
 refine sqa (a_move_d (lq rfl) rfl) ?_
 refine sqa (m_len (en := eMapping) (l := a0) (lq rfl) S38 rfl) ?_
 refine sqa (a_move_d (lq rfl) rfl) ?_
 refine sq_nil <| avc_block ?_
 obtain ⟨y1, hy1, h'⟩ := bE h; clear h
 refine avc_tail2 y1 (.exit 0) (fun y1 => ⟨[(0, .d (dsl eMapping a0))], []⟩) .ret (fun y1 => ⟨[(2, .d (di y1))], []⟩) ?_ ?_ ?_
 ·
  refine avc_loopM (fun x => ⟨[(0, .d (dsl eMapping a0)), (11, .d (dsl eMapping a0)), (12, .d (di (a0.length : Int))), (13, .d (di x))], []⟩) hy1 (weak_cov ⟨rfl, rfl, rfl, rfl, trivial⟩ trivial) ?_
  rintro v13 sy1 hsy1
  replace hsy1 : mapping_parts_L0 a0 v13 = some sy1 := hsy1
  unfold mapping_parts_L0 at hsy1
  refine avc_sq2 <| avc_sq ?_
  refine sqa (a_lss (lq rfl) rfl rfl) ?_
  refine sq_nil <| avc_sq2 ?_
  refine avc_if rfl ⟨fun c1 => ?_, fun c1 => ?_⟩
  ·
   replace hsy1 := cT c1 hsy1
   refine avc_skip <| avc_sq2 <| avc_block <| avc_sq2 <| avc_sq ?_
   obtain ⟨t15, ht15, hsy1'⟩ := bE hsy1; clear hsy1
   refine sqa (m_index (en := eMapping) (lq rfl) S38 rfl rfl ht15) ?_
   refine sqa (m_loadEA (en := eMapping) (l := a0) (i := v13) (v := t15) (off := 0) (lq rfl) G109 rfl ht15 rfl rfl (by decide)) ?_
   refine sq_b rfl (step_alloc (zs := [(.int IntKind.i64 (0)), (.slice none 0 0), (.string ⟨#[]⟩)]) (lq rfl) (by kernel_rfl) rfl rfl) ?_
   refine sq_b rfl (s_store_boxA G109 rfl rfl rfl rfl rfl rfl) ?_
   refine sq_nil ?_
   refine avc_weak (weak_freeze (t := 4) (lq rfl) rfl rfl rfl) ?_
   refine avc_sq2 <| avc_sq2 <| avc_sq ?_
   refine sqa (m_fieldPt (lq rfl) L109_0 rfl) ?_
   refine sqa (a_load_ip (lq rfl) O3 rfl rfl) ?_
   obtain ⟨t19, ht19, hsy1⟩ := bE hsy1'; clear hsy1'
   refine sqa (a_call (lq rfl) rfl (codepoint_Valid_c ht19)) ?_
   refine sqa (a_not (lq rfl) rfl) ?_
   refine sq_nil ?_
   refine avc_if rfl ⟨fun c2 => ?_, fun c2 => ?_⟩
   ·
    replace hsy1 := cT c2 hsy1
    refine avc_sq2 <| avc_sq ?_
    refine sqa (a_assign_d (lq rfl) rfl) ?_
    refine sq_nil ?_
    refine avc_ret ?_
    cases hsy1
    intro q; cases q
    exact ⟨rfl, weak_cov ⟨rfl, trivial⟩ trivial⟩
   ·
    replace hsy1 := cF c2 hsy1
    refine avc_skip <| avc_sq2 <| avc_sq ?_
    refine sqa (m_fieldPt (lq rfl) L109_1 rfl) ?_
    refine sqa (a_load_ip (lq rfl) O30 rfl rfl) ?_
    refine sqa (m_len (en := eI) (l := t15.To) (lq rfl) S30 rfl) ?_
    refine sqa (a_move_d (lq rfl) rfl) ?_
    refine sq_nil <| avc_block ?_
    obtain ⟨y2, hy2, hsy1'⟩ := bE hsy1; clear hsy1
    refine avc_tail2 y2 (.exit 2) (fun y2 => ⟨[(0, .d (dsl eMapping a0)), (11, .d (dsl eMapping a0)), (12, .d (di (a0.length : Int))), (13, .d (di v13))], []⟩) .ret (fun y2 => ⟨[(2, .d (di y2))], []⟩) ?_ ?_ ?_
    ·
     refine avc_loopM (fun x => ⟨[(0, .d (dsl eMapping a0)), (11, .d (dsl eMapping a0)), (12, .d (di (a0.length : Int))), (13, .d (di v13)), (22, .d (dsl eI t15.To)), (23, .d (di (t15.To.length : Int))), (24, .d (di x))], []⟩) hy2 (weak_cov ⟨rfl, rfl, rfl, rfl, rfl, rfl, rfl, trivial⟩ trivial) ?_
     rintro v24 sy2 hsy2
     replace hsy2 : mapping_parts_L1 t15 v24 = some sy2 := hsy2
     unfold mapping_parts_L1 at hsy2
     refine avc_sq2 <| avc_sq ?_
     refine sqa (a_lss (lq rfl) rfl rfl) ?_
     refine sq_nil <| avc_sq2 ?_
     refine avc_if rfl ⟨fun c3 => ?_, fun c3 => ?_⟩
     ·
      replace hsy2 := cT c3 hsy2
      refine avc_skip <| avc_sq2 <| avc_block <| avc_sq2 <| avc_sq ?_
      obtain ⟨t26, ht26, hsy2'⟩ := bE hsy2; clear hsy2
      refine sqa (m_index (en := eI) (lq rfl) S30 rfl rfl ht26) ?_
      refine sqa (m_loadE (en := eI) (l := t15.To) (i := v24) (v := t26) (off := 0) (lq rfl) O3 rfl ht26 rfl) ?_
      refine sqa (a_assign_d (lq rfl) rfl) ?_
      refine sq_nil <| avc_sq2 <| avc_sq ?_
      refine sqa (a_move_d (lq rfl) rfl) ?_
      obtain ⟨t29, ht29, hsy2⟩ := bE hsy2'; clear hsy2'
      refine sqa (a_call (lq rfl) rfl (codepoint_Valid_c ht29)) ?_
      refine sqa (a_not (lq rfl) rfl) ?_
      refine sq_nil ?_
      refine avc_if rfl ⟨fun c4 => ?_, fun c4 => ?_⟩
      ·
       replace hsy2 := cT c4 hsy2
       refine avc_sq2 <| avc_sq ?_
       refine sqa (a_assign_d (lq rfl) rfl) ?_
       refine sq_nil ?_
       refine avc_ret ?_
       cases hsy2
       intro q; cases q
       exact ⟨rfl, weak_cov ⟨rfl, trivial⟩ trivial⟩
      ·
       replace hsy2 := cF c4 hsy2
       refine avc_skip <| avc_sq ?_
       refine sqa (m_add (lq rfl) rfl rfl) ?_
       refine sqa (a_move_d (lq rfl) rfl) ?_
       refine sq_nil ?_
       cases hsy2
       exact weak_cov ⟨rfl, rfl, rfl, rfl, rfl, rfl, rfl, trivial⟩ trivial
     ·
      replace hsy2 := cF c3 hsy2
      refine avc_exit ?_
      cases hsy2
      intro q; cases q
      exact ⟨rfl, weak_cov ⟨rfl, rfl, rfl, rfl, trivial⟩ trivial⟩
    ·
     rintro y2 rfl
     replace hsy1' := eL hsy1'
     refine avc_sq ?_
     refine sqa (m_add (lq rfl) rfl rfl) ?_
     refine sqa (a_move_d (lq rfl) rfl) ?_
     refine sq_nil ?_
     cases hsy1'
     exact weak_cov ⟨rfl, rfl, rfl, rfl, trivial⟩ trivial
    ·
     rintro y2 rfl
     replace hsy1' := eR hsy1'
     cases hsy1'
     intro q; cases q
     exact ⟨rfl, weak_cov ⟨rfl, trivial⟩ trivial⟩
  ·
   replace hsy1 := cF c1 hsy1
   refine avc_exit ?_
   cases hsy1
   intro q; cases q
   exact ⟨rfl, weak_cov ⟨rfl, trivial⟩ trivial⟩
 ·
  rintro y1 rfl
  replace h' := eL h'
  refine avc_sq2 <| avc_sq2 <| avc_sq ?_
  refine sqa (a_move_d (lq rfl) rfl) ?_
  refine sqa (m_len (en := eMapping) (l := a0) (lq rfl) S38 rfl) ?_
  refine sqa (a_move_d (lq rfl) rfl) ?_
  refine sq_nil <| avc_block ?_
  obtain ⟨y3, hy3, h⟩ := bE h'; clear h'
  refine avc_tail2 y3 (.exit 4) (fun y3 => ⟨[(0, .d (dsl eMapping a0))], []⟩) .ret (fun y3 => ⟨[(2, .d (di y3))], []⟩) ?_ ?_ ?_
  ·
   refine avc_loopM (fun x => ⟨[(0, .d (dsl eMapping a0)), (33, .d (dsl eMapping a0)), (34, .d (di (a0.length : Int))), (35, .d (di x))], []⟩) hy3 (weak_cov ⟨rfl, rfl, rfl, rfl, trivial⟩ trivial) ?_
   rintro v35 sy3 hsy3
   replace hsy3 : mapping_parts_L2 a0 v35 = some sy3 := hsy3
   unfold mapping_parts_L2 at hsy3
   refine avc_sq2 <| avc_sq ?_
   refine sqa (a_lss (lq rfl) rfl rfl) ?_
   refine sq_nil <| avc_sq2 ?_
   refine avc_if rfl ⟨fun c5 => ?_, fun c5 => ?_⟩
   ·
    replace hsy3 := cT c5 hsy3
    refine avc_skip <| avc_sq2 <| avc_block <| avc_sq2 <| avc_sq ?_
    obtain ⟨t37, ht37, hsy3'⟩ := bE hsy3; clear hsy3
    refine sqa (m_index (en := eMapping) (lq rfl) S38 rfl rfl ht37) ?_
    refine sqa (m_loadEA (en := eMapping) (l := a0) (i := v35) (v := t37) (off := 0) (lq rfl) G109 rfl ht37 rfl rfl (by decide)) ?_
    refine sq_b rfl (step_alloc (zs := [(.int IntKind.i64 (0)), (.slice none 0 0), (.string ⟨#[]⟩)]) (lq rfl) (by kernel_rfl) rfl rfl) ?_
    refine sq_b rfl (s_store_boxA G109 rfl rfl rfl rfl rfl rfl) ?_
    refine sq_nil ?_
    refine avc_weak (weak_freeze (t := 8) (lq rfl) rfl rfl rfl) ?_
    refine avc_sq2 <| avc_sq ?_
    refine sqa (m_fieldPt (lq rfl) L109_1 rfl) ?_
    refine sqa (a_load_ip (lq rfl) O30 rfl rfl) ?_
    refine sqa (m_len (en := eI) (l := t37.To) (lq rfl) S30 rfl) ?_
    refine sqa (a_gtr (lq rfl) rfl rfl) ?_
    refine sq_nil ?_
    refine avc_if rfl ⟨fun c6 => ?_, fun c6 => ?_⟩
    ·
     replace hsy3' := cT c6 hsy3'
     refine avc_sq2 <| avc_sq ?_
     refine sqa (a_assign_d (lq rfl) rfl) ?_
     refine sq_nil ?_
     refine avc_ret ?_
     cases hsy3'
     intro q; cases q
     exact ⟨rfl, weak_cov ⟨rfl, trivial⟩ trivial⟩
    ·
     replace hsy3' := cF c6 hsy3'
     refine avc_skip <| avc_sq ?_
     refine sqa (m_add (lq rfl) rfl rfl) ?_
     refine sqa (a_move_d (lq rfl) rfl) ?_
     refine sq_nil ?_
     cases hsy3'
     exact weak_cov ⟨rfl, rfl, rfl, rfl, trivial⟩ trivial
   ·
    replace hsy3 := cF c5 hsy3
    refine avc_exit ?_
    cases hsy3
    intro q; cases q
    exact ⟨rfl, weak_cov ⟨rfl, trivial⟩ trivial⟩
  ·
   rintro y3 rfl
   replace h := eL h
   refine avc_sq2 <| avc_sq2 <| avc_sq ?_
   refine sqa (a_move_d (lq rfl) rfl) ?_
   refine sqa (m_len (en := eMapping) (l := a0) (lq rfl) S38 rfl) ?_
   refine sqa (a_move_d (lq rfl) rfl) ?_
   refine sq_nil <| avc_block ?_
   obtain ⟨y4, hy4, h'⟩ := bE h; clear h
   refine avc_tail2 y4 (.exit 6) (fun y4 => ⟨[], []⟩) .ret (fun y4 => ⟨[(2, .d (di y4))], []⟩) ?_ ?_ ?_
   ·
    refine avc_loopM (fun x => ⟨[(44, .d (dsl eMapping a0)), (45, .d (di (a0.length : Int))), (46, .d (di x))], []⟩) hy4 (weak_cov ⟨rfl, rfl, rfl, trivial⟩ trivial) ?_
    rintro v46 sy4 hsy4
    replace hsy4 : mapping_parts_L3 a0 v46 = some sy4 := hsy4
    unfold mapping_parts_L3 at hsy4
    refine avc_sq2 <| avc_sq ?_
    refine sqa (a_lss (lq rfl) rfl rfl) ?_
    refine sq_nil <| avc_sq2 ?_
    refine avc_if rfl ⟨fun c7 => ?_, fun c7 => ?_⟩
    ·
     replace hsy4 := cT c7 hsy4
     refine avc_skip <| avc_sq2 <| avc_block <| avc_sq2 <| avc_sq ?_
     obtain ⟨t48, ht48, hsy4'⟩ := bE hsy4; clear hsy4
     refine sqa (m_index (en := eMapping) (lq rfl) S38 rfl rfl ht48) ?_
     refine sqa (m_loadEA (en := eMapping) (l := a0) (i := v46) (v := t48) (off := 0) (lq rfl) G109 rfl ht48 rfl rfl (by decide)) ?_
     refine sq_b rfl (step_alloc (zs := [(.int IntKind.i64 (0)), (.slice none 0 0), (.string ⟨#[]⟩)]) (lq rfl) (by kernel_rfl) rfl rfl) ?_
     refine sq_b rfl (s_store_boxA G109 rfl rfl rfl rfl rfl rfl) ?_
     refine sq_nil ?_
     refine avc_weak (weak_freeze (t := 10) (lq rfl) rfl rfl rfl) ?_
     refine avc_sq2 <| avc_sq ?_
     refine sqa (m_fieldPt (lq rfl) L109_2 rfl) ?_
     refine sqa (a_load_ip (lq rfl) O9 rfl rfl) ?_
     refine sqa (m_sneq (a := t48.Tag) (b := []) (lq rfl) rfl rfl) ?_
     obtain ⟨b53, hb53, hsy4⟩ := bE hsy4'; clear hsy4'
     refine sqa ((a_move_d (lq rfl) rfl).bool (Option.some.inj hb53)) ?_
     refine sq_g (x := .ip (eMapping.cells t48) (0 + 2)) rfl rfl rfl (lq rfl) (lq rfl) rfl (fun hb => by obtain rfl : b53 = true := hb; exact m_fieldPt (lq rfl) L109_2 rfl) ?_
     refine sq_g (x := .d (ds t48.Tag)) rfl rfl rfl (lq rfl) (lq rfl) rfl (fun hb => by obtain rfl : b53 = true := hb; exact a_load_ip (lq rfl) O9 rfl rfl) ?_
     obtain ⟨t56, ht56, hsy4'⟩ := bE hsy4; clear hsy4
     refine sq_g (x := .d (db t56)) rfl rfl rfl (lq rfl) (lq rfl) rfl (fun hb => by obtain rfl : b53 = true := hb; exact a_call (lq rfl) rfl (mapping_isName_c ht56)) ?_
     refine sq_g (x := .d (db (!t56))) rfl rfl rfl (lq rfl) (lq rfl) rfl (fun hb => by obtain rfl : b53 = true := hb; exact a_not (lq rfl) rfl) ?_
     refine sqa (a_pick_and (lq rfl) rfl rfl) ?_
     refine sq_nil ?_
     refine avc_if rfl ⟨fun c8 => ?_, fun c8 => ?_⟩
     ·
      replace hsy4' := cT c8 hsy4'
      refine avc_sq2 <| avc_sq ?_
      refine sqa (a_assign_d (lq rfl) rfl) ?_
      refine sq_nil ?_
      refine avc_ret ?_
      cases hsy4'
      intro q; cases q
      exact ⟨rfl, weak_cov ⟨rfl, trivial⟩ trivial⟩
     ·
      replace hsy4' := cF c8 hsy4'
      refine avc_skip <| avc_sq ?_
      refine sqa (m_add (lq rfl) rfl rfl) ?_
      refine sqa (a_move_d (lq rfl) rfl) ?_
      refine sq_nil ?_
      cases hsy4'
      exact weak_cov ⟨rfl, rfl, rfl, trivial⟩ trivial
    ·
     replace hsy4 := cF c7 hsy4
     refine avc_exit ?_
     cases hsy4
     intro q; cases q
     exact ⟨rfl, weak_cov trivial trivial⟩
   ·
    rintro y4 rfl
    replace h' := eL h'
    refine avc_sq2 <| avc_sq ?_
    refine sqa (a_assign_d (lq rfl) rfl) ?_
    refine sq_nil ?_
    cases h'
    refine avc_ret ?_
    exact ret_1 rfl
   ·
    rintro y4 rfl
    replace h' := eR h'
    cases h'
    exact ret_1 rfl
  ·
   rintro y3 rfl
   replace h := eR h
   cases h
   exact ret_1 rfl
 ·
  rintro y1 rfl
  replace h' := eR h'
  cases h'
  exact ret_1 rfl
theorem cmp_isNaN_string_c  {a0 : Str}  {r : Bool} (h : cmp_isNaN_string a0 = some r) : Contract Tryd.prog 97 [(ds a0)] [(db r)] := by
 refine contract_of Tryd.func97 (by kernel_rfl) rfl (lq rfl) (lq rfl) fun w0 I0 hI0 hG0 => ?_
 unfold cmp_isNaN_string at h
 refine avc_sq2 <| avc_sq ?_
 refine sqa (a_assign_d (lq rfl) rfl) ?_
 refine sq_nil <| avc_sq2 <| avc_sq ?_
 refine sqa (a_move_d (lq rfl) rfl) ?_
 refine sqa (a_move_d (lq rfl) rfl) ?_
 refine sqa (m_sneq (a := a0) (b := a0) (lq rfl) rfl rfl) ?_
 refine sqa (a_assign_d (lq rfl) rfl) ?_
 refine sq_nil ?_
 cases h
 refine avc_ret ?_
 exact ret_1 rfl
theorem cmp_Compare_string_c  {a0 : Str} {a1 : Str}  {r : Int} (h : cmp_Compare_string a0 a1 = some r) : Contract Tryd.prog 92 [(ds a0), (ds a1)] [(di r)] := by
 refine contract_of Tryd.func92 (by kernel_rfl) rfl (lq rfl) (lq rfl) fun w0 I0 hI0 hG0 => ?_
 unfold cmp_Compare_string at h
 refine avc_sq2 <| avc_sq ?_
 refine sqa (a_assign_d (lq rfl) rfl) ?_
 refine sq_nil <| avc_sq2 <| avc_sq ?_
 refine sqa (a_move_d (lq rfl) rfl) ?_
 obtain ⟨t8, ht8, h'⟩ := bE h; clear h
 refine sqa (a_call (lq rfl) rfl (cmp_isNaN_string_c ht8)) ?_
 refine sqa (a_assign_d (lq rfl) rfl) ?_
 refine sq_nil <| avc_sq2 <| avc_sq ?_
 refine sqa (a_move_d (lq rfl) rfl) ?_
 obtain ⟨t10, ht10, h⟩ := bE h'; clear h'
 refine sqa (a_call (lq rfl) rfl (cmp_isNaN_string_c ht10)) ?_
 refine sqa (a_assign_d (lq rfl) rfl) ?_
 refine sq_nil <| avc_sq2 <| avc_sq2 <| avc_sq ?_
 refine sqa (a_move_d (lq rfl) rfl) ?_
 refine sq_nil ?_
 refine avc_if rfl ⟨fun c1 => ?_, fun c1 => ?_⟩
 ·
  replace h := cT c1 h
  refine avc_sq2 <| avc_sq2 <| avc_sq ?_
  refine sqa (a_move_d (lq rfl) rfl) ?_
  refine sq_nil ?_
  refine avc_if rfl ⟨fun c2 => ?_, fun c2 => ?_⟩
  ·
   replace h := cT c2 h
   refine avc_sq2 <| avc_sq ?_
   refine sqa (a_assign_d (lq rfl) rfl) ?_
   refine sq_nil ?_
   cases h
   refine avc_ret ?_
   exact ret_1 rfl
  ·
   replace h := cF c2 h
   refine avc_skip <| avc_sq2 <| avc_sq ?_
   refine sqa (a_assign_d (lq rfl) rfl) ?_
   refine sq_nil ?_
   cases h
   refine avc_ret ?_
   exact ret_1 rfl
 ·
  replace h := cF c1 h
  refine avc_skip <| avc_sq2 <| avc_sq2 <| avc_sq ?_
  refine sqa (a_move_d (lq rfl) rfl) ?_
  refine sq_nil ?_
  refine avc_if rfl ⟨fun c3 => ?_, fun c3 => ?_⟩
  ·
   replace h := cT c3 h
   refine avc_sq2 <| avc_sq ?_
   refine sqa (a_assign_d (lq rfl) rfl) ?_
   refine sq_nil ?_
   cases h
   refine avc_ret ?_
   exact ret_1 rfl
  ·
   replace h := cF c3 h
   refine avc_skip <| avc_sq2 <| avc_sq2 <| avc_sq ?_
   refine sqa (a_move_d (lq rfl) rfl) ?_
   refine sqa (a_move_d (lq rfl) rfl) ?_
   refine sqa (m_slss (a := a0) (b := a1) (lq rfl) rfl rfl) ?_
   refine sq_nil ?_
   refine avc_if rfl ⟨fun c4 => ?_, fun c4 => ?_⟩
   ·
    replace h := cT c4 h
    refine avc_sq2 <| avc_sq ?_
    refine sqa (a_assign_d (lq rfl) rfl) ?_
    refine sq_nil ?_
    cases h
    refine avc_ret ?_
    exact ret_1 rfl
   ·
    replace h := cF c4 h
    refine avc_skip <| avc_sq2 <| avc_sq2 <| avc_sq ?_
    refine sqa (a_move_d (lq rfl) rfl) ?_
    refine sqa (a_move_d (lq rfl) rfl) ?_
    refine sqa (m_sgtr (a := a0) (b := a1) (lq rfl) rfl rfl) ?_
    refine sq_nil ?_
    refine avc_if rfl ⟨fun c5 => ?_, fun c5 => ?_⟩
    ·
     replace h := cT c5 h
     refine avc_sq2 <| avc_sq ?_
     refine sqa (a_assign_d (lq rfl) rfl) ?_
     refine sq_nil ?_
     cases h
     refine avc_ret ?_
     exact ret_1 rfl
    ·
     replace h := cF c5 h
     refine avc_skip <| avc_sq2 <| avc_sq ?_
     refine sqa (a_assign_d (lq rfl) rfl) ?_
     refine sq_nil ?_
     cases h
     refine avc_ret ?_
     exact ret_1 rfl
theorem cmp_Or_int_c  {a0 : (List Int)}  {r : Int} (h : cmp_Or_int a0 = some r) : Contract Tryd.prog 91 [(dsl eI a0)] [(di r)] := by
 refine contract_of Tryd.func91 (by kernel_rfl) rfl (lq rfl) (lq rfl) fun w0 I0 hI0 hG0 => ?_
 unfold cmp_Or_int at h
 refine avc_sq2 <| avc_sq ?_
 refine sqa (a_assign_d (lq rfl) rfl) ?_
 refine sq_nil <| avc_sq2 <| avc_sq ?_
 refine sqa (a_assign_d (lq rfl) rfl) ?_
 refine sq_nil <| avc_sq2 <| avc_sq2 <| avc_sq ?_
 refine sqa (a_move_d (lq rfl) rfl) ?_
 refine sqa (m_len (en := eI) (l := a0) (lq rfl) S30 rfl) ?_
 refine sqa (a_move_d (lq rfl) rfl) ?_
 refine sq_nil <| avc_block ?_
 obtain ⟨y1, hy1, h'⟩ := bE h; clear h
 refine avc_tail2 y1 (.exit 0) (fun y1 => ⟨[(3, .d (di 0))], []⟩) .ret (fun y1 => ⟨[(2, .d (di y1))], []⟩) ?_ ?_ ?_
 ·
  refine avc_loopM (fun x => ⟨[(3, .d (di 0)), (6, .d (dsl eI a0)), (7, .d (di (a0.length : Int))), (8, .d (di x))], []⟩) hy1 (weak_cov ⟨rfl, rfl, rfl, rfl, trivial⟩ trivial) ?_
  rintro v8 sy1 hsy1
  replace hsy1 : cmp_Or_int_L0 a0 v8 = some sy1 := hsy1
  unfold cmp_Or_int_L0 at hsy1
  refine avc_sq2 <| avc_sq ?_
  refine sqa (a_lss (lq rfl) rfl rfl) ?_
  refine sq_nil <| avc_sq2 ?_
  refine avc_if rfl ⟨fun c1 => ?_, fun c1 => ?_⟩
  ·
   replace hsy1 := cT c1 hsy1
   refine avc_skip <| avc_sq2 <| avc_block <| avc_sq2 <| avc_sq ?_
   obtain ⟨t10, ht10, hsy1'⟩ := bE hsy1; clear hsy1
   refine sqa (m_index (en := eI) (lq rfl) S30 rfl rfl ht10) ?_
   refine sqa (m_loadE (en := eI) (l := a0) (i := v8) (v := t10) (off := 0) (lq rfl) O3 rfl ht10 rfl) ?_
   refine sqa (a_assign_d (lq rfl) rfl) ?_
   refine sq_nil <| avc_sq2 <| avc_sq ?_
   refine sqa (a_move_d (lq rfl) rfl) ?_
   refine sqa (a_move_d (lq rfl) rfl) ?_
   refine sqa (a_neq (lq rfl) rfl rfl) ?_
   refine sq_nil ?_
   refine avc_if rfl ⟨fun c2 => ?_, fun c2 => ?_⟩
   ·
    replace hsy1' := cT c2 hsy1'
    refine avc_sq2 <| avc_sq ?_
    refine sqa (a_move_d (lq rfl) rfl) ?_
    refine sqa (a_assign_d (lq rfl) rfl) ?_
    refine sq_nil ?_
    refine avc_ret ?_
    cases hsy1'
    intro q; cases q
    exact ⟨rfl, weak_cov ⟨rfl, trivial⟩ trivial⟩
   ·
    replace hsy1' := cF c2 hsy1'
    refine avc_skip <| avc_sq ?_
    refine sqa (m_add (lq rfl) rfl rfl) ?_
    refine sqa (a_move_d (lq rfl) rfl) ?_
    refine sq_nil ?_
    cases hsy1'
    exact weak_cov ⟨rfl, rfl, rfl, rfl, trivial⟩ trivial
  ·
   replace hsy1 := cF c1 hsy1
   refine avc_exit ?_
   cases hsy1
   intro q; cases q
   exact ⟨rfl, weak_cov ⟨rfl, trivial⟩ trivial⟩
 ·
  rintro y1 rfl
  replace h' := eL h'
  refine avc_sq2 <| avc_sq ?_
  refine sqa (a_move_d (lq rfl) rfl) ?_
  refine sqa (a_assign_d (lq rfl) rfl) ?_
  refine sq_nil ?_
  cases h'
  refine avc_ret ?_
  exact ret_1 rfl
 ·
  rintro y1 rfl
  replace h' := eR h'
  cases h'
  exact ret_1 rfl
theorem mapping_compare_c  {a0 : Mapping} {a1 : Mapping}  {r : Int} (h : mapping_compare a0 a1 = some r) : Contract Tryd.prog 82 [(eMapping.dv a0), (eMapping.dv a1)] [(di r)] := by
 refine contract_of Tryd.func82 (by kernel_rfl) rfl (lq rfl) (lq rfl) fun w0 I0 hI0 hG0 => ?_
 unfold mapping_compare at h
 refine avc_sq2 <| avc_sq ?_
 refine sqa (m_box (size := 3) (lq rfl) rfl rfl) ?_
 refine sqa (m_box (size := 3) (lq rfl) rfl rfl) ?_
 refine sqa (a_assign_d (lq rfl) rfl) ?_
 refine sq_nil <| avc_sq2 ?_
 refine avc_drawA MX rfl ?_
 refine daa (m_fieldPt (lq rfl) L109_0 rfl) ?_
 refine daa (a_load_ip (lq rfl) O3 rfl rfl) ?_
 refine daa (m_fieldPt (lq rfl) L109_0 rfl) ?_
 refine daa (a_load_ip (lq rfl) O3 rfl rfl) ?_
 obtain ⟨t9, ht9, h'⟩ := bE h; clear h
 refine daa (a_call (lq rfl) rfl (cmp_Compare_int_c ht9)) ?_
 refine daa (m_fieldPt (lq rfl) L109_2 rfl) ?_
 refine daa (a_load_ip (lq rfl) O9 rfl rfl) ?_
 refine daa (m_fieldPt (lq rfl) L109_2 rfl) ?_
 refine daa (a_load_ip (lq rfl) O9 rfl rfl) ?_
 obtain ⟨t14, ht14, h⟩ := bE h'; clear h'
 refine daa (a_call (lq rfl) rfl (cmp_Compare_string_c ht14)) ?_
 refine daa (a_lit (lq rfl) S30 rfl rfl rfl rfl (by decide) rfl) ?_
 obtain ⟨t16, ht16, h'⟩ := bE h; clear h
 refine daa (a_call (lq rfl) rfl (cmp_Or_int_c ht16)) ?_
 refine daa (a_assign_d (lq rfl) rfl) ?_
 refine da_nil ?_
 cases h'
 refine avc_ret ?_
 exact ret_1 rfl
theorem mapping_keyOf_c  {a0 : Mapping}  {r : Mapping_key} (h : mapping_keyOf a0 = some r) : Contract Tryd.prog 83 [(eMapping.dv a0)] [(eMapping_key.dv r)] := by
 refine contract_of Tryd.func83 (by kernel_rfl) rfl (lq rfl) (lq rfl) fun w0 I0 hI0 hG0 => ?_
 unfold mapping_keyOf at h
 refine avc_sq2 <| avc_sq ?_
 refine sqa (m_box (size := 3) (lq rfl) rfl rfl) ?_
 refine sq_b rfl (step_alloc (zs := [(.int IntKind.i64 (0)), (.string ⟨#[]⟩)]) (lq rfl) (by kernel_rfl) rfl rfl) ?_
 refine sq_nil <| avc_sq2 <| avc_sq ?_
 refine sqa (m_fieldPt (lq rfl) L109_0 rfl) ?_
 refine sqa (a_load_ip (lq rfl) O3 rfl rfl) ?_
 refine sqa (m_fieldPt (lq rfl) L109_2 rfl) ?_
 refine sqa (a_load_ip (lq rfl) O9 rfl rfl) ?_
 refine sqa (m_build (lq rfl) B127 rfl rfl) ?_
 refine sq_b rfl (s_store_boxA G127 rfl rfl rfl rfl rfl rfl) ?_
 refine sq_nil ?_
 cases h
 refine avc_ret ?_
 exact ret_cellA rfl rfl G127 rfl
theorem mapping_Check_c  {a0 : (List Mapping)}  {r : Int} (h : mapping_Check a0 = some r) : Contract Tryd.prog 67 [(dsl eMapping a0)] [(di r)] := by
 refine contract_of Tryd.func67 (by kernel_rfl) rfl (lq rfl) (lq rfl) fun w0 I0 hI0 hG0 => ?_
 unfold mapping_Check at h
 refine avc_sq2 <| avc_sq ?_
 refine sqa (a_assign_d (lq rfl) rfl) ?_
 refine sq_nil <| avc_sq2 <| avc_sq2 <| avc_sq ?_
 refine sqa (a_move_d (lq rfl) rfl) ?_
 obtain ⟨t10, ht10, h'⟩ := bE h; clear h
 refine sqa (a_call (lq rfl) rfl (mapping_parts_c ht10)) ?_
 refine sqa (a_assign_d (lq rfl) rfl) ?_
 refine sq_nil <| avc_sq2 <| avc_sq ?_
 refine sqa (a_move_d (lq rfl) rfl) ?_
 refine sqa (a_neq (lq rfl) rfl rfl) ?_
 refine sq_nil ?_
 refine avc_if rfl ⟨fun c1 => ?_, fun c1 => ?_⟩
 ·
  replace h' := cT c1 h'
  refine avc_sq2 <| avc_sq ?_
  refine sqa (a_move_d (lq rfl) rfl) ?_
  refine sqa (a_assign_d (lq rfl) rfl) ?_
  refine sq_nil ?_
  cases h'
  refine avc_ret ?_
  exact ret_1 rfl
 ·
  replace h' := cF c1 h'
  refine avc_skip <| avc_sq2 <| avc_sq ?_
  refine sqa (a_assign_d (lq rfl) rfl) ?_
  refine sq_nil <| avc_sq2 <| avc_sq2 <| avc_sq ?_
  refine sqa (a_assign_d (lq rfl) rfl) ?_
  refine sq_nil <| avc_block ?_
  obtain ⟨y1, hy1, h⟩ := bE h'; clear h'
  refine avc_tail (e := (.exit 0)) (S2 := ⟨[(0, .d (dsl eMapping a0)), (4, .d (db y1))], []⟩) ?_ ?_
  ·
   refine avc_loopM (fun x => ⟨[(0, .d (dsl eMapping a0)), (4, .d (db x.1)), (5, .d (di x.2))], []⟩) hy1 (weak_cov ⟨rfl, rfl, rfl, trivial⟩ trivial) ?_
   rintro ⟨v4, v5⟩ sy1 hsy1
   replace hsy1 : mapping_Check_L0 a0 v4 v5 = some sy1 := hsy1
   unfold mapping_Check_L0 at hsy1
   refine avc_sq2 <| avc_sq2 <| avc_sq ?_
   refine sqa (a_move_d (lq rfl) rfl) ?_
   refine sqa (a_move_d (lq rfl) rfl) ?_
   refine sqa (m_len (en := eMapping) (l := a0) (lq rfl) S38 rfl) ?_
   refine sqa (a_lss (lq rfl) rfl rfl) ?_
   refine sq_nil ?_
   refine avc_if rfl ⟨fun c2 => ?_, fun c2 => ?_⟩
   ·
    replace hsy1 := cT c2 hsy1
    refine avc_skip <| avc_sq2 ?_
    obtain ⟨y2, hy2, hsy1'⟩ := bE hsy1; clear hsy1
    refine avc_tail (e := .normal) (S2 := ⟨[(0, .d (dsl eMapping a0)), (4, .d (db y2)), (5, .d (di v5))], []⟩) ?_ ?_
    ·
     refine avc_block <| avc_sq2 ?_
     refine avc_drawA MX rfl ?_
     refine daa (a_move_d (lq rfl) rfl) ?_
     refine daa (a_move_d (lq rfl) rfl) ?_
     refine daa (m_sub (lq rfl) rfl rfl) ?_
     obtain ⟨t23, ht23, hy2'⟩ := bE hy2; clear hy2
     refine daa (m_index (en := eMapping) (lq rfl) S38 rfl rfl ht23) ?_
     refine daa (m_loadEA (en := eMapping) (l := a0) (i := (wi (v5 - 1))) (v := t23) (off := 0) (lq rfl) G109 rfl ht23 rfl rfl (by decide)) ?_
     refine daa (a_move_d (lq rfl) rfl) ?_
     refine daa (a_move_d (lq rfl) rfl) ?_
     obtain ⟨t27, ht27, hy2⟩ := bE hy2'; clear hy2'
     refine daa (m_index (en := eMapping) (lq rfl) S38 rfl rfl ht27) ?_
     refine daa (m_loadEA (en := eMapping) (l := a0) (i := v5) (v := t27) (off := 0) (lq rfl) G109 rfl ht27 rfl rfl (by decide)) ?_
     obtain ⟨t29, ht29, hy2'⟩ := bE hy2; clear hy2
     refine daa (a_call (lq rfl) rfl (mapping_compare_c ht29)) ?_
     refine daa (a_geq (lq rfl) rfl rfl) ?_
     refine da_nil ?_
     refine avc_if rfl ⟨fun c3 => ?_, fun c3 => ?_⟩
     ·
      replace hy2' := cT c3 hy2'
      refine avc_sq ?_
      refine sqa (a_assign_d (lq rfl) rfl) ?_
      refine sq_nil ?_
      cases hy2'
      exact out_mk (weak_cov ⟨rfl, rfl, rfl, trivial⟩ trivial)
     ·
      replace hy2' := cF c3 hy2'
      refine avc_skip ?_
      cases hy2'
      exact out_mk (weak_cov ⟨rfl, rfl, rfl, trivial⟩ trivial)
    ·
     refine avc_sq ?_
     refine sqa (a_move_d (lq rfl) rfl) ?_
     refine sqa (m_add (lq rfl) rfl rfl) ?_
     refine sqa (a_assign_d (lq rfl) rfl) ?_
     refine sq_nil ?_
     cases hsy1'
     exact weak_cov ⟨rfl, rfl, rfl, trivial⟩ trivial
   ·
    replace hsy1 := cF c2 hsy1
    refine avc_exit ?_
    cases hsy1
    intro q; cases q
    exact out_mk (weak_cov ⟨rfl, rfl, trivial⟩ trivial)
  ·
   refine avc_sq2 <| avc_sq2 <| avc_sq ?_
   refine sqa (a_move_d (lq rfl) rfl) ?_
   refine sq_nil ?_
   refine avc_if rfl ⟨fun c4 => ?_, fun c4 => ?_⟩
   ·
    replace h := cT c4 h
    refine avc_sq2 <| avc_sq ?_
    refine sqa (a_assign_d (lq rfl) rfl) ?_
    refine sq_nil ?_
    cases h
    refine avc_ret ?_
    exact ret_1 rfl
   ·
    replace h := cF c4 h
    refine avc_skip <| avc_sq2 <| avc_sq ?_
    refine sq_b rfl (m_makeMap (lq rfl) rfl) ?_
    refine sqa (a_assign_row (lq rfl) rfl) ?_
    refine sq_nil <| avc_sq2 <| avc_sq2 <| avc_sq ?_
    refine sqa (a_move_d (lq rfl) rfl) ?_
    refine sqa (m_len (en := eMapping) (l := a0) (lq rfl) S38 rfl) ?_
    refine sqa (a_move_d (lq rfl) rfl) ?_
    refine sq_nil <| avc_block ?_
    obtain ⟨y3, hy3, h'⟩ := bE h; clear h
    refine avc_tail2 y3 (.exit 2) (fun y3 => ⟨[], []⟩) .ret (fun y3 => ⟨[(2, .d (di y3))], []⟩) ?_ ?_ ?_
    ·
     refine avc_loopM (fun x => ⟨[(6, .row 32), (33, .d (dsl eMapping a0)), (34, .d (di (a0.length : Int))), (35, .d (di x.1))], [(32, .map (mapE kMapping_key eB x.2))]⟩) hy3 (weak_cov ⟨rfl, rfl, rfl, rfl, trivial⟩ ⟨rfl, trivial⟩) ?_
     rintro ⟨v35, r32⟩ sy3 hsy3
     replace hsy3 : mapping_Check_L1 a0 v35 r32 = some sy3 := hsy3
     unfold mapping_Check_L1 at hsy3
     refine avc_sq2 <| avc_sq ?_
     refine sqa (a_lss (lq rfl) rfl rfl) ?_
     refine sq_nil <| avc_sq2 ?_
     refine avc_if rfl ⟨fun c5 => ?_, fun c5 => ?_⟩
     ·
      replace hsy3 := cT c5 hsy3
      refine avc_skip <| avc_sq2 <| avc_block <| avc_sq2 <| avc_sq ?_
      obtain ⟨t37, ht37, hsy3'⟩ := bE hsy3; clear hsy3
      refine sqa (m_index (en := eMapping) (lq rfl) S38 rfl rfl ht37) ?_
      refine sqa (m_loadEA (en := eMapping) (l := a0) (i := v35) (v := t37) (off := 0) (lq rfl) G109 rfl ht37 rfl rfl (by decide)) ?_
      refine sq_b rfl (step_alloc (zs := [(.int IntKind.i64 (0)), (.slice none 0 0), (.string ⟨#[]⟩)]) (lq rfl) (by kernel_rfl) rfl rfl) ?_
      refine sq_b rfl (s_store_boxA G109 rfl rfl rfl rfl rfl rfl) ?_
      refine sq_nil ?_
      refine avc_weak (weak_freeze (t := 8) (lq rfl) rfl rfl rfl) ?_
      refine avc_sq2 <| avc_sq2 <| avc_sq ?_
      refine sqa (a_move_row (lq rfl) rfl) ?_
      refine sqa (m_loadPt (lq rfl) G109 rfl rfl) ?_
      obtain ⟨t41, ht41, hsy3⟩ := bE hsy3'; clear hsy3'
      refine sqa (a_call (lq rfl) rfl (mapping_keyOf_c ht41)) ?_
      refine sqa (m_lookupK (kv := kMapping_key) (ev := eB) (mp := r32) (k := t41) (zero := false) (lq rfl) M125 K127 rfl rfl rfl (kAgg rfl) (fun _ _ => .v _)) ?_
      refine sq_nil ?_
      refine avc_if rfl ⟨fun c6 => ?_, fun c6 => ?_⟩
      ·
       replace hsy3 := cT c6 hsy3
       refine avc_sq2 <| avc_sq ?_
       refine sqa (a_assign_d (lq rfl) rfl) ?_
       refine sq_nil ?_
       refine avc_ret ?_
       cases hsy3
       intro q; cases q
       exact ⟨rfl, weak_cov ⟨rfl, trivial⟩ trivial⟩
      ·
       replace hsy3 := cF c6 hsy3
       refine avc_skip <| avc_sq ?_
       refine sqa (a_move_row (lq rfl) rfl) ?_
       refine sqa (m_loadPt (lq rfl) G109 rfl rfl) ?_
       obtain ⟨t45, ht45, hsy3'⟩ := bE hsy3; clear hsy3
       refine sqa (a_call (lq rfl) rfl (mapping_keyOf_c ht45)) ?_
       refine sq_b rfl (m_mapUpdateK (kv := kMapping_key) (ev := eB) (mp := r32) (k := t45) (v := true) M125 K127 rfl rfl rfl (kAgg rfl) rfl rfl rfl) ?_
       refine sq_nil <| avc_sq ?_
       refine sqa (m_add (lq rfl) rfl rfl) ?_
       refine sqa (a_move_d (lq rfl) rfl) ?_
       refine sq_nil ?_
       cases hsy3'
       exact weak_cov ⟨rfl, rfl, rfl, rfl, trivial⟩ ⟨rfl, trivial⟩
     ·
      replace hsy3 := cF c5 hsy3
      refine avc_exit ?_
      cases hsy3
      intro q; cases q
      exact ⟨rfl, weak_cov trivial trivial⟩
    ·
     rintro y3 rfl
     replace h' := eL h'
     refine avc_sq2 <| avc_sq ?_
     refine sqa (a_assign_d (lq rfl) rfl) ?_
     refine sq_nil ?_
     cases h'
     refine avc_ret ?_
     exact ret_1 rfl
    ·
     rintro y3 rfl
     replace h' := eR h'
     cases h'
     exact ret_1 rfl
set_option maxRecDepth 20000 in
theorem math_bits_Len64_c  {a0 : Int}  {r : Int} (h : math_bits_Len64 a0 = some r) : Contract Tryd.prog 110 [(.v (.int .u64 a0))] [(di r)] := by
 refine contract_of Tryd.func110 (by kernel_rfl) rfl (lq rfl) (lq rfl) fun w0 I0 hI0 hG0 => ?_
 unfold math_bits_Len64 at h
 refine avc_sq2 <| avc_sq ?_
 refine sqa (a_assign_d (lq rfl) rfl) ?_
 refine sq_nil <| avc_sq2 <| avc_sq2 <| avc_sq ?_
 refine sqa (a_move_d (lq rfl) rfl) ?_
 refine sqa (a_geq (lq rfl) rfl rfl) ?_
 refine sq_nil ?_
 obtain ⟨y1, hy1, h'⟩ := bE h; clear h
 refine avc_tail (e := .normal) (S2 := ⟨[(0, .d (.v (.int .u64 y1.1))), (2, .d (di y1.2))], []⟩) ?_ ?_
 ·
  refine avc_if rfl ⟨fun c1 => ?_, fun c1 => ?_⟩
  ·
   replace hy1 := cT c1 hy1
   refine avc_sq2 <| avc_sq ?_
   refine sqa (a_move_d (lq rfl) rfl) ?_
   refine sqa (a_shr (m := 32) (lq rfl) rfl rfl (by decide)) ?_
   refine sqa (a_assign_d (lq rfl) rfl) ?_
   refine sq_nil <| avc_sq ?_
   refine sqa (a_assign_d (lq rfl) rfl) ?_
   refine sq_nil ?_
   cases hy1
   exact out_mk (weak_cov ⟨rfl, rfl, trivial⟩ trivial)
  ·
   replace hy1 := cF c1 hy1
   refine avc_skip ?_
   cases hy1
   exact out_mk (weak_cov ⟨rfl, rfl, trivial⟩ trivial)
 ·
  refine avc_sq2 <| avc_sq2 <| avc_sq ?_
  refine sqa (a_move_d (lq rfl) rfl) ?_
  refine sqa (a_geq (lq rfl) rfl rfl) ?_
  refine sq_nil ?_
  obtain ⟨y2, hy2, h⟩ := bE h'; clear h'
  refine avc_tail (e := .normal) (S2 := ⟨[(0, .d (.v (.int .u64 y2.1))), (2, .d (di y2.2))], []⟩) ?_ ?_
  ·
   refine avc_if rfl ⟨fun c2 => ?_, fun c2 => ?_⟩
   ·
    replace hy2 := cT c2 hy2
    refine avc_sq2 <| avc_sq ?_
    refine sqa (a_move_d (lq rfl) rfl) ?_
    refine sqa (a_shr (m := 16) (lq rfl) rfl rfl (by decide)) ?_
    refine sqa (a_assign_d (lq rfl) rfl) ?_
    refine sq_nil <| avc_sq ?_
    refine sqa (a_move_d (lq rfl) rfl) ?_
    refine sqa (m_add (lq rfl) rfl rfl) ?_
    refine sqa (a_assign_d (lq rfl) rfl) ?_
    refine sq_nil ?_
    cases hy2
    exact out_mk (weak_cov ⟨rfl, rfl, trivial⟩ trivial)
   ·
    replace hy2 := cF c2 hy2
    refine avc_skip ?_
    cases hy2
    exact out_mk (weak_cov ⟨rfl, rfl, trivial⟩ trivial)
  ·
   refine avc_sq2 <| avc_sq2 <| avc_sq ?_
   refine sqa (a_move_d (lq rfl) rfl) ?_
   refine sqa (a_geq (lq rfl) rfl rfl) ?_
   refine sq_nil ?_
   obtain ⟨y3, hy3, h'⟩ := bE h; clear h
   refine avc_tail (e := .normal) (S2 := ⟨[(0, .d (.v (.int .u64 y3.1))), (2, .d (di y3.2))], []⟩) ?_ ?_
   ·
    refine avc_if rfl ⟨fun c3 => ?_, fun c3 => ?_⟩
    ·
     replace hy3 := cT c3 hy3
     refine avc_sq2 <| avc_sq ?_
     refine sqa (a_move_d (lq rfl) rfl) ?_
     refine sqa (a_shr (m := 8) (lq rfl) rfl rfl (by decide)) ?_
     refine sqa (a_assign_d (lq rfl) rfl) ?_
     refine sq_nil <| avc_sq ?_
     refine sqa (a_move_d (lq rfl) rfl) ?_
     refine sqa (m_add (lq rfl) rfl rfl) ?_
     refine sqa (a_assign_d (lq rfl) rfl) ?_
     refine sq_nil ?_
     cases hy3
     exact out_mk (weak_cov ⟨rfl, rfl, trivial⟩ trivial)
    ·
     replace hy3 := cF c3 hy3
     refine avc_skip ?_
     cases hy3
     exact out_mk (weak_cov ⟨rfl, rfl, trivial⟩ trivial)
   ·
    refine avc_sq2 <| avc_sq ?_
    refine sqa (a_move_d (lq rfl) rfl) ?_
    refine sqa (a_move_d (lq rfl) rfl) ?_
    refine sqa (m_conv (lq rfl) Tryd.underlying153 Tryd.underlying5 rfl) ?_
    obtain ⟨t22, ht22, h⟩ := bE h'; clear h'
    refine sqa (m_sindex (s := [0, 1, 2, 2, 3, 3, 3, 3, 4, 4, 4, 4, 4, 4, 4, 4, 5, 5, 5, 5, 5, 5, 5, 5, 5, 5, 5, 5, 5, 5, 5, 5, 6, 6, 6, 6, 6, 6, 6, 6, 6, 6, 6, 6, 6, 6, 6, 6, 6, 6, 6, 6, 6, 6, 6, 6, 6, 6, 6, 6, 6, 6, 6, 6, 7, 7, 7, 7, 7, 7, 7, 7, 7, 7, 7, 7, 7, 7, 7, 7, 7, 7, 7, 7, 7, 7, 7, 7, 7, 7, 7, 7, 7, 7, 7, 7, 7, 7, 7, 7, 7, 7, 7, 7, 7, 7, 7, 7, 7, 7, 7, 7, 7, 7, 7, 7, 7, 7, 7, 7, 7, 7, 7, 7, 7, 7, 7, 7, 8, 8, 8, 8, 8, 8, 8, 8, 8, 8, 8, 8, 8, 8, 8, 8, 8, 8, 8, 8, 8, 8, 8, 8, 8, 8, 8, 8, 8, 8, 8, 8, 8, 8, 8, 8, 8, 8, 8, 8, 8, 8, 8, 8, 8, 8, 8, 8, 8, 8, 8, 8, 8, 8, 8, 8, 8, 8, 8, 8, 8, 8, 8, 8, 8, 8, 8, 8, 8, 8, 8, 8, 8, 8, 8, 8, 8, 8, 8, 8, 8, 8, 8, 8, 8, 8, 8, 8, 8, 8, 8, 8, 8, 8, 8, 8, 8, 8, 8, 8, 8, 8, 8, 8, 8, 8, 8, 8, 8, 8, 8, 8, 8, 8, 8, 8, 8, 8, 8, 8, 8, 8, 8, 8, 8, 8, 8, 8]) (lq rfl) Tryd.underlying9 rfl rfl ht22) ?_
    refine sqa (m_conv (lq rfl) Tryd.underlying5 Tryd.underlying3 rfl) ?_
    refine sqa (m_add (lq rfl) rfl rfl) ?_
    refine sqa (a_assign_d (lq rfl) rfl) ?_
    refine sq_nil ?_
    cases h
    refine avc_ret ?_
    exact ret_1 rfl
theorem math_bits_Len_c  {a0 : Int}  {r : Int} (h : math_bits_Len a0 = some r) : Contract Tryd.prog 99 [(.v (.int .u64 a0))] [(di r)] := by
 refine contract_of Tryd.func99 (by kernel_rfl) rfl (lq rfl) (lq rfl) fun w0 I0 hI0 hG0 => ?_
 unfold math_bits_Len at h
 refine avc_sq2 <| avc_sq ?_
 refine sqa (a_assign_d (lq rfl) rfl) ?_
 refine sq_nil <| avc_sq2 ?_
 refine avc_if rfl ⟨fun c1 => ?_, fun c1 => ?_⟩
 ·
  replace h := cT c1 h
  refine avc_sq2 <| avc_sq ?_
  refine sqa (a_move_d (lq rfl) rfl) ?_
  refine sqa (m_conv (lq rfl) Tryd.underlying132 Tryd.underlying151 rfl) ?_
  cases h
 ·
  replace h := cF c1 h
  refine avc_skip <| avc_sq2 <| avc_sq ?_
  refine sqa (a_move_d (lq rfl) rfl) ?_
  obtain ⟨t7, ht7, h'⟩ := bE h; clear h
  refine sqa (a_call (lq rfl) rfl (math_bits_Len64_c ht7)) ?_
  refine sqa (a_assign_d (lq rfl) rfl) ?_
  refine sq_nil ?_
  cases h'
  refine avc_ret ?_
  exact ret_1 rfl
set_option maxHeartbeats 8000000 in
theorem slices_insertionSortCmpFunc_api_Range_g {fv3 : DV} {a0 : (List Range)} {a1 : Int} {a2 : Int} {a3 : Range → Range → Option (Int)} (hf3 : ∀ x0 x1 y, a3 x0 x1 = some y → FnC Tryd.prog fv3 [(eRange.dv x0), (eRange.dv x1)] [(di y)]) {r : (List Range)} (h : slices_insertionSortCmpFunc_api_Range a0 a1 a2 a3 = some r) : GC Tryd.prog 101 [.row 3000, .d (di a1), .d (di a2), .d fv3] [(3000, .row 104 eRange.size false (eRange.all a0))] [3000] [] [(3000, .row 104 eRange.size false (eRange.all r))] := by
 refine gc_of Tryd.func101 (by kernel_rfl) rfl (lq rfl) (lq rfl) fun w0 I0 hG0 p0 => ?_
 unfold slices_insertionSortCmpFunc_api_Range at h
 refine avc_sq2 <| avc_sq ?_
 refine sqa (a_move_d (lq rfl) rfl) ?_
 refine sqa (m_add (lq rfl) rfl rfl) ?_
 refine sqa (a_assign_d (lq rfl) rfl) ?_
 refine sq_nil <| avc_block ?_
 obtain ⟨y1, hy1, h'⟩ := bE h; clear h
 refine avc_tail (e := (.exit 0)) (S2 := ⟨[(0, .row 3000)], [(3000, .row 104 eRange.size false (eRange.all y1))]⟩) ?_ ?_
 ·
  refine avc_loopM (fun x => ⟨[(0, .row 3000), (1, .d (di a1)), (2, .d (di a2)), (3, .d fv3), (8, .d (di x.1))], [(3000, .row 104 eRange.size false (eRange.all x.2))]⟩) hy1 (weak_cov ⟨rfl, rfl, rfl, rfl, rfl, trivial⟩ ⟨rfl, trivial⟩) ?_
  rintro ⟨v8, r3000⟩ sy1 hsy1
  replace hsy1 : slices_insertionSortCmpFunc_api_Range_L0 a2 a1 a3 v8 r3000 = some sy1 := hsy1
  unfold slices_insertionSortCmpFunc_api_Range_L0 at hsy1
  refine avc_sq2 <| avc_sq2 <| avc_sq ?_
  refine sqa (a_move_d (lq rfl) rfl) ?_
  refine sqa (a_move_d (lq rfl) rfl) ?_
  refine sqa (a_lss (lq rfl) rfl rfl) ?_
  refine sq_nil ?_
  refine avc_if rfl ⟨fun c1 => ?_, fun c1 => ?_⟩
  ·
   replace hsy1 := cT c1 hsy1
   refine avc_skip <| avc_sq2 <| avc_block <| avc_sq2 <| avc_sq ?_
   refine sqa (a_move_d (lq rfl) rfl) ?_
   refine sqa (a_assign_d (lq rfl) rfl) ?_
   refine sq_nil <| avc_block ?_
   obtain ⟨y2, hy2, hsy1'⟩ := bE hsy1; clear hsy1
   refine avc_tail (e := (.exit 2)) (S2 := ⟨[(0, .row 3000), (1, .d (di a1)), (2, .d (di a2)), (3, .d fv3), (8, .d (di v8))], [(3000, .row 104 eRange.size false (eRange.all y2))]⟩) ?_ ?_
   ·
    refine avc_loopM (fun x => ⟨[(0, .row 3000), (1, .d (di a1)), (2, .d (di a2)), (3, .d fv3), (8, .d (di v8)), (9, .d (di x.1))], [(3000, .row 104 eRange.size false (eRange.all x.2))]⟩) hy2 (weak_cov ⟨rfl, rfl, rfl, rfl, rfl, rfl, trivial⟩ ⟨rfl, trivial⟩) ?_
    rintro ⟨v9, r3000⟩ sy2 hsy2
    replace hsy2 : slices_insertionSortCmpFunc_api_Range_L1 a1 a3 v9 r3000 = some sy2 := hsy2
    unfold slices_insertionSortCmpFunc_api_Range_L1 at hsy2
    refine avc_sq2 <| avc_sq2 ?_
    refine avc_drawA MX rfl ?_
    refine daa (a_move_d (lq rfl) rfl) ?_
    refine daa (a_move_d (lq rfl) rfl) ?_
    refine daa (a_gtr (lq rfl) rfl rfl) ?_
    obtain ⟨b21, hb21, hsy2'⟩ := bE hsy2; clear hsy2
    refine daa ((a_move_d (lq rfl) rfl).bool (Option.some.inj hb21)) ?_
    refine da_g (x := .d fv3) rfl rfl rfl (lq rfl) (lq rfl) rfl (fun hb => by obtain rfl : b21 = true := hb; exact a_move_d (lq rfl) rfl) ?_
    refine da_g (x := .row 3000) rfl rfl rfl (lq rfl) (lq rfl) rfl (fun hb => by obtain rfl : b21 = true := hb; exact a_move_row (lq rfl) rfl) ?_
    refine da_g (x := .d (di v9)) rfl rfl rfl (lq rfl) (lq rfl) rfl (fun hb => by obtain rfl : b21 = true := hb; exact a_move_d (lq rfl) rfl) ?_
    obtain ⟨t25, ht25, hsy2⟩ := bE hsy2'; clear hsy2'
    refine da_g (x := .ptr 3000 (v9.toNat * eRange.size)) rfl rfl rfl (lq rfl) (lq rfl) rfl (fun hb => by obtain rfl : b21 = true := hb; exact m_indexR (en := eRange) (l := r3000) (lq rfl) S39 rfl rfl rfl ht25) ?_
    refine da_g (x := .d (eRange.dv t25)) rfl rfl rfl (lq rfl) (lq rfl) rfl (fun hb => by obtain rfl : b21 = true := hb; exact m_loadEAR (en := eRange) (l := r3000) (i := v9) (v := t25) (off := 0) (lq rfl) G104 rfl rfl ht25 rfl rfl (by decide)) ?_
    refine da_g (x := .row 3000) rfl rfl rfl (lq rfl) (lq rfl) rfl (fun hb => by obtain rfl : b21 = true := hb; exact a_move_row (lq rfl) rfl) ?_
    refine da_g (x := .d (di v9)) rfl rfl rfl (lq rfl) (lq rfl) rfl (fun hb => by obtain rfl : b21 = true := hb; exact a_move_d (lq rfl) rfl) ?_
    refine da_g (x := .d (di (wi (v9 - 1)))) rfl rfl rfl (lq rfl) (lq rfl) rfl (fun hb => by obtain rfl : b21 = true := hb; exact m_sub (lq rfl) rfl rfl) ?_
    obtain ⟨t30, ht30, hsy2'⟩ := bE hsy2; clear hsy2
    refine da_g (x := .ptr 3000 ((wi (v9 - 1)).toNat * eRange.size)) rfl rfl rfl (lq rfl) (lq rfl) rfl (fun hb => by obtain rfl : b21 = true := hb; exact m_indexR (en := eRange) (l := r3000) (lq rfl) S39 rfl rfl rfl ht30) ?_
    refine da_g (x := .d (eRange.dv t30)) rfl rfl rfl (lq rfl) (lq rfl) rfl (fun hb => by obtain rfl : b21 = true := hb; exact m_loadEAR (en := eRange) (l := r3000) (i := (wi (v9 - 1))) (v := t30) (off := 0) (lq rfl) G104 rfl rfl ht30 rfl rfl (by decide)) ?_
    obtain ⟨t32, ht32, hsy2⟩ := bE hsy2'; clear hsy2'
    refine da_g (x := .d (di t32)) rfl rfl rfl (lq rfl) (lq rfl) rfl (fun hb => by obtain rfl : b21 = true := hb; exact a_callF (lq rfl) rfl rfl (hf3 _ _ _ ht32)) ?_
    refine da_g (x := .d (db (decide (t32 < 0)))) rfl rfl rfl (lq rfl) (lq rfl) rfl (fun hb => by obtain rfl : b21 = true := hb; exact a_lss (lq rfl) rfl rfl) ?_
    refine daa (a_pick_and (lq rfl) rfl rfl) ?_
    refine da_nil ?_
    refine avc_if rfl ⟨fun c2 => ?_, fun c2 => ?_⟩
    ·
     replace hsy2 := cT c2 hsy2
     refine avc_skip <| avc_sq2 <| avc_block ?_
     obtain ⟨t45, ht45, hsy2'⟩ := bE hsy2; clear hsy2
     obtain ⟨t49, ht49, hsy2⟩ := bE hsy2'; clear hsy2'
     obtain ⟨t51, ht51, hsy2'⟩ := bE hsy2; clear hsy2
     obtain ⟨r3000_6x15, hr3000_6x15, hsy2⟩ := bE hsy2'; clear hsy2'
     obtain ⟨t52, ht52, hsy2'⟩ := bE hsy2; clear hsy2
     obtain ⟨r3000_6x17, hr3000_6x17, hsy2⟩ := bE hsy2'; clear hsy2'
     refine avc_tail (e := .normal) (S2 := ⟨[(0, .row 3000), (1, .d (di a1)), (2, .d (di a2)), (3, .d fv3), (8, .d (di v8)), (9, .d (di v9))], [(3000, .row 104 eRange.size false (eRange.all r3000_6x17))]⟩) ?_ ?_
     ·
      refine avc_any MX ?_
      refine any_move (i := 0) rfl (lq rfl) rfl rfl rfl rfl ?_
      refine any_move (i := 1) rfl (lq rfl) rfl rfl rfl rfl ?_
      refine any_move (i := 2) rfl (lq rfl) rfl rfl rfl rfl ?_
      refine any_move (i := 3) rfl (lq rfl) rfl rfl rfl rfl ?_
      refine any_sub (i := 4) rfl (lq rfl) rfl rfl rfl rfl rfl rfl ?_
      refine any_move (i := 5) rfl (lq rfl) rfl rfl rfl rfl ?_
      refine any_move (i := 6) rfl (lq rfl) rfl rfl rfl rfl ?_
      refine any_sub (i := 7) rfl (lq rfl) rfl rfl rfl rfl rfl rfl ?_
      refine any_move (i := 10) rfl (lq rfl) rfl rfl rfl rfl ?_
      refine any_move (i := 11) rfl (lq rfl) rfl rfl rfl rfl ?_
      refine any_n [8, 12] (by kernel_rfl) rfl ?_
      refine any_a (i := 8) rfl rfl (m_indexR (en := eRange) (l := r3000) (lq rfl) S39 rfl rfl rfl ht45) ?_ ?_
      ·
       refine any_n [9, 12] (by kernel_rfl) rfl ?_
       refine any_a (i := 9) rfl rfl (m_loadEAR (en := eRange) (l := r3000) (i := (wi (v9 - 1))) (v := t45) (off := 0) (lq rfl) G104 rfl rfl ht45 rfl rfl (by decide)) ?_ ?_
       ·
        refine any_n [12] (by kernel_rfl) rfl ?_
        refine any_a (i := 12) rfl rfl (m_indexR (en := eRange) (l := r3000) (lq rfl) S39 rfl rfl rfl ht49) ?_ ?_
        ·
         refine any_n [13] (by kernel_rfl) rfl ?_
         refine any_a (i := 13) rfl rfl (m_loadEAR (en := eRange) (l := r3000) (i := v9) (v := t49) (off := 0) (lq rfl) G104 rfl rfl ht49 rfl rfl (by decide)) ?_ ?_
         ·
          refine any_n [14] (by kernel_rfl) rfl ?_
          refine any_a (i := 14) rfl rfl (m_indexR (en := eRange) (l := r3000) (lq rfl) S39 rfl rfl rfl ht51) ?_ ?_
          ·
           refine any_n [15] (by kernel_rfl) rfl ?_
           refine any_b (i := 15) rfl rfl (m_storeA (en := eRange) (l := r3000) (i := v9) (v := t45) G104 rfl rfl rfl rfl hr3000_6x15 rfl) ?_ ?_
           ·
            refine any_n [16] (by kernel_rfl) rfl ?_
            refine any_a (i := 16) rfl rfl (m_indexR (en := eRange) (l := r3000_6x15) (lq rfl) S39 rfl rfl rfl ht52) ?_ ?_
            ·
             refine any_n [17] (by kernel_rfl) rfl ?_
             refine any_b (i := 17) rfl rfl (m_storeA (en := eRange) (l := r3000_6x15) (i := (wi (v9 - 1))) (v := t49) G104 rfl rfl rfl rfl hr3000_6x17 rfl) ?_ ?_
             ·
              exact any_end rfl (out_mk (weak_cov ⟨rfl, rfl, rfl, rfl, rfl, rfl, trivial⟩ ⟨rfl, trivial⟩))
             ·
              exact any_nil
            ·
             exact any_nil
           ·
            exact any_nil
          ·
           exact any_nil
         ·
          exact any_nil
        ·
         exact any_nil
       refine any_a (i := 12) rfl rfl (m_indexR (en := eRange) (l := r3000) (lq rfl) S39 rfl rfl rfl ht49) ?_ ?_
       ·
        refine any_n [9, 13] (by kernel_rfl) rfl ?_
        refine any_a (i := 9) rfl rfl (m_loadEAR (en := eRange) (l := r3000) (i := (wi (v9 - 1))) (v := t45) (off := 0) (lq rfl) G104 rfl rfl ht45 rfl rfl (by decide)) ?_ ?_
        ·
         refine any_n [13] (by kernel_rfl) rfl ?_
         refine any_a (i := 13) rfl rfl (m_loadEAR (en := eRange) (l := r3000) (i := v9) (v := t49) (off := 0) (lq rfl) G104 rfl rfl ht49 rfl rfl (by decide)) ?_ ?_
         ·
          refine any_n [14] (by kernel_rfl) rfl ?_
          refine any_a (i := 14) rfl rfl (m_indexR (en := eRange) (l := r3000) (lq rfl) S39 rfl rfl rfl ht51) ?_ ?_
          ·
           refine any_n [15] (by kernel_rfl) rfl ?_
           refine any_b (i := 15) rfl rfl (m_storeA (en := eRange) (l := r3000) (i := v9) (v := t45) G104 rfl rfl rfl rfl hr3000_6x15 rfl) ?_ ?_
           ·
            refine any_n [16] (by kernel_rfl) rfl ?_
            refine any_a (i := 16) rfl rfl (m_indexR (en := eRange) (l := r3000_6x15) (lq rfl) S39 rfl rfl rfl ht52) ?_ ?_
            ·
             refine any_n [17] (by kernel_rfl) rfl ?_
             refine any_b (i := 17) rfl rfl (m_storeA (en := eRange) (l := r3000_6x15) (i := (wi (v9 - 1))) (v := t49) G104 rfl rfl rfl rfl hr3000_6x17 rfl) ?_ ?_
             ·
              exact any_end rfl (out_mk (weak_cov ⟨rfl, rfl, rfl, rfl, rfl, rfl, trivial⟩ ⟨rfl, trivial⟩))
             ·
              exact any_nil
            ·
             exact any_nil
           ·
            exact any_nil
          ·
           exact any_nil
         ·
          exact any_nil
        refine any_a (i := 13) rfl rfl (m_loadEAR (en := eRange) (l := r3000) (i := v9) (v := t49) (off := 0) (lq rfl) G104 rfl rfl ht49 rfl rfl (by decide)) ?_ ?_
        ·
         refine any_n [9] (by kernel_rfl) rfl ?_
         refine any_a (i := 9) rfl rfl (m_loadEAR (en := eRange) (l := r3000) (i := (wi (v9 - 1))) (v := t45) (off := 0) (lq rfl) G104 rfl rfl ht45 rfl rfl (by decide)) ?_ ?_
         ·
          refine any_n [14] (by kernel_rfl) rfl ?_
          refine any_a (i := 14) rfl rfl (m_indexR (en := eRange) (l := r3000) (lq rfl) S39 rfl rfl rfl ht51) ?_ ?_
          ·
           refine any_n [15] (by kernel_rfl) rfl ?_
           refine any_b (i := 15) rfl rfl (m_storeA (en := eRange) (l := r3000) (i := v9) (v := t45) G104 rfl rfl rfl rfl hr3000_6x15 rfl) ?_ ?_
           ·
            refine any_n [16] (by kernel_rfl) rfl ?_
            refine any_a (i := 16) rfl rfl (m_indexR (en := eRange) (l := r3000_6x15) (lq rfl) S39 rfl rfl rfl ht52) ?_ ?_
            ·
             refine any_n [17] (by kernel_rfl) rfl ?_
             refine any_b (i := 17) rfl rfl (m_storeA (en := eRange) (l := r3000_6x15) (i := (wi (v9 - 1))) (v := t49) G104 rfl rfl rfl rfl hr3000_6x17 rfl) ?_ ?_
             ·
              exact any_end rfl (out_mk (weak_cov ⟨rfl, rfl, rfl, rfl, rfl, rfl, trivial⟩ ⟨rfl, trivial⟩))
             ·
              exact any_nil
            ·
             exact any_nil
           ·
            exact any_nil
          ·
           exact any_nil
         ·
          exact any_nil
        exact any_nil
       exact any_nil
      refine any_a (i := 12) rfl rfl (m_indexR (en := eRange) (l := r3000) (lq rfl) S39 rfl rfl rfl ht49) ?_ ?_
      ·
       refine any_n [8, 13] (by kernel_rfl) rfl ?_
       refine any_a (i := 8) rfl rfl (m_indexR (en := eRange) (l := r3000) (lq rfl) S39 rfl rfl rfl ht45) ?_ ?_
       ·
        refine any_n [9, 13] (by kernel_rfl) rfl ?_
        refine any_a (i := 9) rfl rfl (m_loadEAR (en := eRange) (l := r3000) (i := (wi (v9 - 1))) (v := t45) (off := 0) (lq rfl) G104 rfl rfl ht45 rfl rfl (by decide)) ?_ ?_
        ·
         refine any_n [13] (by kernel_rfl) rfl ?_
         refine any_a (i := 13) rfl rfl (m_loadEAR (en := eRange) (l := r3000) (i := v9) (v := t49) (off := 0) (lq rfl) G104 rfl rfl ht49 rfl rfl (by decide)) ?_ ?_
         ·
          refine any_n [14] (by kernel_rfl) rfl ?_
          refine any_a (i := 14) rfl rfl (m_indexR (en := eRange) (l := r3000) (lq rfl) S39 rfl rfl rfl ht51) ?_ ?_
          ·
           refine any_n [15] (by kernel_rfl) rfl ?_
           refine any_b (i := 15) rfl rfl (m_storeA (en := eRange) (l := r3000) (i := v9) (v := t45) G104 rfl rfl rfl rfl hr3000_6x15 rfl) ?_ ?_
           ·
            refine any_n [16] (by kernel_rfl) rfl ?_
            refine any_a (i := 16) rfl rfl (m_indexR (en := eRange) (l := r3000_6x15) (lq rfl) S39 rfl rfl rfl ht52) ?_ ?_
            ·
             refine any_n [17] (by kernel_rfl) rfl ?_
             refine any_b (i := 17) rfl rfl (m_storeA (en := eRange) (l := r3000_6x15) (i := (wi (v9 - 1))) (v := t49) G104 rfl rfl rfl rfl hr3000_6x17 rfl) ?_ ?_
             ·
              exact any_end rfl (out_mk (weak_cov ⟨rfl, rfl, rfl, rfl, rfl, rfl, trivial⟩ ⟨rfl, trivial⟩))
             ·
              exact any_nil
            ·
             exact any_nil
           ·
            exact any_nil
          ·
           exact any_nil
         ·
          exact any_nil
        refine any_a (i := 13) rfl rfl (m_loadEAR (en := eRange) (l := r3000) (i := v9) (v := t49) (off := 0) (lq rfl) G104 rfl rfl ht49 rfl rfl (by decide)) ?_ ?_
        ·
         refine any_n [9] (by kernel_rfl) rfl ?_
         refine any_a (i := 9) rfl rfl (m_loadEAR (en := eRange) (l := r3000) (i := (wi (v9 - 1))) (v := t45) (off := 0) (lq rfl) G104 rfl rfl ht45 rfl rfl (by decide)) ?_ ?_
         ·
          refine any_n [14] (by kernel_rfl) rfl ?_
          refine any_a (i := 14) rfl rfl (m_indexR (en := eRange) (l := r3000) (lq rfl) S39 rfl rfl rfl ht51) ?_ ?_
          ·
           refine any_n [15] (by kernel_rfl) rfl ?_
           refine any_b (i := 15) rfl rfl (m_storeA (en := eRange) (l := r3000) (i := v9) (v := t45) G104 rfl rfl rfl rfl hr3000_6x15 rfl) ?_ ?_
           ·
            refine any_n [16] (by kernel_rfl) rfl ?_
            refine any_a (i := 16) rfl rfl (m_indexR (en := eRange) (l := r3000_6x15) (lq rfl) S39 rfl rfl rfl ht52) ?_ ?_
            ·
             refine any_n [17] (by kernel_rfl) rfl ?_
             refine any_b (i := 17) rfl rfl (m_storeA (en := eRange) (l := r3000_6x15) (i := (wi (v9 - 1))) (v := t49) G104 rfl rfl rfl rfl hr3000_6x17 rfl) ?_ ?_
             ·
              exact any_end rfl (out_mk (weak_cov ⟨rfl, rfl, rfl, rfl, rfl, rfl, trivial⟩ ⟨rfl, trivial⟩))
             ·
              exact any_nil
            ·
             exact any_nil
           ·
            exact any_nil
          ·
           exact any_nil
         ·
          exact any_nil
        exact any_nil
       refine any_a (i := 13) rfl rfl (m_loadEAR (en := eRange) (l := r3000) (i := v9) (v := t49) (off := 0) (lq rfl) G104 rfl rfl ht49 rfl rfl (by decide)) ?_ ?_
       ·
        refine any_n [8] (by kernel_rfl) rfl ?_
        refine any_a (i := 8) rfl rfl (m_indexR (en := eRange) (l := r3000) (lq rfl) S39 rfl rfl rfl ht45) ?_ ?_
        ·
         refine any_n [9] (by kernel_rfl) rfl ?_
         refine any_a (i := 9) rfl rfl (m_loadEAR (en := eRange) (l := r3000) (i := (wi (v9 - 1))) (v := t45) (off := 0) (lq rfl) G104 rfl rfl ht45 rfl rfl (by decide)) ?_ ?_
         ·
          refine any_n [14] (by kernel_rfl) rfl ?_
          refine any_a (i := 14) rfl rfl (m_indexR (en := eRange) (l := r3000) (lq rfl) S39 rfl rfl rfl ht51) ?_ ?_
          ·
           refine any_n [15] (by kernel_rfl) rfl ?_
           refine any_b (i := 15) rfl rfl (m_storeA (en := eRange) (l := r3000) (i := v9) (v := t45) G104 rfl rfl rfl rfl hr3000_6x15 rfl) ?_ ?_
           ·
            refine any_n [16] (by kernel_rfl) rfl ?_
            refine any_a (i := 16) rfl rfl (m_indexR (en := eRange) (l := r3000_6x15) (lq rfl) S39 rfl rfl rfl ht52) ?_ ?_
            ·
             refine any_n [17] (by kernel_rfl) rfl ?_
             refine any_b (i := 17) rfl rfl (m_storeA (en := eRange) (l := r3000_6x15) (i := (wi (v9 - 1))) (v := t49) G104 rfl rfl rfl rfl hr3000_6x17 rfl) ?_ ?_
             ·
              exact any_end rfl (out_mk (weak_cov ⟨rfl, rfl, rfl, rfl, rfl, rfl, trivial⟩ ⟨rfl, trivial⟩))
             ·
              exact any_nil
            ·
             exact any_nil
           ·
            exact any_nil
          ·
           exact any_nil
         ·
          exact any_nil
        ·
         exact any_nil
       exact any_nil
      exact any_nil
     refine avc_sq ?_
     refine sqa (a_move_d (lq rfl) rfl) ?_
     refine sqa (m_sub (lq rfl) rfl rfl) ?_
     refine sqa (a_assign_d (lq rfl) rfl) ?_
     refine sq_nil ?_
     cases hsy2
     exact weak_cov ⟨rfl, rfl, rfl, rfl, rfl, rfl, trivial⟩ ⟨rfl, trivial⟩
    ·
     replace hsy2 := cF c2 hsy2
     refine avc_exit ?_
     cases hsy2
     intro q; cases q
     exact out_mk (weak_cov ⟨rfl, rfl, rfl, rfl, rfl, trivial⟩ ⟨rfl, trivial⟩)
   ·
    refine avc_sq ?_
    refine sqa (a_move_d (lq rfl) rfl) ?_
    refine sqa (m_add (lq rfl) rfl rfl) ?_
    refine sqa (a_assign_d (lq rfl) rfl) ?_
    refine sq_nil ?_
    cases hsy1'
    exact weak_cov ⟨rfl, rfl, rfl, rfl, rfl, trivial⟩ ⟨rfl, trivial⟩
  ·
   replace hsy1 := cF c1 hsy1
   refine avc_exit ?_
   cases hsy1
   intro q; cases q
   exact out_mk (weak_cov ⟨rfl, trivial⟩ ⟨rfl, trivial⟩)
 ·
  cases h'
  exact ⟨rfl, ⟨rfl, trivial⟩⟩
theorem slices_pdqsortCmpFunc_api_Range_g {fv4 : DV} {a0 : (List Range)} {a1 : Int} {a2 : Int} {a3 : Int} {a4 : Range → Range → Option (Int)} (hf4 : ∀ x0 x1 y, a4 x0 x1 = some y → FnC Tryd.prog fv4 [(eRange.dv x0), (eRange.dv x1)] [(di y)]) {r : (List Range)} (h : slices_pdqsortCmpFunc_api_Range a0 a1 a2 a3 a4 = some r) : GC Tryd.prog 98 [.row 3000, .d (di a1), .d (di a2), .d (di a3), .d fv4] [(3000, .row 104 eRange.size false (eRange.all a0))] [3000] [] [(3000, .row 104 eRange.size false (eRange.all r))] := by
 refine gc_of Tryd.func98 (by kernel_rfl) rfl (lq rfl) (lq rfl) fun w0 I0 hG0 p0 => ?_
 unfold slices_pdqsortCmpFunc_api_Range at h
 refine avc_sq2 <| avc_sq ?_
 refine sqa (a_assign_d (lq rfl) rfl) ?_
 refine sq_nil <| avc_sq2 <| avc_sq ?_
 refine sqa (a_assign_d (lq rfl) rfl) ?_
 refine sq_nil <| avc_block ?_
 obtain ⟨y1, hy1, h'⟩ := bE h; clear h
 refine avc_tail (e := .ret) (S2 := ⟨[(0, .row 3000)], [(3000, .row 104 eRange.size false (eRange.all y1))]⟩) ?_ ?_
 ·
  refine avc_loopM (fun x => ⟨[(0, .row 3000), (1, .d (di a1)), (2, .d (di a2)), (3, .d (di a3)), (4, .d fv4), (10, .d (db true)), (11, .d (db true))], [(3000, .row 104 eRange.size false (eRange.all a0))]⟩) hy1 (weak_cov ⟨rfl, rfl, rfl, rfl, rfl, rfl, rfl, trivial⟩ ⟨rfl, trivial⟩) ?_
  rintro _ sy1 hsy1
  replace hsy1 : slices_pdqsortCmpFunc_api_Range_L0 a2 a1 a0 a4 a3  = some sy1 := hsy1
  unfold slices_pdqsortCmpFunc_api_Range_L0 at hsy1
  obtain ⟨y2, hy2, hsy1'⟩ := bE hsy1; clear hsy1
  refine avc_tail (e := .ret) (S2 := ⟨[(0, .row 3000)], [(3000, .row 104 eRange.size false (eRange.all y2))]⟩) ?_ ?_
  ·
   refine avc_block <| avc_sq2 <| avc_sq ?_
   refine sqa (a_move_d (lq rfl) rfl) ?_
   refine sqa (a_move_d (lq rfl) rfl) ?_
   refine sqa (m_sub (lq rfl) rfl rfl) ?_
   refine sqa (a_assign_d (lq rfl) rfl) ?_
   refine sq_nil <| avc_sq2 <| avc_sq2 <| avc_sq ?_
   refine sqa (a_move_d (lq rfl) rfl) ?_
   refine sqa (a_leq (lq rfl) rfl rfl) ?_
   refine sq_nil ?_
   refine avc_if rfl ⟨fun c1 => ?_, fun c1 => ?_⟩
   ·
    replace hy2 := cT c1 hy2
    refine avc_sq2 <| avc_sq ?_
    refine sqa (a_move_row (lq rfl) rfl) ?_
    refine sqa (a_move_d (lq rfl) rfl) ?_
    refine sqa (a_move_d (lq rfl) rfl) ?_
    refine sqa (a_move_d (lq rfl) rfl) ?_
    obtain ⟨t30, ht30, hy2'⟩ := bE hy2; clear hy2
    refine sq_b rfl (g_callN [(3000, 3000)] (slices_insertionSortCmpFunc_api_Range_g hf4 ht30) (lq rfl) (by decide) ⟨rfl, rfl, rfl, rfl, trivial⟩ rfl rfl ⟨rfl, trivial⟩ rfl rfl rfl rfl) ?_
    refine sq_nil ?_
    refine avc_ret ?_
    cases hy2'
    exact out_mk (weak_cov ⟨rfl, trivial⟩ ⟨rfl, trivial⟩)
   ·
    replace hy2 := cF c1 hy2
    refine avc_skip <| avc_sq2 <| avc_sq2 <| avc_sq ?_
    refine sqa (a_move_d (lq rfl) rfl) ?_
    refine sqa (a_eql (lq rfl) rfl rfl) ?_
    refine sq_nil ?_
    refine avc_if rfl ⟨fun c2 => ?_, fun c2 => ?_⟩
    ·
     replace hy2 := cT c2 hy2
     refine avc_sq2 <| avc_sq ?_
     refine sqa (a_move_row (lq rfl) rfl) ?_
     refine sqa (a_move_d (lq rfl) rfl) ?_
     refine sqa (a_move_d (lq rfl) rfl) ?_
     refine sqa (a_move_d (lq rfl) rfl) ?_
     cases hy2
    ·
     replace hy2 := cF c2 hy2
     refine avc_skip <| avc_sq2 <| avc_sq2 <| avc_sq ?_
     refine sqa (a_move_d (lq rfl) rfl) ?_
     refine sqa (a_not (lq rfl) rfl) ?_
     refine sq_nil ?_
     obtain ⟨y3, hy3, hy2'⟩ := bE hy2; clear hy2
     refine avc_tail (e := .normal) (S2 := ⟨[(0, .row 3000), (1, .d (di a1)), (2, .d (di a2)), (3, .d (di a3)), (4, .d fv4), (10, .d (db true)), (11, .d (db true)), (12, .d (di (wi (a2 - a1))))], [(3000, .row 104 eRange.size false (eRange.all a0))]⟩) ?_ ?_
     ·
      refine avc_if rfl ⟨fun c3 => ?_, fun c3 => ?_⟩
      ·
       replace hy3 := cT c3 hy3
       refine avc_sq2 <| avc_sq ?_
       refine sqa (a_move_row (lq rfl) rfl) ?_
       refine sqa (a_move_d (lq rfl) rfl) ?_
       refine sqa (a_move_d (lq rfl) rfl) ?_
       refine sqa (a_move_d (lq rfl) rfl) ?_
       cases hy3
      ·
       replace hy3 := cF c3 hy3
       refine avc_skip ?_
       cases hy3
       exact out_mk (weak_cov ⟨rfl, rfl, rfl, rfl, rfl, rfl, rfl, rfl, trivial⟩ ⟨rfl, trivial⟩)
     ·
      refine avc_sq2 <| avc_sq ?_
      refine sqa (a_move_row (lq rfl) rfl) ?_
      refine sqa (a_move_d (lq rfl) rfl) ?_
      refine sqa (a_move_d (lq rfl) rfl) ?_
      refine sqa (a_move_d (lq rfl) rfl) ?_
      cases hy2'
  ·
   cases hsy1'
   intro q; cases q
   exact out_mk (weak_cov ⟨rfl, trivial⟩ ⟨rfl, trivial⟩)
 ·
  cases h'
  exact ⟨rfl, ⟨rfl, trivial⟩⟩
theorem slices_SortFunc_api_Range_api_Range_g {fv1 : DV} {a0 : (List Range)} {a1 : Range → Range → Option (Int)} (hf1 : ∀ x0 x1 y, a1 x0 x1 = some y → FnC Tryd.prog fv1 [(eRange.dv x0), (eRange.dv x1)] [(di y)]) {r : (List Range)} (h : slices_SortFunc_api_Range_api_Range a0 a1 = some r) : GC Tryd.prog 93 [.row 3000, .d fv1] [(3000, .row 104 eRange.size false (eRange.all a0))] [3000] [] [(3000, .row 104 eRange.size false (eRange.all r))] := by
 refine gc_of Tryd.func93 (by kernel_rfl) rfl (lq rfl) (lq rfl) fun w0 I0 hG0 p0 => ?_
 unfold slices_SortFunc_api_Range_api_Range at h
 refine avc_sq2 <| avc_sq ?_
 refine sqa (a_move_row (lq rfl) rfl) ?_
 refine sqa (m_lenR (en := eRange) (l := a0) (lq rfl) S39 rfl rfl) ?_
 refine sqa (a_assign_d (lq rfl) rfl) ?_
 refine sq_nil <| avc_sq ?_
 refine sqa (a_move_row (lq rfl) rfl) ?_
 refine sqa (a_move_d (lq rfl) rfl) ?_
 refine sqa (a_move_d (lq rfl) rfl) ?_
 refine sqa (m_conv (lq rfl) Tryd.underlying3 Tryd.underlying132 rfl) ?_
 obtain ⟨t11, ht11, h'⟩ := bE h; clear h
 refine sqa (a_call (lq rfl) rfl (math_bits_Len_c ht11)) ?_
 refine sqa (a_move_d (lq rfl) rfl) ?_
 obtain ⟨t13, ht13, h⟩ := bE h'; clear h'
 refine sq_b rfl (g_callN [(3000, 3000)] (slices_pdqsortCmpFunc_api_Range_g hf1 ht13) (lq rfl) (by decide) ⟨rfl, rfl, rfl, rfl, rfl, trivial⟩ rfl rfl ⟨rfl, trivial⟩ rfl rfl rfl rfl) ?_
 refine sq_nil ?_
 cases h
 exact ⟨rfl, ⟨rfl, trivial⟩⟩
theorem cpset_Make_1_c  {a0 : Range} {a1 : Range}  {r : Int} (h : cpset_Make_1 a0 a1 = some r) : Contract Tryd.prog 94 [(eRange.dv a0), (eRange.dv a1)] [(di r)] := by
 refine contract_of Tryd.func94 (by kernel_rfl) rfl (lq rfl) (lq rfl) fun w0 I0 hI0 hG0 => ?_
 unfold cpset_Make_1 at h
 refine avc_sq2 <| avc_sq ?_
 refine sqa (m_box (size := 2) (lq rfl) rfl rfl) ?_
 refine sqa (m_box (size := 2) (lq rfl) rfl rfl) ?_
 refine sqa (a_assign_d (lq rfl) rfl) ?_
 refine sq_nil <| avc_sq2 ?_
 refine avc_drawA MX rfl ?_
 refine daa (m_fieldPt (lq rfl) L104_0 rfl) ?_
 refine daa (a_load_ip (lq rfl) O3 rfl rfl) ?_
 refine daa (m_fieldPt (lq rfl) L104_0 rfl) ?_
 refine daa (a_load_ip (lq rfl) O3 rfl rfl) ?_
 obtain ⟨t9, ht9, h'⟩ := bE h; clear h
 refine daa (a_call (lq rfl) rfl (cmp_Compare_int_c ht9)) ?_
 refine daa (m_fieldPt (lq rfl) L104_1 rfl) ?_
 refine daa (a_load_ip (lq rfl) O3 rfl rfl) ?_
 refine daa (m_fieldPt (lq rfl) L104_1 rfl) ?_
 refine daa (a_load_ip (lq rfl) O3 rfl rfl) ?_
 obtain ⟨t14, ht14, h⟩ := bE h'; clear h'
 refine daa (a_call (lq rfl) rfl (cmp_Compare_int_c ht14)) ?_
 refine daa (a_lit (lq rfl) S30 rfl rfl rfl rfl (by decide) rfl) ?_
 obtain ⟨t16, ht16, h'⟩ := bE h; clear h
 refine daa (a_call (lq rfl) rfl (cmp_Or_int_c ht16)) ?_
 refine daa (a_assign_d (lq rfl) rfl) ?_
 refine da_nil ?_
 cases h'
 refine avc_ret ?_
 exact ret_1 rfl
theorem cpset_Make_c  {a0 : (List Range)}  {r : Set} (h : cpset_Make a0 = some r) : Contract Tryd.prog 84 [(dsl eRange a0)] [(eSet.dv r)] := by
 refine contract_of Tryd.func84 (by kernel_rfl) rfl (lq rfl) (lq rfl) fun w0 I0 hI0 hG0 => ?_
 unfold cpset_Make at h
 refine avc_sq2 <| avc_sq ?_
 refine sq_b rfl (step_alloc (zs := [(.slice none 0 0)]) (lq rfl) (by kernel_rfl) rfl rfl) ?_
 refine sq_nil <| avc_sq2 <| avc_sq ?_
 refine sqa (a_assign_d (lq rfl) rfl) ?_
 refine sq_nil ?_
 refine avc_weak (weak_nil (t := 3) 1003 104 eRange.size (lq rfl) (lq rfl) rfl rfl) ?_
 refine avc_sq2 <| avc_sq2 <| avc_sq ?_
 refine sqa (a_move_d (lq rfl) rfl) ?_
 refine sqa (m_len (en := eRange) (l := a0) (lq rfl) S39 rfl) ?_
 refine sqa (a_move_d (lq rfl) rfl) ?_
 refine sq_nil <| avc_block ?_
 obtain ⟨y1, hy1, h'⟩ := bE h; clear h
 refine avc_tail (e := (.exit 0)) (S2 := ⟨[(2, .ptr 2 0), (3, .row 1003)], [(2, .box 41 [.d (.v (.slice none 0 0))]), (1003, .row 104 eRange.size false (eRange.all y1))]⟩) ?_ ?_
 ·
  refine avc_loopM (fun x => ⟨[(2, .ptr 2 0), (3, .row 1003), (11, .d (dsl eRange a0)), (12, .d (di (a0.length : Int))), (13, .d (di x.1))], [(2, .box 41 [.d (.v (.slice none 0 0))]), (1003, .row 104 eRange.size false (eRange.all x.2))]⟩) hy1 (weak_cov ⟨rfl, rfl, rfl, rfl, rfl, trivial⟩ ⟨rfl, rfl, trivial⟩) ?_
  rintro ⟨v13, r1003⟩ sy1 hsy1
  replace hsy1 : cpset_Make_L0 a0 v13 r1003 = some sy1 := hsy1
  unfold cpset_Make_L0 at hsy1
  refine avc_sq2 <| avc_sq ?_
  refine sqa (a_lss (lq rfl) rfl rfl) ?_
  refine sq_nil <| avc_sq2 ?_
  refine avc_if rfl ⟨fun c1 => ?_, fun c1 => ?_⟩
  ·
   replace hsy1 := cT c1 hsy1
   refine avc_skip <| avc_sq2 ?_
   obtain ⟨y2, hy2, hsy1'⟩ := bE hsy1; clear hsy1
   refine avc_tail (e := .normal) (S2 := ⟨[(2, .ptr 2 0), (3, .row 1003), (11, .d (dsl eRange a0)), (12, .d (di (a0.length : Int))), (13, .d (di v13))], [(2, .box 41 [.d (.v (.slice none 0 0))]), (1003, .row 104 eRange.size false (eRange.all y2))]⟩) ?_ ?_
   ·
    refine avc_block <| avc_sq2 <| avc_sq ?_
    obtain ⟨t15, ht15, hy2'⟩ := bE hy2; clear hy2
    refine sqa (m_index (en := eRange) (lq rfl) S39 rfl rfl ht15) ?_
    refine sqa (m_loadEA (en := eRange) (l := a0) (i := v13) (v := t15) (off := 0) (lq rfl) G104 rfl ht15 rfl rfl (by decide)) ?_
    refine sq_b rfl (step_alloc (zs := [(.int IntKind.i64 (0)), (.int IntKind.i64 (0))]) (lq rfl) (by kernel_rfl) rfl rfl) ?_
    refine sq_b rfl (s_store_boxA G104 rfl rfl rfl rfl rfl rfl) ?_
    refine sq_nil ?_
    refine avc_weak (weak_freeze (t := 5) (lq rfl) rfl rfl rfl) ?_
    refine avc_sq2 <| avc_sq ?_
    refine sqa (m_fieldPt (lq rfl) L104_0 rfl) ?_
    refine sqa (a_load_ip (lq rfl) O3 rfl rfl) ?_
    refine sqa (a_max (lq rfl) rfl rfl) ?_
    refine sqa (m_fieldPt (lq rfl) L104_1 rfl) ?_
    refine sqa (a_load_ip (lq rfl) O3 rfl rfl) ?_
    refine sqa (a_min (lq rfl) rfl rfl) ?_
    refine sqa (m_build (lq rfl) B104 rfl rfl) ?_
    refine sq_b rfl (step_alloc (zs := [(.int IntKind.i64 (0)), (.int IntKind.i64 (0))]) (lq rfl) (by kernel_rfl) rfl rfl) ?_
    refine sq_b rfl (s_store_boxA G104 rfl rfl rfl rfl rfl rfl) ?_
    refine sq_nil ?_
    refine avc_weak (weak_freeze (t := 6) (lq rfl) rfl rfl rfl) ?_
    refine avc_sq2 <| avc_sq ?_
    refine sqa (m_fieldPt (lq rfl) L104_0 rfl) ?_
    refine sqa (a_load_ip (lq rfl) O3 rfl rfl) ?_
    refine sqa (m_fieldPt (lq rfl) L104_1 rfl) ?_
    refine sqa (a_load_ip (lq rfl) O3 rfl rfl) ?_
    refine sqa (a_leq (lq rfl) rfl rfl) ?_
    refine sq_nil ?_
    refine avc_if rfl ⟨fun c2 => ?_, fun c2 => ?_⟩
    ·
     replace hy2' := cT c2 hy2'
     refine avc_sq ?_
     refine sqa (a_move_row (lq rfl) rfl) ?_
     refine sqa (m_loadPt (lq rfl) G104 rfl rfl) ?_
     refine sqa (a_lit (lq rfl) S39 rfl rfl rfl rfl (by decide) rfl) ?_
     obtain ⟨r1003_3, hr1003_3, hy2⟩ := bE hy2'; clear hy2'
     refine sq_b rfl (m_append (en := eRange) (l := r1003) (m := [({ Lo := max t15.Lo 0, Hi := min t15.Hi 1114111 } : Range)]) (lq rfl) S39 rfl rfl rfl hr1003_3 (by decide) (by decide) rfl rfl) ?_
     refine sqa (a_assign_row (lq rfl) rfl) ?_
     refine sq_nil ?_
     cases hy2
     exact out_mk (weak_cov ⟨rfl, rfl, rfl, rfl, rfl, trivial⟩ ⟨rfl, rfl, trivial⟩)
    ·
     replace hy2' := cF c2 hy2'
     refine avc_skip ?_
     cases hy2'
     exact out_mk (weak_cov ⟨rfl, rfl, rfl, rfl, rfl, trivial⟩ ⟨rfl, rfl, trivial⟩)
   ·
    refine avc_sq ?_
    refine sqa (m_add (lq rfl) rfl rfl) ?_
    refine sqa (a_move_d (lq rfl) rfl) ?_
    refine sq_nil ?_
    cases hsy1'
    exact weak_cov ⟨rfl, rfl, rfl, rfl, rfl, trivial⟩ ⟨rfl, rfl, trivial⟩
  ·
   replace hsy1 := cF c1 hsy1
   refine avc_exit ?_
   cases hsy1
   intro q; cases q
   exact out_mk (weak_cov ⟨rfl, rfl, trivial⟩ ⟨rfl, rfl, trivial⟩)
 ·
  refine avc_sq2 <| avc_sq ?_
  refine sqa (a_move_row (lq rfl) rfl) ?_
  obtain ⟨t35, ht35, h⟩ := bE h'; clear h'
  refine sq_b rfl (g_call [(3000, 1003)] (slices_SortFunc_api_Range_api_Range_g (fun _ _ _ q => .inr ⟨_, rfl, cpset_Make_1_c q⟩) ht35) (lq rfl) (by decide) ⟨rfl, rfl, trivial⟩ rfl rfl ⟨rfl, trivial⟩ rfl rfl rfl (fun _ => rfl) rfl) ?_
  refine sq_nil <| avc_sq2 <| avc_sq ?_
  refine sqa (a_assign_d (lq rfl) rfl) ?_
  refine sq_nil ?_
  refine avc_weak (weak_nil (t := 7) 1007 104 eRange.size (lq rfl) (lq rfl) rfl rfl) ?_
  refine avc_sq2 <| avc_sq2 <| avc_sq ?_
  refine sqa (a_move_row (lq rfl) rfl) ?_
  refine sqa (m_lenR (en := eRange) (l := t35) (lq rfl) S39 rfl rfl) ?_
  refine sqa (a_move_d (lq rfl) rfl) ?_
  refine sq_nil <| avc_block ?_
  obtain ⟨y4, hy4, h'⟩ := bE h; clear h
  refine avc_tail (e := (.exit 2)) (S2 := ⟨[(2, .ptr 2 0), (7, .row 1007)], [(2, .box 41 [.d (.v (.slice none 0 0))]), (1007, .row 104 eRange.size false (eRange.all y4))]⟩) ?_ ?_
  ·
   refine avc_loopM (fun x => ⟨[(2, .ptr 2 0), (7, .row 1007), (36, .row 1003), (37, .d (di (t35.length : Int))), (38, .d (di x.1))], [(2, .box 41 [.d (.v (.slice none 0 0))]), (1003, .row 104 eRange.size false (eRange.all t35)), (1007, .row 104 eRange.size false (eRange.all x.2))]⟩) hy4 (weak_cov ⟨rfl, rfl, rfl, rfl, rfl, trivial⟩ ⟨rfl, rfl, rfl, trivial⟩) ?_
   rintro ⟨v38, r1007⟩ sy4 hsy4
   replace hsy4 : cpset_Make_L1 t35 v38 r1007 = some sy4 := hsy4
   unfold cpset_Make_L1 at hsy4
   refine avc_sq2 <| avc_sq ?_
   refine sqa (a_lss (lq rfl) rfl rfl) ?_
   refine sq_nil <| avc_sq2 ?_
   refine avc_if rfl ⟨fun c3 => ?_, fun c3 => ?_⟩
   ·
    replace hsy4 := cT c3 hsy4
    refine avc_skip <| avc_sq2 ?_
    obtain ⟨y5, hy5, hsy4'⟩ := bE hsy4; clear hsy4
    refine avc_tail (e := .normal) (S2 := ⟨[(2, .ptr 2 0), (7, .row 1007), (36, .row 1003), (37, .d (di (t35.length : Int))), (38, .d (di v38))], [(2, .box 41 [.d (.v (.slice none 0 0))]), (1003, .row 104 eRange.size false (eRange.all t35)), (1007, .row 104 eRange.size false (eRange.all y5))]⟩) ?_ ?_
    ·
     refine avc_block <| avc_sq2 <| avc_sq ?_
     obtain ⟨t40, ht40, hy5'⟩ := bE hy5; clear hy5
     refine sqa (m_indexR (en := eRange) (l := t35) (lq rfl) S39 rfl rfl rfl ht40) ?_
     refine sqa (m_loadEAR (en := eRange) (l := t35) (i := v38) (v := t40) (off := 0) (lq rfl) G104 rfl rfl ht40 rfl rfl (by decide)) ?_
     refine sq_b rfl (step_alloc (zs := [(.int IntKind.i64 (0)), (.int IntKind.i64 (0))]) (lq rfl) (by kernel_rfl) rfl rfl) ?_
     refine sq_b rfl (s_store_boxA G104 rfl rfl rfl rfl rfl rfl) ?_
     refine sq_nil ?_
     refine avc_weak (weak_freeze (t := 9) (lq rfl) rfl rfl rfl) ?_
     refine avc_sq2 <| avc_sq2 <| avc_sq ?_
     refine sqa (a_move_row (lq rfl) rfl) ?_
     refine sqa (m_lenR (en := eRange) (l := r1007) (lq rfl) S39 rfl rfl) ?_
     refine sqa (a_assign_d (lq rfl) rfl) ?_
     refine sq_nil <| avc_sq2 ?_
     refine avc_drawA MX rfl ?_
     refine daa (a_move_d (lq rfl) rfl) ?_
     refine daa (a_gtr (lq rfl) rfl rfl) ?_
     obtain ⟨b46, hb46, hy5⟩ := bE hy5'; clear hy5'
     refine daa ((a_move_d (lq rfl) rfl).bool (Option.some.inj hb46)) ?_
     refine da_g (x := .ip (eRange.cells t40) (0 + 0)) rfl rfl rfl (lq rfl) (lq rfl) rfl (fun hb => by obtain rfl : b46 = true := hb; exact m_fieldPt (lq rfl) L104_0 rfl) ?_
     refine da_g (x := .d (di t40.Lo)) rfl rfl rfl (lq rfl) (lq rfl) rfl (fun hb => by obtain rfl : b46 = true := hb; exact a_load_ip (lq rfl) O3 rfl rfl) ?_
     refine da_g (x := .row 1007) rfl rfl rfl (lq rfl) (lq rfl) rfl (fun hb => by obtain rfl : b46 = true := hb; exact a_move_row (lq rfl) rfl) ?_
     refine da_g (x := .d (di (r1007.length : Int))) rfl rfl rfl (lq rfl) (lq rfl) rfl (fun hb => by obtain rfl : b46 = true := hb; exact a_move_d (lq rfl) rfl) ?_
     refine da_g (x := .d (di (wi ((r1007.length : Int) - 1)))) rfl rfl rfl (lq rfl) (lq rfl) rfl (fun hb => by obtain rfl : b46 = true := hb; exact m_sub (lq rfl) rfl rfl) ?_
     obtain ⟨t52, ht52, hy5'⟩ := bE hy5; clear hy5
     refine da_g (x := .ptr 1007 ((wi ((r1007.length : Int) - 1)).toNat * eRange.size)) rfl rfl rfl (lq rfl) (lq rfl) rfl (fun hb => by obtain rfl : b46 = true := hb; exact m_indexR (en := eRange) (l := r1007) (lq rfl) S39 rfl rfl rfl ht52) ?_
     refine da_g (x := .ptr 1007 ((wi ((r1007.length : Int) - 1)).toNat * eRange.size + 1)) rfl rfl rfl (lq rfl) (lq rfl) rfl (fun hb => by obtain rfl : b46 = true := hb; exact a_fieldAddr_ptr (lq rfl) L104_1 rfl) ?_
     refine da_g (x := .d (di t52.Hi)) rfl rfl rfl (lq rfl) (lq rfl) rfl (fun hb => by obtain rfl : b46 = true := hb; exact m_loadER (en := eRange) (l := r1007) (i := (wi ((r1007.length : Int) - 1))) (v := t52) (off := 1) (lq rfl) O3 rfl rfl ht52 rfl) ?_
     refine da_g (x := .d (di (wi (t52.Hi + 1)))) rfl rfl rfl (lq rfl) (lq rfl) rfl (fun hb => by obtain rfl : b46 = true := hb; exact m_add (lq rfl) rfl rfl) ?_
     refine da_g (x := .d (db (decide (t40.Lo ≤ (wi (t52.Hi + 1)))))) rfl rfl rfl (lq rfl) (lq rfl) rfl (fun hb => by obtain rfl : b46 = true := hb; exact a_leq (lq rfl) rfl rfl) ?_
     refine daa (a_pick_and (lq rfl) rfl rfl) ?_
     refine da_nil ?_
     refine avc_if rfl ⟨fun c4 => ?_, fun c4 => ?_⟩
     ·
      replace hy5' := cT c4 hy5'
      refine avc_sq2 ?_
      refine avc_draw 14 MX rfl ?_
      refine daa (a_move_row (lq rfl) rfl) ?_
      refine daa (a_move_d (lq rfl) rfl) ?_
      refine daa (m_sub (lq rfl) rfl rfl) ?_
      refine daa (a_move_row (lq rfl) rfl) ?_
      refine daa (a_move_d (lq rfl) rfl) ?_
      refine daa (m_sub (lq rfl) rfl rfl) ?_
      obtain ⟨t64, ht64, hy5⟩ := bE hy5'; clear hy5'
      refine daa (m_indexR (en := eRange) (l := r1007) (lq rfl) S39 rfl rfl rfl ht64) ?_
      refine daa (a_fieldAddr_ptr (lq rfl) L104_1 rfl) ?_
      refine daa (m_loadER (en := eRange) (l := r1007) (i := (wi ((r1007.length : Int) - 1))) (v := t64) (off := 1) (lq rfl) O3 rfl rfl ht64 rfl) ?_
      refine daa (m_fieldPt (lq rfl) L104_1 rfl) ?_
      refine daa (a_load_ip (lq rfl) O3 rfl rfl) ?_
      refine daa (a_max (lq rfl) rfl rfl) ?_
      obtain ⟨t70, ht70, hy5'⟩ := bE hy5; clear hy5
      refine daa (m_indexR (en := eRange) (l := r1007) (lq rfl) S39 rfl rfl rfl ht70) ?_
      refine daa (a_fieldAddr_ptr (lq rfl) L104_1 rfl) ?_
      refine da_nil ?_
      obtain ⟨r1007_6, hr1007_6, hy5⟩ := bE hy5'; clear hy5'
      refine sq_b rfl (m_store (en := eRange) (l := r1007) (i := (wi ((r1007.length : Int) - 1))) (v := t70) (off := 1) O3 rfl rfl rfl ht70 rfl (by decide) hr1007_6 rfl rfl) ?_
      refine sq_nil ?_
      refine avc_exit ?_
      cases hy5
      exact out_mk (weak_cov ⟨rfl, rfl, rfl, rfl, rfl, trivial⟩ ⟨rfl, rfl, rfl, trivial⟩)
     ·
      replace hy5' := cF c4 hy5'
      refine avc_skip <| avc_sq ?_
      refine sqa (a_move_row (lq rfl) rfl) ?_
      refine sqa (m_loadPt (lq rfl) G104 rfl rfl) ?_
      refine sqa (a_lit (lq rfl) S39 rfl rfl rfl rfl (by decide) rfl) ?_
      obtain ⟨r1007_7, hr1007_7, hy5⟩ := bE hy5'; clear hy5'
      refine sq_b rfl (m_append (en := eRange) (l := r1007) (m := [t40]) (lq rfl) S39 rfl rfl rfl hr1007_7 (by decide) (by decide) rfl rfl) ?_
      refine sqa (a_assign_row (lq rfl) rfl) ?_
      refine sq_nil ?_
      cases hy5
      exact out_mk (weak_cov ⟨rfl, rfl, rfl, rfl, rfl, trivial⟩ ⟨rfl, rfl, rfl, trivial⟩)
    ·
     refine avc_sq ?_
     refine sqa (m_add (lq rfl) rfl rfl) ?_
     refine sqa (a_move_d (lq rfl) rfl) ?_
     refine sq_nil ?_
     cases hsy4'
     exact weak_cov ⟨rfl, rfl, rfl, rfl, rfl, trivial⟩ ⟨rfl, rfl, rfl, trivial⟩
   ·
    replace hsy4 := cF c3 hsy4
    refine avc_exit ?_
    cases hsy4
    intro q; cases q
    exact out_mk (weak_cov ⟨rfl, rfl, trivial⟩ ⟨rfl, rfl, trivial⟩)
  ·
   refine avc_sq2 <| avc_sq ?_
   refine sqa (a_move_row (lq rfl) rfl) ?_
   refine sq_weak (weak_row_d (t := 77) (lq rfl) rfl rfl) ?_ (by simp)
   refine sqa (m_build (lq rfl) B41 rfl rfl) ?_
   refine sq_b rfl (s_store_boxA G41 rfl rfl rfl rfl rfl rfl) ?_
   refine sq_nil ?_
   cases h'
   refine avc_ret ?_
   exact ret_cellA rfl rfl G41 rfl
theorem cpset_Valid_c  {a0 : Set}  {r : Bool} (h : cpset_Valid a0 = some r) : Contract Tryd.prog 68 [(eSet.dv a0)] [(db r)] := by
 refine contract_of Tryd.func68 (by kernel_rfl) rfl (lq rfl) (lq rfl) fun w0 I0 hI0 hG0 => ?_
 unfold cpset_Valid at h
 refine avc_sq2 <| avc_sq ?_
 refine sqa (m_box (size := 1) (lq rfl) rfl rfl) ?_
 refine sqa (a_assign_d (lq rfl) rfl) ?_
 refine sq_nil <| avc_sq2 <| avc_sq ?_
 refine sqa (m_fieldPt (lq rfl) L41_0 rfl) ?_
 refine sqa (a_load_ip (lq rfl) O39 rfl rfl) ?_
 obtain ⟨t8, ht8, h'⟩ := bE h; clear h
 refine sqa (a_call (lq rfl) rfl (cpset_Make_c ht8)) ?_
 refine sq_b rfl (step_alloc (zs := [(.slice none 0 0)]) (lq rfl) (by kernel_rfl) rfl rfl) ?_
 refine sq_b rfl (s_store_boxA G41 rfl rfl rfl rfl rfl rfl) ?_
 refine sq_nil ?_
 refine avc_weak (weak_freeze (t := 3) (lq rfl) rfl rfl rfl) ?_
 refine avc_sq2 <| avc_sq2 <| avc_sq ?_
 refine sqa (m_fieldPt (lq rfl) L41_0 rfl) ?_
 refine sqa (a_load_ip (lq rfl) O39 rfl rfl) ?_
 refine sqa (m_len (en := eRange) (l := t8.Ranges) (lq rfl) S39 rfl) ?_
 refine sqa (m_fieldPt (lq rfl) L41_0 rfl) ?_
 refine sqa (a_load_ip (lq rfl) O39 rfl rfl) ?_
 refine sqa (m_len (en := eRange) (l := a0.Ranges) (lq rfl) S39 rfl) ?_
 refine sqa (a_neq (lq rfl) rfl rfl) ?_
 refine sq_nil ?_
 refine avc_if rfl ⟨fun c1 => ?_, fun c1 => ?_⟩
 ·
  replace h' := cT c1 h'
  refine avc_sq2 <| avc_sq ?_
  refine sqa (a_assign_d (lq rfl) rfl) ?_
  refine sq_nil ?_
  cases h'
  refine avc_ret ?_
  exact ret_1 rfl
 ·
  replace h' := cF c1 h'
  refine avc_skip <| avc_sq2 <| avc_sq2 <| avc_sq ?_
  refine sqa (m_fieldPt (lq rfl) L41_0 rfl) ?_
  refine sqa (a_load_ip (lq rfl) O39 rfl rfl) ?_
  refine sqa (m_len (en := eRange) (l := t8.Ranges) (lq rfl) S39 rfl) ?_
  refine sqa (a_move_d (lq rfl) rfl) ?_
  refine sq_nil <| avc_block ?_
  obtain ⟨y1, hy1, h⟩ := bE h'; clear h'
  refine avc_tail2 y1 (.exit 0) (fun y1 => ⟨[], []⟩) .ret (fun y1 => ⟨[(2, .d (db y1))], []⟩) ?_ ?_ ?_
  ·
   refine avc_loopM (fun x => ⟨[(1, .d (.pt (eSet.cells a0))), (17, .d (dsl eRange t8.Ranges)), (18, .d (di (t8.Ranges.length : Int))), (19, .d (di x))], []⟩) hy1 (weak_cov ⟨rfl, rfl, rfl, rfl, trivial⟩ trivial) ?_
   rintro v19 sy1 hsy1
   replace hsy1 : cpset_Valid_L0 t8 a0 v19 = some sy1 := hsy1
   unfold cpset_Valid_L0 at hsy1
   refine avc_sq2 <| avc_sq ?_
   refine sqa (a_lss (lq rfl) rfl rfl) ?_
   refine sq_nil <| avc_sq2 ?_
   refine avc_if rfl ⟨fun c2 => ?_, fun c2 => ?_⟩
   ·
    replace hsy1 := cT c2 hsy1
    refine avc_skip <| avc_sq2 <| avc_block <| avc_sq2 <| avc_sq ?_
    refine sqa (a_move_d (lq rfl) rfl) ?_
    obtain ⟨t22, ht22, hsy1'⟩ := bE hsy1; clear hsy1
    refine sqa (m_index (en := eRange) (lq rfl) S39 rfl rfl ht22) ?_
    refine sqa (m_loadEA (en := eRange) (l := t8.Ranges) (i := v19) (v := t22) (off := 0) (lq rfl) G104 rfl ht22 rfl rfl (by decide)) ?_
    refine sq_b rfl (step_alloc (zs := [(.int IntKind.i64 (0)), (.int IntKind.i64 (0))]) (lq rfl) (by kernel_rfl) rfl rfl) ?_
    refine sqa (a_assign_d (lq rfl) rfl) ?_
    refine sq_b rfl (s_store_boxA G104 rfl rfl rfl rfl rfl rfl) ?_
    refine sq_nil ?_
    refine avc_weak (weak_freeze (t := 5) (lq rfl) rfl rfl rfl) ?_
    refine avc_sq2 ?_
    refine avc_drawA MX rfl ?_
    refine daa (m_loadPt (lq rfl) G104 rfl rfl) ?_
    refine daa (m_fieldPt (lq rfl) L41_0 rfl) ?_
    refine daa (a_load_ip (lq rfl) O39 rfl rfl) ?_
    refine daa (a_move_d (lq rfl) rfl) ?_
    obtain ⟨t28, ht28, hsy1⟩ := bE hsy1'; clear hsy1'
    refine daa (m_index (en := eRange) (lq rfl) S39 rfl rfl ht28) ?_
    refine daa (m_loadEA (en := eRange) (l := a0.Ranges) (i := v19) (v := t28) (off := 0) (lq rfl) G104 rfl ht28 rfl rfl (by decide)) ?_
    refine daa (m_stneq (en := eRange) (a := t22) (b := t28) (lq rfl) E104 rfl rfl) ?_
    refine da_nil ?_
    refine avc_if rfl ⟨fun c3 => ?_, fun c3 => ?_⟩
    ·
     replace hsy1 := cT c3 hsy1
     refine avc_sq2 <| avc_sq ?_
     refine sqa (a_assign_d (lq rfl) rfl) ?_
     refine sq_nil ?_
     refine avc_ret ?_
     cases hsy1
     intro q; cases q
     exact ⟨rfl, weak_cov ⟨rfl, trivial⟩ trivial⟩
    ·
     replace hsy1 := cF c3 hsy1
     refine avc_skip <| avc_sq ?_
     refine sqa (m_add (lq rfl) rfl rfl) ?_
     refine sqa (a_move_d (lq rfl) rfl) ?_
     refine sq_nil ?_
     cases hsy1
     exact weak_cov ⟨rfl, rfl, rfl, rfl, trivial⟩ trivial
   ·
    replace hsy1 := cF c2 hsy1
    refine avc_exit ?_
    cases hsy1
    intro q; cases q
    exact ⟨rfl, weak_cov trivial trivial⟩
  ·
   rintro y1 rfl
   replace h := eL h
   refine avc_sq2 <| avc_sq ?_
   refine sqa (a_assign_d (lq rfl) rfl) ?_
   refine sq_nil ?_
   cases h
   refine avc_ret ?_
   exact ret_1 rfl
  ·
   rintro y1 rfl
   replace h := eR h
   cases h
   exact ret_1 rfl
theorem hangul_Kind_c  {a0 : Int}  {r : Int} (h : hangul_Kind a0 = some r) : Contract Tryd.prog 69 [(di a0)] [(di r)] := by
 refine contract_of Tryd.func69 (by kernel_rfl) rfl (lq rfl) (lq rfl) fun w0 I0 hI0 hG0 => ?_
 unfold hangul_Kind at h
 refine avc_sq2 <| avc_sq ?_
 refine sqa (a_assign_d (lq rfl) rfl) ?_
 refine sq_nil <| avc_sq2 <| avc_block <| avc_sq2 <| avc_sq ?_
 refine sqa (a_move_d (lq rfl) rfl) ?_
 refine sqa (a_geq (lq rfl) rfl rfl) ?_
 obtain ⟨b6, hb6, h'⟩ := bE h; clear h
 refine sqa ((a_move_d (lq rfl) rfl).bool (Option.some.inj hb6)) ?_
 refine sq_g (x := .d (di a0)) rfl rfl rfl (lq rfl) (lq rfl) rfl (fun hb => by obtain rfl : b6 = true := hb; exact a_move_d (lq rfl) rfl) ?_
 refine sq_g (x := .d (db (decide (a0 < 4371)))) rfl rfl rfl (lq rfl) (lq rfl) rfl (fun hb => by obtain rfl : b6 = true := hb; exact a_lss (lq rfl) rfl rfl) ?_
 refine sqa (a_pick_and (lq rfl) rfl rfl) ?_
 refine sqa (a_assign_d (lq rfl) rfl) ?_
 refine sq_nil ?_
 refine avc_if rfl ⟨fun c1 => ?_, fun c1 => ?_⟩
 ·
  replace h' := cT c1 h'
  refine avc_sq2 <| avc_sq ?_
  refine sqa (a_assign_d (lq rfl) rfl) ?_
  refine sq_nil ?_
  cases h'
  refine avc_ret ?_
  exact ret_1 rfl
 ·
  replace h' := cF c1 h'
  refine avc_sq2 <| avc_sq ?_
  refine sqa (a_move_d (lq rfl) rfl) ?_
  refine sqa (a_geq (lq rfl) rfl rfl) ?_
  obtain ⟨b13, hb13, h⟩ := bE h'; clear h'
  refine sqa ((a_move_d (lq rfl) rfl).bool (Option.some.inj hb13)) ?_
  refine sq_g (x := .d (di a0)) rfl rfl rfl (lq rfl) (lq rfl) rfl (fun hb => by obtain rfl : b13 = true := hb; exact a_move_d (lq rfl) rfl) ?_
  refine sq_g (x := .d (db (decide (a0 < 4470)))) rfl rfl rfl (lq rfl) (lq rfl) rfl (fun hb => by obtain rfl : b13 = true := hb; exact a_lss (lq rfl) rfl rfl) ?_
  refine sqa (a_pick_and (lq rfl) rfl rfl) ?_
  refine sqa (a_assign_d (lq rfl) rfl) ?_
  refine sq_nil ?_
  refine avc_if rfl ⟨fun c2 => ?_, fun c2 => ?_⟩
  ·
   replace h := cT c2 h
   refine avc_sq2 <| avc_sq ?_
   refine sqa (a_assign_d (lq rfl) rfl) ?_
   refine sq_nil ?_
   cases h
   refine avc_ret ?_
   exact ret_1 rfl
  ·
   replace h := cF c2 h
   refine avc_sq2 <| avc_sq ?_
   refine sqa (a_move_d (lq rfl) rfl) ?_
   refine sqa (a_geq (lq rfl) rfl rfl) ?_
   obtain ⟨b20, hb20, h'⟩ := bE h; clear h
   refine sqa ((a_move_d (lq rfl) rfl).bool (Option.some.inj hb20)) ?_
   refine sq_g (x := .d (di a0)) rfl rfl rfl (lq rfl) (lq rfl) rfl (fun hb => by obtain rfl : b20 = true := hb; exact a_move_d (lq rfl) rfl) ?_
   refine sq_g (x := .d (db (decide (a0 < 4547)))) rfl rfl rfl (lq rfl) (lq rfl) rfl (fun hb => by obtain rfl : b20 = true := hb; exact a_lss (lq rfl) rfl rfl) ?_
   refine sqa (a_pick_and (lq rfl) rfl rfl) ?_
   refine sqa (a_assign_d (lq rfl) rfl) ?_
   refine sq_nil ?_
   refine avc_if rfl ⟨fun c3 => ?_, fun c3 => ?_⟩
   ·
    replace h' := cT c3 h'
    refine avc_sq2 <| avc_sq ?_
    refine sqa (a_assign_d (lq rfl) rfl) ?_
    refine sq_nil ?_
    cases h'
    refine avc_ret ?_
    exact ret_1 rfl
   ·
    replace h' := cF c3 h'
    refine avc_sq2 <| avc_sq ?_
    refine sqa (a_move_d (lq rfl) rfl) ?_
    refine sqa (a_lss (lq rfl) rfl rfl) ?_
    obtain ⟨b27, hb27, h⟩ := bE h'; clear h'
    refine sqa ((a_move_d (lq rfl) rfl).bool (Option.some.inj hb27)) ?_
    refine sq_g (x := .d (di a0)) rfl rfl rfl (lq rfl) (lq rfl) rfl (fun hb => by obtain rfl := gF hb; exact a_move_d (lq rfl) rfl) ?_
    refine sq_g (x := .d (db (decide (55204 ≤ a0)))) rfl rfl rfl (lq rfl) (lq rfl) rfl (fun hb => by obtain rfl := gF hb; exact a_geq (lq rfl) rfl rfl) ?_
    refine sqa (a_pick_or (lq rfl) rfl rfl) ?_
    refine sqa (a_assign_d (lq rfl) rfl) ?_
    refine sq_nil ?_
    refine avc_if rfl ⟨fun c4 => ?_, fun c4 => ?_⟩
    ·
     replace h := cT c4 h
     refine avc_sq2 <| avc_sq ?_
     refine sqa (a_assign_d (lq rfl) rfl) ?_
     refine sq_nil ?_
     cases h
     refine avc_ret ?_
     exact ret_1 rfl
    ·
     replace h := cF c4 h
     refine avc_sq2 <| avc_sq ?_
     refine sqa (a_move_d (lq rfl) rfl) ?_
     refine sqa (m_sub (lq rfl) rfl rfl) ?_
     obtain ⟨t34, ht34, h'⟩ := bE h; clear h
     refine sqa (m_rem (lq rfl) rfl rfl ht34) ?_
     refine sqa (a_eql (lq rfl) rfl rfl) ?_
     refine sqa (a_assign_d (lq rfl) rfl) ?_
     refine sq_nil ?_
     refine avc_if rfl ⟨fun c5 => ?_, fun c5 => ?_⟩
     ·
      replace h' := cT c5 h'
      refine avc_sq2 <| avc_sq ?_
      refine sqa (a_assign_d (lq rfl) rfl) ?_
      refine sq_nil ?_
      cases h'
      refine avc_ret ?_
      exact ret_1 rfl
     ·
      replace h' := cF c5 h'
      refine avc_skip <| avc_sq2 <| avc_sq ?_
      refine sqa (a_assign_d (lq rfl) rfl) ?_
      refine sq_nil ?_
      cases h'
      refine avc_ret ?_
      exact ret_1 rfl
theorem ordering_usable_c  {a0 : (List Span)}  {r : (List Span)} (h : ordering_usable a0 = some r) : Contract Tryd.prog 59 [(dsl eSpan a0)] [(dsl eSpan r)] := by
 refine contract_of Tryd.func59 (by kernel_rfl) rfl (lq rfl) (lq rfl) fun w0 I0 hI0 hG0 => ?_
 unfold ordering_usable at h
 refine avc_sq2 <| avc_sq ?_
 refine sqa (a_assign_d (lq rfl) rfl) ?_
 refine sq_nil <| avc_sq2 <| avc_sq2 <| avc_sq ?_
 refine sqa (a_move_d (lq rfl) rfl) ?_
 obtain ⟨t4, ht4, h'⟩ := bE h; clear h
 refine sqa (a_call (lq rfl) rfl (ordering_Check_c ht4)) ?_
 refine sqa (a_neq (lq rfl) rfl rfl) ?_
 refine sq_nil ?_
 refine avc_if rfl ⟨fun c1 => ?_, fun c1 => ?_⟩
 ·
  replace h' := cT c1 h'
  refine avc_sq2 <| avc_sq ?_
  refine sqa (a_assign_d (lq rfl) rfl) ?_
  refine sq_nil ?_
  refine avc_weak (weak_nil_d (t := 2) eSpan.size (lq rfl) rfl) ?_
  cases h'
  refine avc_ret ?_
  exact ret_1 rfl
 ·
  replace h' := cF c1 h'
  refine avc_skip <| avc_sq2 <| avc_sq ?_
  refine sqa (a_move_d (lq rfl) rfl) ?_
  refine sqa (a_assign_d (lq rfl) rfl) ?_
  refine sq_nil ?_
  cases h'
  refine avc_ret ?_
  exact ret_1 rfl
theorem slices_BinarySearchFunc_api_Span_api_Span_int_c {fv2 : DV} {a0 : (List Span)} {a1 : Int} {a2 : Span → Int → Option (Int)} (hf2 : ∀ x0 x1 y, a2 x0 x1 = some y → FnC Tryd.prog fv2 [(eSpan.dv x0), (di x1)] [(di y)]) {r : Int × Bool} (h : slices_BinarySearchFunc_api_Span_api_Span_int a0 a1 a2 = some r) : Contract Tryd.prog 79 [(dsl eSpan a0), (di a1), fv2] [(di r.1), (db r.2)] := by
 refine contract_of Tryd.func79 (by kernel_rfl) rfl (lq rfl) (lq rfl) fun w0 I0 hI0 hG0 => ?_
 unfold slices_BinarySearchFunc_api_Span_api_Span_int at h
 refine avc_sq2 <| avc_sq ?_
 refine sqa (a_assign_d (lq rfl) rfl) ?_
 refine sqa (a_assign_d (lq rfl) rfl) ?_
 refine sq_nil <| avc_sq2 <| avc_sq ?_
 refine sqa (a_move_d (lq rfl) rfl) ?_
 refine sqa (m_len (en := eSpan) (l := a0) (lq rfl) S37 rfl) ?_
 refine sqa (a_assign_d (lq rfl) rfl) ?_
 refine sq_nil <| avc_sq2 <| avc_sq ?_
 refine sqa (a_move_d (lq rfl) rfl) ?_
 refine sqa (a_assign_d (lq rfl) rfl) ?_
 refine sqa (a_assign_d (lq rfl) rfl) ?_
 refine sq_nil <| avc_sq2 <| avc_block ?_
 obtain ⟨y1, hy1, h'⟩ := bE h; clear h
 refine avc_tail (e := (.exit 0)) (S2 := ⟨[(0, .d (dsl eSpan a0)), (1, .d (di a1)), (2, .d fv2), (8, .d (di (a0.length : Int))), (9, .d (di y1))], []⟩) ?_ ?_
 ·
  refine avc_loopM (fun x => ⟨[(0, .d (dsl eSpan a0)), (1, .d (di a1)), (2, .d fv2), (8, .d (di (a0.length : Int))), (9, .d (di x.1)), (10, .d (di x.2))], []⟩) hy1 (weak_cov ⟨rfl, rfl, rfl, rfl, rfl, rfl, trivial⟩ trivial) ?_
  rintro ⟨v9, v10⟩ sy1 hsy1
  replace hsy1 : slices_BinarySearchFunc_api_Span_api_Span_int_L0 a0 a2 a1 v9 v10 = some sy1 := hsy1
  unfold slices_BinarySearchFunc_api_Span_api_Span_int_L0 at hsy1
  refine avc_sq2 <| avc_sq2 <| avc_sq ?_
  refine sqa (a_move_d (lq rfl) rfl) ?_
  refine sqa (a_move_d (lq rfl) rfl) ?_
  refine sqa (a_lss (lq rfl) rfl rfl) ?_
  refine sq_nil ?_
  refine avc_if rfl ⟨fun c1 => ?_, fun c1 => ?_⟩
  ·
   replace hsy1 := cT c1 hsy1
   refine avc_skip ?_
   obtain ⟨y2, hy2, hsy1'⟩ := bE hsy1; clear hsy1
   refine avc_tail (e := .normal) (S2 := ⟨[(0, .d (dsl eSpan a0)), (1, .d (di a1)), (2, .d fv2), (8, .d (di (a0.length : Int))), (9, .d (di y2.1)), (10, .d (di y2.2))], []⟩) ?_ ?_
   ·
    refine avc_block <| avc_sq2 <| avc_sq ?_
    refine sqa (a_move_d (lq rfl) rfl) ?_
    refine sqa (a_move_d (lq rfl) rfl) ?_
    refine sqa (m_add (lq rfl) rfl rfl) ?_
    refine sqa (m_conv (lq rfl) Tryd.underlying3 Tryd.underlying132 rfl) ?_
    refine sqa (a_shr (m := 1) (lq rfl) rfl rfl (by decide)) ?_
    refine sqa (m_conv (lq rfl) Tryd.underlying132 Tryd.underlying3 rfl) ?_
    refine sqa (a_assign_d (lq rfl) rfl) ?_
    refine sq_nil <| avc_sq2 <| avc_sq ?_
    refine sqa (a_move_d (lq rfl) rfl) ?_
    refine sqa (a_move_d (lq rfl) rfl) ?_
    refine sqa (a_move_d (lq rfl) rfl) ?_
    obtain ⟨t27, ht27, hy2'⟩ := bE hy2; clear hy2
    refine sqa (m_index (en := eSpan) (lq rfl) S37 rfl rfl ht27) ?_
    refine sqa (m_loadEA (en := eSpan) (l := a0) (i := (wi ((wu (wi (v9 + v10))) / 2 ^ 1))) (v := t27) (off := 0) (lq rfl) G61 rfl ht27 rfl rfl (by decide)) ?_
    refine sqa (a_move_d (lq rfl) rfl) ?_
    obtain ⟨t30, ht30, hy2⟩ := bE hy2'; clear hy2'
    refine sqa (a_callF (lq rfl) rfl rfl (hf2 _ _ _ ht30)) ?_
    refine sqa (a_lss (lq rfl) rfl rfl) ?_
    refine sq_nil ?_
    refine avc_if rfl ⟨fun c2 => ?_, fun c2 => ?_⟩
    ·
     replace hy2 := cT c2 hy2
     refine avc_sq ?_
     refine sqa (a_move_d (lq rfl) rfl) ?_
     refine sqa (m_add (lq rfl) rfl rfl) ?_
     refine sqa (a_assign_d (lq rfl) rfl) ?_
     refine sq_nil ?_
     cases hy2
     exact out_mk (weak_cov ⟨rfl, rfl, rfl, rfl, rfl, rfl, trivial⟩ trivial)
    ·
     replace hy2 := cF c2 hy2
     refine avc_sq ?_
     refine sqa (a_move_d (lq rfl) rfl) ?_
     refine sqa (a_assign_d (lq rfl) rfl) ?_
     refine sq_nil ?_
     cases hy2
     exact out_mk (weak_cov ⟨rfl, rfl, rfl, rfl, rfl, rfl, trivial⟩ trivial)
   ·
    cases hsy1'
    exact weak_cov ⟨rfl, rfl, rfl, rfl, rfl, rfl, trivial⟩ trivial
  ·
   replace hsy1 := cF c1 hsy1
   refine avc_exit ?_
   cases hsy1
   intro q; cases q
   exact out_mk (weak_cov ⟨rfl, rfl, rfl, rfl, rfl, trivial⟩ trivial)
 ·
  refine avc_sq2 <| avc_sq ?_
  refine sqa (a_move_d (lq rfl) rfl) ?_
  refine sqa (a_move_d (lq rfl) rfl) ?_
  refine sqa (a_move_d (lq rfl) rfl) ?_
  refine sqa (a_lss (lq rfl) rfl rfl) ?_
  obtain ⟨b39, hb39, h⟩ := bE h'; clear h'
  refine sqa ((a_move_d (lq rfl) rfl).bool (Option.some.inj hb39)) ?_
  refine sq_g (x := .d fv2) rfl rfl rfl (lq rfl) (lq rfl) rfl (fun hb => by obtain rfl : b39 = true := hb; exact a_move_d (lq rfl) rfl) ?_
  refine sq_g (x := .d (dsl eSpan a0)) rfl rfl rfl (lq rfl) (lq rfl) rfl (fun hb => by obtain rfl : b39 = true := hb; exact a_move_d (lq rfl) rfl) ?_
  refine sq_g (x := .d (di y1)) rfl rfl rfl (lq rfl) (lq rfl) rfl (fun hb => by obtain rfl : b39 = true := hb; exact a_move_d (lq rfl) rfl) ?_
  obtain ⟨t43, ht43, h'⟩ := bE h; clear h
  refine sq_g (x := .ip (eSpan.all a0) (y1.toNat * eSpan.size)) rfl rfl rfl (lq rfl) (lq rfl) rfl (fun hb => by obtain rfl : b39 = true := hb; exact m_index (en := eSpan) (lq rfl) S37 rfl rfl ht43) ?_
  refine sq_g (x := .d (eSpan.dv t43)) rfl rfl rfl (lq rfl) (lq rfl) rfl (fun hb => by obtain rfl : b39 = true := hb; exact m_loadEA (en := eSpan) (l := a0) (i := y1) (v := t43) (off := 0) (lq rfl) G61 rfl ht43 rfl rfl (by decide)) ?_
  refine sq_g (x := .d (di a1)) rfl rfl rfl (lq rfl) (lq rfl) rfl (fun hb => by obtain rfl : b39 = true := hb; exact a_move_d (lq rfl) rfl) ?_
  obtain ⟨t46, ht46, h⟩ := bE h'; clear h'
  refine sq_g (x := .d (di t46)) rfl rfl rfl (lq rfl) (lq rfl) rfl (fun hb => by obtain rfl : b39 = true := hb; exact a_callF (lq rfl) rfl rfl (hf2 _ _ _ ht46)) ?_
  refine sq_g (x := .d (db (decide (t46 = 0)))) rfl rfl rfl (lq rfl) (lq rfl) rfl (fun hb => by obtain rfl : b39 = true := hb; exact a_eql (lq rfl) rfl rfl) ?_
  refine sqa (a_pick_and (lq rfl) rfl rfl) ?_
  refine sqa (a_assign_d (lq rfl) rfl) ?_
  refine sqa (a_assign_d (lq rfl) rfl) ?_
  refine sq_nil ?_
  cases h
  refine avc_ret ?_
  exact ret_two rfl rfl
theorem ordering_class_1_c  {a0 : Span} {a1 : Int}  {r : Int} (h : ordering_class_1 a0 a1 = some r) : Contract Tryd.prog 80 [(eSpan.dv a0), (di a1)] [(di r)] := by
 refine contract_of Tryd.func80 (by kernel_rfl) rfl (lq rfl) (lq rfl) fun w0 I0 hI0 hG0 => ?_
 unfold ordering_class_1 at h
 refine avc_sq2 <| avc_sq ?_
 refine sqa (m_box (size := 3) (lq rfl) rfl rfl) ?_
 refine sqa (a_assign_d (lq rfl) rfl) ?_
 refine sq_nil <| avc_sq2 <| avc_block <| avc_sq2 <| avc_sq ?_
 refine sqa (m_fieldPt (lq rfl) L61_1 rfl) ?_
 refine sqa (a_load_ip (lq rfl) O3 rfl rfl) ?_
 refine sqa (a_move_d (lq rfl) rfl) ?_
 refine sqa (a_lss (lq rfl) rfl rfl) ?_
 refine sqa (a_assign_d (lq rfl) rfl) ?_
 refine sq_nil ?_
 refine avc_if rfl ⟨fun c1 => ?_, fun c1 => ?_⟩
 ·
  replace h := cT c1 h
  refine avc_sq2 <| avc_sq ?_
  refine sqa (a_assign_d (lq rfl) rfl) ?_
  refine sq_nil ?_
  cases h
  refine avc_ret ?_
  exact ret_1 rfl
 ·
  replace h := cF c1 h
  refine avc_sq2 <| avc_sq ?_
  refine sqa (m_fieldPt (lq rfl) L61_0 rfl) ?_
  refine sqa (a_load_ip (lq rfl) O3 rfl rfl) ?_
  refine sqa (a_move_d (lq rfl) rfl) ?_
  refine sqa (a_gtr (lq rfl) rfl rfl) ?_
  refine sqa (a_assign_d (lq rfl) rfl) ?_
  refine sq_nil ?_
  refine avc_if rfl ⟨fun c2 => ?_, fun c2 => ?_⟩
  ·
   replace h := cT c2 h
   refine avc_sq2 <| avc_sq ?_
   refine sqa (a_assign_d (lq rfl) rfl) ?_
   refine sq_nil ?_
   cases h
   refine avc_ret ?_
   exact ret_1 rfl
  ·
   replace h := cF c2 h
   refine avc_skip <| avc_sq2 <| avc_sq ?_
   refine sqa (a_assign_d (lq rfl) rfl) ?_
   refine sq_nil ?_
   cases h
   refine avc_ret ?_
   exact ret_1 rfl
theorem ordering_class_c  {a0 : (List Span)} {a1 : Int}  {r : Int} (h : ordering_class a0 a1 = some r) : Contract Tryd.prog 63 [(dsl eSpan a0), (di a1)] [(di r)] := by
 refine contract_of Tryd.func63 (by kernel_rfl) rfl (lq rfl) (lq rfl) fun w0 I0 hI0 hG0 => ?_
 unfold ordering_class at h
 refine avc_sq2 <| avc_sq ?_
 refine sqa (a_assign_d (lq rfl) rfl) ?_
 refine sq_nil <| avc_sq2 <| avc_sq ?_
 refine sqa (a_move_d (lq rfl) rfl) ?_
 refine sqa (a_move_d (lq rfl) rfl) ?_
 obtain ⟨t10, ht10, h'⟩ := bE h; clear h
 refine sqa (a_call (lq rfl) rfl (slices_BinarySearchFunc_api_Span_api_Span_int_c (fun _ _ _ q => .inr ⟨_, rfl, ordering_class_1_c q⟩) ht10)) ?_
 refine sqa (a_move_tup (lq rfl) rfl) ?_
 refine sqa (a_extract (lq rfl) rfl rfl) ?_
 refine sqa (a_extract (lq rfl) rfl rfl) ?_
 refine sqa (a_assign_d (lq rfl) rfl) ?_
 refine sqa (a_assign_d (lq rfl) rfl) ?_
 refine sq_nil <| avc_sq2 <| avc_sq2 <| avc_sq ?_
 refine sqa (a_move_d (lq rfl) rfl) ?_
 refine sqa (a_not (lq rfl) rfl) ?_
 refine sq_nil ?_
 refine avc_if rfl ⟨fun c1 => ?_, fun c1 => ?_⟩
 ·
  replace h' := cT c1 h'
  refine avc_sq2 <| avc_sq ?_
  refine sqa (a_assign_d (lq rfl) rfl) ?_
  refine sq_nil ?_
  cases h'
  refine avc_ret ?_
  exact ret_1 rfl
 ·
  replace h' := cF c1 h'
  refine avc_skip <| avc_sq2 <| avc_sq ?_
  refine sqa (a_move_d (lq rfl) rfl) ?_
  refine sqa (a_move_d (lq rfl) rfl) ?_
  obtain ⟨t17, ht17, h⟩ := bE h'; clear h'
  refine sqa (m_index (en := eSpan) (lq rfl) S37 rfl rfl ht17) ?_
  refine sqa (a_fieldAddr_ip (lq rfl) L61_2 rfl) ?_
  refine sqa (m_loadE (en := eSpan) (l := a0) (i := t10.1) (v := t17) (off := 2) (lq rfl) O3 rfl ht17 rfl) ?_
  refine sqa (a_assign_d (lq rfl) rfl) ?_
  refine sq_nil ?_
  cases h
  refine avc_ret ?_
  exact ret_1 rfl
theorem ordering_runs_1_i  {items : List Range} {a1 : (List Int)} {a2 : (List Span)}  {r : Unit} (h : ordering_runs_1 items a1 a2 = some r) : IterC Tryd.prog 77 [(.pt [(dsl eI a1)]), (.pt [(dsl eSpan a2)])] (items.map fun x => [eRange.dv x]) := by
 refine iter_of Tryd.func77 (by kernel_rfl) rfl (lq rfl) (lq rfl) fun w0 I0 J hc hg hG l0 hE => ?_
 unfold ordering_runs_1 at h
 refine avc_sq2 <| avc_sq ?_
 refine sqa (a_assign_d (lq rfl) rfl) ?_
 refine sq_nil <| avc_sq2 <| avc_sq2 <| avc_sq ?_
 refine sqa (m_loadPt1 (lq rfl) O30 rfl) ?_
 refine sqa (m_len (en := eI) (l := a1) (lq rfl) S30 rfl) ?_
 refine sqa (a_move_d (lq rfl) rfl) ?_
 refine sq_nil <| avc_block ?_
 obtain ⟨y1, hy1, h'⟩ := bE h; clear h
 refine avc_tail2 y1 (.exit 0) (fun y1 => ⟨[(0, .d (.v (.func (.yield l0) #[] #[]))), (1, .d (.pt [(dsl eI a1)])), (4, .d (di y1.1)), (1000000, .gh y1.2)], []⟩) .ret (fun y1 => ⟨[(1000000, .gh y1)], []⟩) ?_ ?_ ?_
 ·
  refine avc_loopM (fun x => ⟨[(0, .d (.v (.func (.yield l0) #[] #[]))), (1, .d (.pt [(dsl eI a1)])), (2, .d (.pt [(dsl eSpan a2)])), (4, .d (di x.1)), (8, .d (dsl eI a1)), (9, .d (di (a1.length : Int))), (10, .d (di x.2.1)), (1000000, .gh x.2.2)], []⟩) hy1 (weak_cov ⟨rfl, rfl, rfl, rfl, rfl, rfl, rfl, rfl, trivial⟩ trivial) ?_
  rintro ⟨v4, v10, v1000000⟩ sy1 hsy1
  replace hsy1 : ordering_runs_1_L0 a1 a2 items v4 v10 v1000000 = some sy1 := hsy1
  unfold ordering_runs_1_L0 at hsy1
  refine avc_sq2 <| avc_sq ?_
  refine sqa (a_lss (lq rfl) rfl rfl) ?_
  refine sq_nil <| avc_sq2 ?_
  refine avc_if rfl ⟨fun c1 => ?_, fun c1 => ?_⟩
  ·
   replace hsy1 := cT c1 hsy1
   refine avc_skip <| avc_sq2 ?_
   obtain ⟨y2, hy2, hsy1'⟩ := bE hsy1; clear hsy1
   refine avc_tail2 y2 .normal (fun y2 => ⟨[(0, .d (.v (.func (.yield l0) #[] #[]))), (1, .d (.pt [(dsl eI a1)])), (2, .d (.pt [(dsl eSpan a2)])), (4, .d (di y2.1)), (8, .d (dsl eI a1)), (9, .d (di (a1.length : Int))), (10, .d (di v10)), (1000000, .gh y2.2)], []⟩) .ret (fun y2 => ⟨[(1000000, .gh y2)], []⟩) ?_ ?_ ?_
   ·
    refine avc_block <| avc_sq2 <| avc_sq ?_
    refine sqa (a_move_d (lq rfl) rfl) ?_
    obtain ⟨t13, ht13, hy2'⟩ := bE hy2; clear hy2
    refine sqa (m_index (en := eI) (lq rfl) S30 rfl rfl ht13) ?_
    refine sqa (m_loadE (en := eI) (l := a1) (i := v10) (v := t13) (off := 0) (lq rfl) O3 rfl ht13 rfl) ?_
    refine sqa (a_assign_d (lq rfl) rfl) ?_
    refine sqa (a_assign_d (lq rfl) rfl) ?_
    refine sq_nil <| avc_sq2 <| avc_sq ?_
    refine sqa (m_loadPt1 (lq rfl) O37 rfl) ?_
    refine sqa (a_move_d (lq rfl) rfl) ?_
    obtain ⟨t17, ht17, hy2⟩ := bE hy2'; clear hy2'
    refine sqa (a_call (lq rfl) rfl (ordering_class_c ht17)) ?_
    refine sqa (a_eql (lq rfl) rfl rfl) ?_
    refine sqa (a_assign_d (lq rfl) rfl) ?_
    refine sq_nil ?_
    obtain ⟨y3, hy3, hy2'⟩ := bE hy2; clear hy2
    refine avc_tail2 y3 .normal (fun y3 => ⟨[(0, .d (.v (.func (.yield l0) #[] #[]))), (1, .d (.pt [(dsl eI a1)])), (2, .d (.pt [(dsl eSpan a2)])), (4, .d (di y3.1)), (8, .d (dsl eI a1)), (9, .d (di (a1.length : Int))), (10, .d (di v10)), (1000000, .gh y3.2)], []⟩) .ret (fun y3 => ⟨[(1000000, .gh y3)], []⟩) ?_ ?_ ?_
    ·
     refine avc_block <| avc_sq2 <| avc_sq ?_
     refine sqa (a_move_d (lq rfl) rfl) ?_
     refine sqa (a_not (lq rfl) rfl) ?_
     obtain ⟨b22, hb22, hy3'⟩ := bE hy3; clear hy3
     refine sqa ((a_move_d (lq rfl) rfl).bool (Option.some.inj hb22)) ?_
     refine sq_g (x := .d (di v4)) rfl rfl rfl (lq rfl) (lq rfl) rfl (fun hb => by obtain rfl : b22 = true := hb; exact a_move_d (lq rfl) rfl) ?_
     refine sq_g (x := .d (db (decide (v4 < 0)))) rfl rfl rfl (lq rfl) (lq rfl) rfl (fun hb => by obtain rfl : b22 = true := hb; exact a_lss (lq rfl) rfl rfl) ?_
     refine sqa (a_pick_and (lq rfl) rfl rfl) ?_
     refine sqa (a_assign_d (lq rfl) rfl) ?_
     refine sq_nil ?_
     refine avc_if rfl ⟨fun c2 => ?_, fun c2 => ?_⟩
     ·
      replace hy3' := cT c2 hy3'
      refine avc_sq ?_
      refine sqa (a_move_d (lq rfl) rfl) ?_
      refine sqa (a_assign_d (lq rfl) rfl) ?_
      refine sq_nil ?_
      cases hy3'
      exact ⟨rfl, weak_cov ⟨rfl, rfl, rfl, rfl, rfl, rfl, rfl, rfl, trivial⟩ trivial⟩
     ·
      replace hy3' := cF c2 hy3'
      refine avc_sq2 <| avc_sq ?_
      refine sqa (a_move_d (lq rfl) rfl) ?_
      obtain ⟨b29, hb29, hy3⟩ := bE hy3'; clear hy3'
      refine sqa ((a_move_d (lq rfl) rfl).bool (Option.some.inj hb29)) ?_
      refine sq_g (x := .d (di v4)) rfl rfl rfl (lq rfl) (lq rfl) rfl (fun hb => by obtain rfl : b29 = true := hb; exact a_move_d (lq rfl) rfl) ?_
      refine sq_g (x := .d (db (decide (0 ≤ v4)))) rfl rfl rfl (lq rfl) (lq rfl) rfl (fun hb => by obtain rfl : b29 = true := hb; exact a_geq (lq rfl) rfl rfl) ?_
      refine sqa (a_pick_and (lq rfl) rfl rfl) ?_
      refine sqa (a_assign_d (lq rfl) rfl) ?_
      refine sq_nil ?_
      refine avc_if rfl ⟨fun c3 => ?_, fun c3 => ?_⟩
      ·
       replace hy3 := cT c3 hy3
       refine avc_sq2 <| avc_sq2 <| avc_sq ?_
       refine sqa (a_move_d (lq rfl) rfl) ?_
       refine sqa (a_move_d (lq rfl) rfl) ?_
       refine sqa (a_move_d (lq rfl) rfl) ?_
       refine sqa (m_build (lq rfl) B104 rfl rfl) ?_
       obtain ⟨u37, hu37, hy3'⟩ := bE hy3; clear hy3
       refine sq_b rfl (s_yield (k := v1000000) (lq rfl) hE rfl rfl rfl (yM_hit _ hu37)) ?_
       refine sqa (a_not (lq rfl) rfl) ?_
       refine sq_nil ?_
       refine avc_if rfl ⟨fun c4 => ?_, fun c4 => ?_⟩
       ·
        replace hy3' := cT c4 hy3'
        refine avc_ret ?_
        cases hy3'
        exact ⟨rfl, weak_cov ⟨rfl, trivial⟩ trivial⟩
       ·
        replace hy3' := cF c4 hy3'
        refine avc_skip <| avc_sq ?_
        refine sqa (a_assign_d (lq rfl) rfl) ?_
        refine sq_nil ?_
        cases hy3'
        exact ⟨rfl, weak_cov ⟨rfl, rfl, rfl, rfl, rfl, rfl, rfl, rfl, trivial⟩ trivial⟩
      ·
       replace hy3 := cF c3 hy3
       refine avc_skip ?_
       cases hy3
       exact ⟨rfl, weak_cov ⟨rfl, rfl, rfl, rfl, rfl, rfl, rfl, rfl, trivial⟩ trivial⟩
    ·
     rintro y3 rfl
     replace hy2' := eL hy2'
     cases hy2'
     exact ⟨rfl, weak_cov ⟨rfl, rfl, rfl, rfl, rfl, rfl, rfl, rfl, trivial⟩ trivial⟩
    ·
     rintro y3 rfl
     replace hy2' := eR hy2'
     cases hy2'
     exact ⟨rfl, weak_cov ⟨rfl, trivial⟩ trivial⟩
   ·
    rintro y2 rfl
    replace hsy1' := eL hsy1'
    refine avc_sq ?_
    refine sqa (m_add (lq rfl) rfl rfl) ?_
    refine sqa (a_move_d (lq rfl) rfl) ?_
    refine sq_nil ?_
    cases hsy1'
    exact weak_cov ⟨rfl, rfl, rfl, rfl, rfl, rfl, rfl, rfl, trivial⟩ trivial
   ·
    rintro y2 rfl
    replace hsy1' := eR hsy1'
    cases hsy1'
    intro q; cases q
    exact ⟨rfl, weak_cov ⟨rfl, trivial⟩ trivial⟩
  ·
   replace hsy1 := cF c1 hsy1
   refine avc_exit ?_
   cases hsy1
   intro q; cases q
   exact ⟨rfl, weak_cov ⟨rfl, rfl, rfl, rfl, trivial⟩ trivial⟩
 ·
  rintro y1 rfl
  replace h' := eL h'
  refine avc_sq2 <| avc_sq ?_
  refine sqa (a_move_d (lq rfl) rfl) ?_
  refine sqa (a_geq (lq rfl) rfl rfl) ?_
  refine sq_nil ?_
  refine avc_if rfl ⟨fun c5 => ?_, fun c5 => ?_⟩
  ·
   replace h' := cT c5 h'
   refine avc_sq ?_
   refine sqa (a_move_d (lq rfl) rfl) ?_
   refine sqa (a_move_d (lq rfl) rfl) ?_
   refine sqa (m_loadPt1 (lq rfl) O30 rfl) ?_
   refine sqa (m_len (en := eI) (l := a1) (lq rfl) S30 rfl) ?_
   refine sqa (m_build (lq rfl) B104 rfl rfl) ?_
   obtain ⟨u47, hu47, h⟩ := bE h'; clear h'
   refine sq_b rfl (s_yield (k := y1.2) (lq rfl) hE rfl rfl rfl (yM_hit _ hu47)) ?_
   refine sq_nil ?_
   exact ⟨rfl, endM_len _ h⟩
  ·
   replace h' := cF c5 h'
   refine avc_skip ?_
   exact ⟨rfl, endM_len _ h'⟩
 ·
  rintro y1 rfl
  replace h' := eR h'
  exact ⟨rfl, endM_len _ h'⟩
theorem ordering_runs_c {a0 : List Span} {a1 : List Int} : Contract Tryd.prog 60 [(dsl eSpan a0), (dsl eI a1)] [.fn 77 [.pt [dsl eI a1], .pt [dsl eSpan a0]]] := by
 refine contract_of Tryd.func60 (by kernel_rfl) rfl (lq rfl) (lq rfl) fun w0 I0 hI0 hG0 => ?_
 refine avc_sq2 <| avc_sq ?_
 refine sqa (m_box (size := 1) (lq rfl) rfl rfl) ?_
 refine sqa (m_box (size := 1) (lq rfl) rfl rfl) ?_
 refine sqa (a_assign_d (lq rfl) rfl) ?_
 refine sq_nil <| avc_sq2 <| avc_sq ?_
 refine sqa (a_makeFunc (lq rfl) rfl) ?_
 refine sqa (a_assign_d (lq rfl) rfl) ?_
 refine sq_nil ?_
 refine avc_ret ?_
 exact ret_1 rfl
theorem appendSeq_c {f : FuncId} {caps : List DV} {r : List Range} (hit : IterC Tryd.prog f caps (r.map fun x => [eRange.dv x])) (hr : r.length ≤ LIM) : Contract Tryd.prog 95 [.v (.slice none 0 0), .fn f caps] [dsl eRange r] := by
 refine contract_of Tryd.func95 (by kernel_rfl) rfl (lq rfl) (lq rfl) fun w0 I0 hI0 hG0 => ?_
 refine avc_sq2 <| avc_sq ?_
 refine sq_b rfl (s_box_d (lq rfl) rfl rfl rfl) ?_
 refine sqa (a_assign_d (lq rfl) rfl) ?_
 refine sq_nil ?_
 refine avc_weak (weak_nil_box (bid := 2) (off := 0) 100 104 eRange.size (lq rfl) (by decide) rfl rfl rfl) ?_
 refine avc_sq2 <| avc_sq2 <| avc_sq ?_
 refine sqa (a_move_d (lq rfl) rfl) ?_
 refine sq_nil <| avc_block ?_
 refine avc_range [(2, .ptr 2 0), (4, .d (.v (.slice none 0 0)))] [2] (fun k => [(2, .box 39 [.row 100]), (100, .row 104 eRange.size false (eRange.all (r.take k)))]) rfl hit rfl (fun _ _ _ _ h => h) ?hk ?hT rfl (fun _ => rfl) ?hbx (fun _ _ => rfl) ?hl ?hpn ?rd ?hK
 case hk => exact ⟨rfl, rfl, trivial⟩
 case hT => exact ⟨rfl, rfl, trivial⟩
 case hbx => intro k id hi; simp at hi; subst hi; exact fun (h : Blk.box _ _ = Blk.none) => by cases h
 case hl => intro x hx; obtain ⟨y, _, rfl⟩ := List.mem_map.1 hx; rfl
 case hpn => intro p hp; simp at hp; subst hp; exact (lq rfl)
 case rd =>
  intro w1 Iall X C0 ρ0 defs l1 D lp1 lp2 hok k x hx
  rw [List.getElem?_map] at hx
  obtain ⟨v, hv, rfl⟩ := Option.map_eq_some_iff.1 hx
  have hlt := (List.getElem?_eq_some_iff.1 hv).1
  have happ : app (r.take k) [v] = some (r.take (k + 1)) := by
   unfold app
   rw [if_pos (by simp; omega), List.take_add_one, hv]
   rfl
  refine avc_sq ?_
  refine sq_b rfl (step_alloc (zs := [(.int IntKind.i64 (0)), (.int IntKind.i64 (0))]) (lq rfl) (by kernel_rfl) rfl rfl) ?_
  refine sq_b rfl (s_store_boxA G104 rfl rfl rfl rfl rfl rfl) ?_
  refine sq_nil <| avc_block <| avc_sq ?_
  refine sqa (a_load_box (lq rfl) O39 rfl rfl rfl) ?_
  refine sqa ((a_load_boxA (lq rfl) G104 rfl rfl rfl rfl).data rfl) ?_
  refine sqa (a_lit (lq rfl) S39 rfl rfl rfl rfl (by decide) rfl) ?_
  refine sq_b rfl (m_append (en := eRange) (l := r.take k) (m := [v]) (lq rfl) S39 rfl rfl rfl happ (by decide) (by decide) rfl rfl) ?_
  refine sq_b rfl (s_store_box_row O39 rfl rfl (lq rfl) rfl rfl rfl) ?_
  refine sq_nil ?_
  exact ⟨rfl, rfl, trivial⟩
 case hK =>
  rw [List.length_map, List.take_length]
  refine avc_sq2 <| avc_sq ?_
  refine sqa (a_load_box (lq rfl) O39 rfl rfl rfl) ?_
  refine sqa (a_assign_row (lq rfl) rfl) ?_
  refine sq_nil ?_
  refine avc_ret ?_
  exact ret_1 rfl
theorem collect_c {f : FuncId} {caps : List DV} {r : List Range} (hit : IterC Tryd.prog f caps (r.map fun x => [eRange.dv x])) (hr : r.length ≤ LIM) : Contract Tryd.prog 85 [.fn f caps] [dsl eRange r] := by
 refine contract_of Tryd.func85 (by kernel_rfl) rfl (lq rfl) (lq rfl) fun w0 I0 hI0 hG0 => ?_
 refine avc_sq2 <| avc_sq ?_
 refine sqa (a_assign_d (lq rfl) rfl) ?_
 refine sq_nil <| avc_sq2 <| avc_sq ?_
 refine sqa (a_move_d (lq rfl) rfl) ?_
 refine sqa (a_call (lq rfl) rfl (appendSeq_c hit hr)) ?_
 refine sqa (a_assign_d (lq rfl) rfl) ?_
 refine sq_nil ?_
 refine avc_ret ?_
 exact ret_1 rfl
theorem ordering_Runs_c {a0 : List Span} {a1 : List Int} {r : List Range} (h : ordering_Runs a0 a1 = some r) : Contract Tryd.prog 70 [(dsl eSpan a0), (dsl eI a1)] [dsl eRange r] := by
 unfold ordering_Runs at h
 obtain ⟨t6, ht6, h'⟩ := bE h; clear h
 obtain ⟨t8, ht8, h⟩ := bE h'; clear h'
 unfold lenM at h
 split at h
 case isFalse => cases h
 rename_i hlen
 cases h
 refine contract_of Tryd.func70 (by kernel_rfl) rfl (lq rfl) (lq rfl) fun w0 I0 hI0 hG0 => ?_
 refine avc_sq2 <| avc_sq ?_
 refine sqa (a_assign_d (lq rfl) rfl) ?_
 refine sq_nil <| avc_sq2 <| avc_sq ?_
 refine sqa (a_move_d (lq rfl) rfl) ?_
 refine sqa (a_call (lq rfl) rfl (ordering_usable_c ht6)) ?_
 refine sqa (a_move_d (lq rfl) rfl) ?_
 refine sqa (a_call (lq rfl) rfl ordering_runs_c) ?_
 refine sqa (a_call (lq rfl) rfl (collect_c (ordering_runs_1_i ht8) hlen)) ?_
 refine sqa (a_assign_d (lq rfl) rfl) ?_
 refine sq_nil ?_
 refine avc_ret ?_
 exact ret_1 rfl
end Go.Proofs.YtgeaoceiacdadaaDoor.Walk


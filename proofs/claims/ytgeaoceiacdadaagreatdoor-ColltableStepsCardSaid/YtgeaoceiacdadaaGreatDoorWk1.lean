/- Each function of the program answers as its plain counterpart does, where that answers. Conditions: none. -/
import Derived.Test.YtgeaoceiacdadaaGreatDoorMir
import Derived.Test.YtgeaoceiacdadaaGreatDoorProg
set_option linter.unusedSimpArgs false
set_option linter.unusedVariables false
set_option linter.unnecessarySimpa false
namespace Go.Proofs.YtgeaoceiacdadaaGreatDoor.Walk
open Go.AV Go.M Go.RowKit Go.Proofs
theorem A132 : ArTy Tryz.prog 132 3 1 3 [(.int IntKind.i64 (0)), (.int IntKind.i64 (0)), (.int IntKind.i64 (0))] := ArTy.of Tryz.underlying132 (by kernel_rfl) (by decide) (by kernel_rfl) rfl
theorem A133 : ArTy Tryz.prog 133 4 2 123 [(.int IntKind.i64 (0)), (.int IntKind.i64 (0)), (.int IntKind.i64 (0)), (.int IntKind.i64 (0)), (.int IntKind.i64 (0)), (.int IntKind.i64 (0)), (.int IntKind.i64 (0)), (.int IntKind.i64 (0))] := ArTy.of Tryz.underlying133 (by kernel_rfl) (by decide) (by kernel_rfl) rfl
theorem A92 : ArTy Tryz.prog 92 9 1 3 [(.int IntKind.i64 (0)), (.int IntKind.i64 (0)), (.int IntKind.i64 (0)), (.int IntKind.i64 (0)), (.int IntKind.i64 (0)), (.int IntKind.i64 (0)), (.int IntKind.i64 (0)), (.int IntKind.i64 (0)), (.int IntKind.i64 (0))] := ArTy.of Tryz.underlying92 (by kernel_rfl) (by decide) (by kernel_rfl) rfl
theorem B123 : StTy Tryz.prog 123 [(0, 1), (1, 1)] [(.int IntKind.i64 (0)), (.int IntKind.i64 (0))] := StTy.of Tryz.underlying123 (by kernel_rfl) (by kernel_rfl) rfl
theorem B137 : StTy Tryz.prog 137 [(0, 1), (1, 1)] [(.int IntKind.i64 (0)), (.string ⟨#[]⟩)] := StTy.of Tryz.underlying137 (by kernel_rfl) (by kernel_rfl) rfl
theorem B26 : StTy Tryz.prog 26 [(0, 1)] [(.slice none 0 0)] := StTy.of Tryz.underlying26 (by kernel_rfl) (by kernel_rfl) rfl
theorem B28 : StTy Tryz.prog 28 [(0, 1), (1, 1), (2, 1)] [(.slice none 0 0), (.slice none 0 0), (.slice none 0 0)] := StTy.of Tryz.underlying28 (by kernel_rfl) (by kernel_rfl) rfl
theorem B32 : StTy Tryz.prog 32 [(0, 1), (1, 1), (2, 1), (3, 1), (4, 1)] [(.slice none 0 0), (.slice none 0 0), (.int IntKind.i64 (0)), (.int IntKind.i64 (0)), (.int IntKind.i64 (0))] := StTy.of Tryz.underlying32 (by kernel_rfl) (by kernel_rfl) rfl
theorem B45 : StTy Tryz.prog 45 [(0, 1), (1, 1)] [(.slice none 0 0), (.slice none 0 0)] := StTy.of Tryz.underlying45 (by kernel_rfl) (by kernel_rfl) rfl
theorem B61 : StTy Tryz.prog 61 [(0, 1), (1, 1), (2, 1)] [(.int IntKind.i64 (0)), (.int IntKind.i64 (0)), (.int IntKind.i64 (0))] := StTy.of Tryz.underlying61 (by kernel_rfl) (by kernel_rfl) rfl
theorem B63 : StTy Tryz.prog 63 [(0, 1), (1, 1), (2, 1), (3, 1)] [(.int IntKind.i64 (0)), (.int IntKind.i64 (0)), (.int IntKind.i64 (0)), (.bool false)] := StTy.of Tryz.underlying63 (by kernel_rfl) (by kernel_rfl) rfl
theorem B90 : StTy Tryz.prog 90 [(0, 5), (5, 1), (6, 1), (7, 1), (8, 1)] [(.slice none 0 0), (.slice none 0 0), (.int IntKind.i64 (0)), (.int IntKind.i64 (0)), (.int IntKind.i64 (0)), (.map none), (.int IntKind.i64 (0)), (.slice none 0 0), (.int IntKind.i64 (0))] := StTy.of Tryz.underlying90 (by kernel_rfl) (by kernel_rfl) rfl
theorem G103 : AggTy Tryz.prog 103 3 := AggTy.of Tryz.underlying103 rfl (by kernel_rfl)
theorem G110 : AggTy Tryz.prog 110 3 := AggTy.of Tryz.underlying110 rfl (by kernel_rfl)
theorem G123 : AggTy Tryz.prog 123 2 := AggTy.of Tryz.underlying123 rfl (by kernel_rfl)
theorem G132 : AggTy Tryz.prog 132 3 := AggTy.of Tryz.underlying132 rfl (by kernel_rfl)
theorem G133 : AggTy Tryz.prog 133 8 := AggTy.of Tryz.underlying133 rfl (by kernel_rfl)
theorem G137 : AggTy Tryz.prog 137 2 := AggTy.of Tryz.underlying137 rfl (by kernel_rfl)
theorem G26 : AggTy Tryz.prog 26 1 := AggTy.of Tryz.underlying26 rfl (by kernel_rfl)
theorem G28 : AggTy Tryz.prog 28 3 := AggTy.of Tryz.underlying28 rfl (by kernel_rfl)
theorem G32 : AggTy Tryz.prog 32 5 := AggTy.of Tryz.underlying32 rfl (by kernel_rfl)
theorem G35 : AggTy Tryz.prog 35 9 := AggTy.of Tryz.underlying35 rfl (by kernel_rfl)
theorem G45 : AggTy Tryz.prog 45 2 := AggTy.of Tryz.underlying45 rfl (by kernel_rfl)
theorem G61 : AggTy Tryz.prog 61 3 := AggTy.of Tryz.underlying61 rfl (by kernel_rfl)
theorem G63 : AggTy Tryz.prog 63 4 := AggTy.of Tryz.underlying63 rfl (by kernel_rfl)
theorem G92 : AggTy Tryz.prog 92 9 := AggTy.of Tryz.underlying92 rfl (by kernel_rfl)
theorem K3 : KeyTy Tryz.prog 3 kI := keyInt Tryz.underlying3
theorem K9 : KeyTy Tryz.prog 9 kS := keyStr Tryz.underlying9
theorem L103_0 : FldTy Tryz.prog 103 0 0 1 3 := FldTy.of Tryz.underlying103 rfl (by kernel_rfl) (by decide)
theorem L103_1 : FldTy Tryz.prog 103 1 1 1 33 := FldTy.of Tryz.underlying103 rfl (by kernel_rfl) (by decide)
theorem L103_2 : FldTy Tryz.prog 103 2 2 1 9 := FldTy.of Tryz.underlying103 rfl (by kernel_rfl) (by decide)
theorem L110_0 : FldTy Tryz.prog 110 0 0 1 9 := FldTy.of Tryz.underlying110 rfl (by kernel_rfl) (by decide)
theorem L110_1 : FldTy Tryz.prog 110 1 1 1 3 := FldTy.of Tryz.underlying110 rfl (by kernel_rfl) (by decide)
theorem L110_2 : FldTy Tryz.prog 110 2 2 1 3 := FldTy.of Tryz.underlying110 rfl (by kernel_rfl) (by decide)
theorem L123_0 : FldTy Tryz.prog 123 0 0 1 3 := FldTy.of Tryz.underlying123 rfl (by kernel_rfl) (by decide)
theorem L123_1 : FldTy Tryz.prog 123 1 1 1 3 := FldTy.of Tryz.underlying123 rfl (by kernel_rfl) (by decide)
theorem L26_0 : FldTy Tryz.prog 26 0 0 1 24 := FldTy.of Tryz.underlying26 rfl (by kernel_rfl) (by decide)
theorem L28_0 : FldTy Tryz.prog 28 0 0 1 22 := FldTy.of Tryz.underlying28 rfl (by kernel_rfl) (by decide)
theorem L28_1 : FldTy Tryz.prog 28 1 1 1 23 := FldTy.of Tryz.underlying28 rfl (by kernel_rfl) (by decide)
theorem L28_2 : FldTy Tryz.prog 28 2 2 1 26 := FldTy.of Tryz.underlying28 rfl (by kernel_rfl) (by decide)
theorem L32_0 : FldTy Tryz.prog 32 0 0 1 29 := FldTy.of Tryz.underlying32 rfl (by kernel_rfl) (by decide)
theorem L32_1 : FldTy Tryz.prog 32 1 1 1 30 := FldTy.of Tryz.underlying32 rfl (by kernel_rfl) (by decide)
theorem L32_2 : FldTy Tryz.prog 32 2 2 1 3 := FldTy.of Tryz.underlying32 rfl (by kernel_rfl) (by decide)
theorem L32_3 : FldTy Tryz.prog 32 3 3 1 3 := FldTy.of Tryz.underlying32 rfl (by kernel_rfl) (by decide)
theorem L32_4 : FldTy Tryz.prog 32 4 4 1 3 := FldTy.of Tryz.underlying32 rfl (by kernel_rfl) (by decide)
theorem L35_0 : FldTy Tryz.prog 35 0 0 3 28 := FldTy.of Tryz.underlying35 rfl (by kernel_rfl) (by decide)
theorem L35_1 : FldTy Tryz.prog 35 1 3 5 32 := FldTy.of Tryz.underlying35 rfl (by kernel_rfl) (by decide)
theorem L35_2 : FldTy Tryz.prog 35 2 8 1 33 := FldTy.of Tryz.underlying35 rfl (by kernel_rfl) (by decide)
theorem L45_0 : FldTy Tryz.prog 45 0 0 1 33 := FldTy.of Tryz.underlying45 rfl (by kernel_rfl) (by decide)
theorem L45_1 : FldTy Tryz.prog 45 1 1 1 38 := FldTy.of Tryz.underlying45 rfl (by kernel_rfl) (by decide)
theorem L61_0 : FldTy Tryz.prog 61 0 0 1 3 := FldTy.of Tryz.underlying61 rfl (by kernel_rfl) (by decide)
theorem L61_1 : FldTy Tryz.prog 61 1 1 1 3 := FldTy.of Tryz.underlying61 rfl (by kernel_rfl) (by decide)
theorem L61_2 : FldTy Tryz.prog 61 2 2 1 3 := FldTy.of Tryz.underlying61 rfl (by kernel_rfl) (by decide)
theorem L63_0 : FldTy Tryz.prog 63 0 0 1 3 := FldTy.of Tryz.underlying63 rfl (by kernel_rfl) (by decide)
theorem L63_1 : FldTy Tryz.prog 63 1 1 1 3 := FldTy.of Tryz.underlying63 rfl (by kernel_rfl) (by decide)
theorem L63_2 : FldTy Tryz.prog 63 2 2 1 3 := FldTy.of Tryz.underlying63 rfl (by kernel_rfl) (by decide)
theorem L63_3 : FldTy Tryz.prog 63 3 3 1 4 := FldTy.of Tryz.underlying63 rfl (by kernel_rfl) (by decide)
theorem L90_0 : FldTy Tryz.prog 90 0 0 5 32 := FldTy.of Tryz.underlying90 rfl (by kernel_rfl) (by decide)
theorem L90_1 : FldTy Tryz.prog 90 1 5 1 88 := FldTy.of Tryz.underlying90 rfl (by kernel_rfl) (by decide)
theorem L90_2 : FldTy Tryz.prog 90 2 6 1 3 := FldTy.of Tryz.underlying90 rfl (by kernel_rfl) (by decide)
theorem L90_3 : FldTy Tryz.prog 90 3 7 1 22 := FldTy.of Tryz.underlying90 rfl (by kernel_rfl) (by decide)
theorem L90_4 : FldTy Tryz.prog 90 4 8 1 3 := FldTy.of Tryz.underlying90 rfl (by kernel_rfl) (by decide)
theorem M112 : MapTy Tryz.prog 112 9 4 (.bool false) := MapTy.of Tryz.underlying112 (by kernel_rfl)
theorem M135 : MapTy Tryz.prog 135 137 4 (.bool false) := MapTy.of Tryz.underlying135 (by kernel_rfl)
theorem M140 : MapTy Tryz.prog 140 3 3 (.int IntKind.i64 (0)) := MapTy.of Tryz.underlying140 (by kernel_rfl)
theorem M88 : MapTy Tryz.prog 88 92 38 (.slice none 0 0) := MapTy.of Tryz.underlying88 (by kernel_rfl)
theorem O140 : OneTy Tryz.prog 140 := OneTy.of Tryz.underlying140 rfl (by kernel_rfl)
theorem O22 : OneTy Tryz.prog 22 := OneTy.of Tryz.underlying22 rfl (by kernel_rfl)
theorem O23 : OneTy Tryz.prog 23 := OneTy.of Tryz.underlying23 rfl (by kernel_rfl)
theorem O24 : OneTy Tryz.prog 24 := OneTy.of Tryz.underlying24 rfl (by kernel_rfl)
theorem O29 : OneTy Tryz.prog 29 := OneTy.of Tryz.underlying29 rfl (by kernel_rfl)
theorem O3 : OneTy Tryz.prog 3 := OneTy.of Tryz.underlying3 rfl (by kernel_rfl)
theorem O30 : OneTy Tryz.prog 30 := OneTy.of Tryz.underlying30 rfl (by kernel_rfl)
theorem O33 : OneTy Tryz.prog 33 := OneTy.of Tryz.underlying33 rfl (by kernel_rfl)
theorem O38 : OneTy Tryz.prog 38 := OneTy.of Tryz.underlying38 rfl (by kernel_rfl)
theorem O4 : OneTy Tryz.prog 4 := OneTy.of Tryz.underlying4 rfl (by kernel_rfl)
theorem O66 : OneTy Tryz.prog 66 := OneTy.of Tryz.underlying66 rfl (by kernel_rfl)
theorem O88 : OneTy Tryz.prog 88 := OneTy.of Tryz.underlying88 rfl (by kernel_rfl)
theorem O9 : OneTy Tryz.prog 9 := OneTy.of Tryz.underlying9 rfl (by kernel_rfl)
theorem O94 : OneTy Tryz.prog 94 := OneTy.of Tryz.underlying94 rfl (by kernel_rfl)
theorem S104 : SlTy Tryz.prog 104 4 1 1 (.bool false) := SlTy.of Tryz.underlying104 (by kernel_rfl) rfl (by decide) rfl
theorem S22 : SlTy Tryz.prog 22 61 3 24 (.agg #[(.int IntKind.i64 (0)), (.int IntKind.i64 (0)), (.int IntKind.i64 (0))]) := SlTy.of Tryz.underlying22 (by kernel_rfl) rfl (by decide) rfl
theorem S23 : SlTy Tryz.prog 23 103 3 48 (.agg #[(.int IntKind.i64 (0)), (.slice none 0 0), (.string ⟨#[]⟩)]) := SlTy.of Tryz.underlying23 (by kernel_rfl) rfl (by decide) rfl
theorem S24 : SlTy Tryz.prog 24 123 2 16 (.agg #[(.int IntKind.i64 (0)), (.int IntKind.i64 (0))]) := SlTy.of Tryz.underlying24 (by kernel_rfl) rfl (by decide) rfl
theorem S29 : SlTy Tryz.prog 29 45 2 48 (.agg #[(.slice none 0 0), (.slice none 0 0)]) := SlTy.of Tryz.underlying29 (by kernel_rfl) rfl (by decide) rfl
theorem S30 : SlTy Tryz.prog 30 110 3 32 (.agg #[(.string ⟨#[]⟩), (.int IntKind.i64 (0)), (.int IntKind.i64 (0))]) := SlTy.of Tryz.underlying30 (by kernel_rfl) rfl (by decide) rfl
theorem S33 : SlTy Tryz.prog 33 3 1 8 (.int IntKind.i64 (0)) := SlTy.of Tryz.underlying33 (by kernel_rfl) rfl (by decide) rfl
theorem S38 : SlTy Tryz.prog 38 63 4 32 (.agg #[(.int IntKind.i64 (0)), (.int IntKind.i64 (0)), (.int IntKind.i64 (0)), (.bool false)]) := SlTy.of Tryz.underlying38 (by kernel_rfl) rfl (by decide) rfl
theorem Z0 : gdOf Tryz.prog 0 = some [.int .i64 4352, .int .i64 4370, .int .i64 4449, .int .i64 4469, .int .i64 4520, .int .i64 4546, .int .i64 44032, .int .i64 55203] := by kernel_rfl
set_option maxRecDepth 10000 in
theorem E123 : EqTy Tryz.prog 123 eRange := EqTy.of (vals := fun (x : Range) => [.int IntKind.i64 x.Lo, .int IntKind.i64 x.Hi]) (cs := fun (a b : Range) => [decide (a.Lo = b.Lo), decide (a.Hi = b.Hi)]) Tryz.underlying123 (by kernel_rfl) (by kernel_rfl) (fun _ => rfl) (fun a b w => (eqs_int (d := 9998) rfl O3 (eqs_int (d := 9998) rfl O3 eqs_nil Tryz.underlying3 rfl rfl) Tryz.underlying3 rfl rfl)) (fun a b => by cases a; cases b; simp)
theorem E132 : EqTy Tryz.prog 132 eA3Int := EqTy.ofA (vals := fun (x : A3Int) => [.int IntKind.i64 x.x0, .int IntKind.i64 x.x1, .int IntKind.i64 x.x2]) (cs := fun (a b : A3Int) => [decide (a.x0 = b.x0), decide (a.x1 = b.x1), decide (a.x2 = b.x2)]) A132 O3 (by kernel_rfl) (fun _ => rfl) (fun a b w => (Pw.cons ⟨_, _, rfl, rfl, Go.AV.run_equalIn_int Tryz.underlying3 _ _ _ _⟩ (Pw.cons ⟨_, _, rfl, rfl, Go.AV.run_equalIn_int Tryz.underlying3 _ _ _ _⟩ (Pw.cons ⟨_, _, rfl, rfl, Go.AV.run_equalIn_int Tryz.underlying3 _ _ _ _⟩ Pw.nil)))) (fun a b => by cases a; cases b; simp)
set_option maxRecDepth 10000 in
theorem E137 : EqTy Tryz.prog 137 eMapping_key := EqTy.of (vals := fun (x : Mapping_key) => [.int IntKind.i64 x.from_, .string ⟨x.tag.toArray⟩]) (cs := fun (a b : Mapping_key) => [decide (a.from_ = b.from_), decide (a.tag = b.tag)]) Tryz.underlying137 (by kernel_rfl) (by kernel_rfl) (fun _ => rfl) (fun a b w => (eqs_int (d := 9998) rfl O3 (eqs_str (d := 9998) rfl O9 eqs_nil Tryz.underlying9 rfl rfl) Tryz.underlying3 rfl rfl)) (fun a b => by cases a; cases b; simp)
set_option maxRecDepth 10000 in
theorem E63 : EqTy Tryz.prog 63 eElement := EqTy.of (vals := fun (x : Element) => [.int IntKind.i64 x.Primary, .int IntKind.i64 x.Secondary, .int IntKind.i64 x.Tertiary, .bool x.Variable]) (cs := fun (a b : Element) => [decide (a.Primary = b.Primary), decide (a.Secondary = b.Secondary), decide (a.Tertiary = b.Tertiary), decide (a.Variable = b.Variable)]) Tryz.underlying63 (by kernel_rfl) (by kernel_rfl) (fun _ => rfl) (fun a b w => (eqs_int (d := 9998) rfl O3 (eqs_int (d := 9998) rfl O3 (eqs_int (d := 9998) rfl O3 (eqs_bool (d := 9998) rfl O4 eqs_nil Tryz.underlying4 rfl rfl) Tryz.underlying3 rfl rfl) Tryz.underlying3 rfl rfl) Tryz.underlying3 rfl rfl)) (fun a b => by cases a; cases b; simp)
theorem E92 : EqTy Tryz.prog 92 eA9Int := EqTy.ofA (vals := fun (x : A9Int) => [.int IntKind.i64 x.x0, .int IntKind.i64 x.x1, .int IntKind.i64 x.x2, .int IntKind.i64 x.x3, .int IntKind.i64 x.x4, .int IntKind.i64 x.x5, .int IntKind.i64 x.x6, .int IntKind.i64 x.x7, .int IntKind.i64 x.x8]) (cs := fun (a b : A9Int) => [decide (a.x0 = b.x0), decide (a.x1 = b.x1), decide (a.x2 = b.x2), decide (a.x3 = b.x3), decide (a.x4 = b.x4), decide (a.x5 = b.x5), decide (a.x6 = b.x6), decide (a.x7 = b.x7), decide (a.x8 = b.x8)]) A92 O3 (by kernel_rfl) (fun _ => rfl) (fun a b w => (Pw.cons ⟨_, _, rfl, rfl, Go.AV.run_equalIn_int Tryz.underlying3 _ _ _ _⟩ (Pw.cons ⟨_, _, rfl, rfl, Go.AV.run_equalIn_int Tryz.underlying3 _ _ _ _⟩ (Pw.cons ⟨_, _, rfl, rfl, Go.AV.run_equalIn_int Tryz.underlying3 _ _ _ _⟩ (Pw.cons ⟨_, _, rfl, rfl, Go.AV.run_equalIn_int Tryz.underlying3 _ _ _ _⟩ (Pw.cons ⟨_, _, rfl, rfl, Go.AV.run_equalIn_int Tryz.underlying3 _ _ _ _⟩ (Pw.cons ⟨_, _, rfl, rfl, Go.AV.run_equalIn_int Tryz.underlying3 _ _ _ _⟩ (Pw.cons ⟨_, _, rfl, rfl, Go.AV.run_equalIn_int Tryz.underlying3 _ _ _ _⟩ (Pw.cons ⟨_, _, rfl, rfl, Go.AV.run_equalIn_int Tryz.underlying3 _ _ _ _⟩ (Pw.cons ⟨_, _, rfl, rfl, Go.AV.run_equalIn_int Tryz.underlying3 _ _ _ _⟩ Pw.nil)))))))))) (fun a b => by cases a; cases b; simp)
theorem K137 : KeyTy Tryz.prog 137 kMapping_key := keyAgg (vals := fun (x : Mapping_key) => [.int IntKind.i64 x.from_, .string ⟨x.tag.toArray⟩]) Tryz.underlying137 E137 (fun _ => rfl) (fun _ => rfl) (fun _ => rfl) (fun _ => by simp [Instr.sameBits, ba_beq]) (fun a b w => check_str' Tryz.underlying137 (List.forall_mem_cons.2 ⟨⟨O3, ⟨_, Tryz.underlying3, rfl⟩, lq rfl⟩, (List.forall_mem_cons.2 ⟨⟨O9, ⟨_, Tryz.underlying9, rfl⟩, lq rfl⟩, (fun _ h => by cases h)⟩)⟩) b w)
theorem K92 : KeyTy Tryz.prog 92 kA9Int := keyAgg (vals := fun (x : A9Int) => [.int IntKind.i64 x.x0, .int IntKind.i64 x.x1, .int IntKind.i64 x.x2, .int IntKind.i64 x.x3, .int IntKind.i64 x.x4, .int IntKind.i64 x.x5, .int IntKind.i64 x.x6, .int IntKind.i64 x.x7, .int IntKind.i64 x.x8]) Tryz.underlying92 E92 (fun _ => rfl) (fun _ => rfl) (fun _ => rfl) (fun _ => by simp [Instr.sameBits, ba_beq]) (fun a b w => check_arr A92 O3 Tryz.underlying3 rfl rfl b w)
theorem MX : Tryz.prog.follows .mixedOrders = true := by kernel_rfl
section
variable {P : Program} {r : Option Nat} {E : Env} {S S' : AState} {ops : Array Oper} {o : Oper} {rest : List Oper} {J : AState → Prop} {d j t : Nat} {x : AV} {b : Bool}
theorem q0 (k : Sq P r E ops rest (S.put d x) J) (h : AOp P r E S o d x := by exact a_move_d (lq rfl) rfl) (hg : o.guard = none := by rfl) : Sq P r E ops (o :: rest) S J := sqa h k hg
theorem q1 (k : Sq P r E ops rest (S.put d x) J) (h : AOp P r E S o d x := by exact a_assign_d (lq rfl) rfl) (hg : o.guard = none := by rfl) : Sq P r E ops (o :: rest) S J := sqa h k hg
theorem q2 (k : Sq P r E ops rest (S.put d x) J) (h : AOp P r E S o d x := by exact m_add (lq rfl) rfl rfl) (hg : o.guard = none := by rfl) : Sq P r E ops (o :: rest) S J := sqa h k hg
theorem q3 (k : Sq P r E ops rest (S.put d x) J) (h : AOp P r E S o d x := by exact a_lss (lq rfl) rfl rfl) (hg : o.guard = none := by rfl) : Sq P r E ops (o :: rest) S J := sqa h k hg
theorem q4 (k : DA P r E ops rest (S.put d x) J) (h : AOp P r E S o d x := by exact a_move_d (lq rfl) rfl) (hg : o.guard = none := by rfl) : DA P r E ops (o :: rest) S J := daa h k hg
theorem q5 {F0 : Prop} (f0 : F0) (k : Sq P r E ops rest (S.put d x) J) (h : F0 → AOp P r E S o d x := by exact fun f0 => m_len (lq rfl) f0 rfl) (hg : o.guard = none := by rfl) : Sq P r E ops (o :: rest) S J := sqa (h f0) k hg
theorem q6 {F0 : Prop} (f0 : F0) (k : Sq P r E ops rest (S.put d x) J) (h : F0 → AOp P r E S o d x := by exact fun f0 => a_call (lq rfl) rfl f0) (hg : o.guard = none := by rfl) : Sq P r E ops (o :: rest) S J := sqa (h f0) k hg
theorem q7 {F0 : Prop} (f0 : F0) (k : Sq P r E ops rest (S.put d x) J) (h : F0 → AOp P r E S o d x := by exact fun f0 => m_fieldPt (lq rfl) f0 rfl) (hg : o.guard = none := by rfl) : Sq P r E ops (o :: rest) S J := sqa (h f0) k hg
theorem q8 {F0 : Prop} (f0 : F0) (k : Sq P r E ops rest (S.put d x) J) (h : F0 → AOp P r E S o d x := by exact fun f0 => a_load_ip (lq rfl) f0 rfl rfl) (hg : o.guard = none := by rfl) : Sq P r E ops (o :: rest) S J := sqa (h f0) k hg
theorem q9 (k : Sq P r E ops rest (S.put d x) J) (h : AOp P r E S o d x := by exact a_move_row (lq rfl) rfl) (hg : o.guard = none := by rfl) : Sq P r E ops (o :: rest) S J := sqa h k hg
theorem q10 (x : AV) (k : Sq P r E ops rest (S.put d (.cond (gd true b) x)) J) (ha : GdO o ops S E j t d b true := by exact rfl) (h : b = true → AOp P r E S o d x := by exact fun hb => by subst hb; exact a_move_d (lq rfl) rfl) : Sq P r E ops (o :: rest) S J := sqt x ha h k
theorem q11 {F0 : Prop} (f0 : F0) {F1 : Prop} (f1 : F1) (k : Sq P r E ops rest (S.put d x) J) (h : F0 → F1 → AOp P r E S o d x := by exact fun f0 f1 => m_index (lq rfl) f0 rfl rfl f1) (hg : o.guard = none := by rfl) : Sq P r E ops (o :: rest) S J := sqa (h f0 f1) k hg
theorem q12 (k : Sq P r E ops rest (S.put d x) J) (h : AOp P r E S o d x := by exact a_pick_and (lq rfl) rfl rfl) (hg : o.guard = none := by rfl) : Sq P r E ops (o :: rest) S J := sqa h k hg
theorem q13 (k : Sq P r E ops rest (S.put d x) J) (h : AOp P r E S o d x := by exact a_assign_row (lq rfl) rfl) (hg : o.guard = none := by rfl) : Sq P r E ops (o :: rest) S J := sqa h k hg
theorem q14 {F0 : Prop} (f0 : F0) (k : Sq P r E ops rest S' J) (h : F0 → Step P r E o S S' := by exact fun f0 => s_store_boxA f0 rfl rfl rfl rfl rfl rfl) (hg : o.guard = none := by rfl) : Sq P r E ops (o :: rest) S J := sq_b hg (h f0) k
theorem q15 (k : Sq P r E ops rest (S.put d x) J) (h : AOp P r E S o d x := by exact a_pick_or (lq rfl) rfl rfl) (hg : o.guard = none := by rfl) : Sq P r E ops (o :: rest) S J := sqa h k hg
theorem q16 {F0 : Prop} (f0 : F0) (k : Sq P r E ops rest (S.put d x) J) (h : F0 → AOp P r E S o d x := by exact fun f0 => m_loadPt (lq rfl) f0 rfl rfl) (hg : o.guard = none := by rfl) : Sq P r E ops (o :: rest) S J := sqa (h f0) k hg
theorem q17 {F0 : Prop} (f0 : F0) {F1 : Prop} (f1 : F1) (k : DA P r E ops rest (S.put d x) J) (h : F0 → F1 → AOp P r E S o d x := by exact fun f0 f1 => m_index (lq rfl) f0 rfl rfl f1) (hg : o.guard = none := by rfl) : DA P r E ops (o :: rest) S J := daa (h f0 f1) k hg
theorem q18 (k : Sq P r E ops rest (S.put d x) J) (h : AOp P r E S o d x := by exact a_extract (lq rfl) rfl rfl) (hg : o.guard = none := by rfl) : Sq P r E ops (o :: rest) S J := sqa h k hg
theorem q19 {F0 : Prop} (f0 : F0) (k : DA P r E ops rest (S.put d x) J) (h : F0 → AOp P r E S o d x := by exact fun f0 => m_fieldPt (lq rfl) f0 rfl) (hg : o.guard = none := by rfl) : DA P r E ops (o :: rest) S J := daa (h f0) k hg
theorem q20 {F0 : Prop} (f0 : F0) (k : DA P r E ops rest (S.put d x) J) (h : F0 → AOp P r E S o d x := by exact fun f0 => a_call (lq rfl) rfl f0) (hg : o.guard = none := by rfl) : DA P r E ops (o :: rest) S J := daa (h f0) k hg
theorem q21 {F0 : Prop} (f0 : F0) (k : DA P r E ops rest (S.put d x) J) (h : F0 → AOp P r E S o d x := by exact fun f0 => a_load_ip (lq rfl) f0 rfl rfl) (hg : o.guard = none := by rfl) : DA P r E ops (o :: rest) S J := daa (h f0) k hg
theorem q22 (k : Sq P r E ops rest (S.put d x) J) (h : AOp P r E S o d x := by exact a_not (lq rfl) rfl) (hg : o.guard = none := by rfl) : Sq P r E ops (o :: rest) S J := sqa h k hg
theorem q23 (x : AV) {F0 : Prop} (f0 : F0) (k : Sq P r E ops rest (S.put d (.cond (gd false b) x)) J) (ha : GdO o ops S E j t d b false := by exact rfl) (h : F0 → b = false → AOp P r E S o d x := by exact fun f0 hb => by subst hb; exact m_fieldPt (lq rfl) f0 rfl) : Sq P r E ops (o :: rest) S J := sqf x ha (h f0) k
theorem q24 (x : AV) {F0 : Prop} (f0 : F0) (k : Sq P r E ops rest (S.put d (.cond (gd false b) x)) J) (ha : GdO o ops S E j t d b false := by exact rfl) (h : F0 → b = false → AOp P r E S o d x := by exact fun f0 hb => by subst hb; exact a_load_ip (lq rfl) f0 rfl rfl) : Sq P r E ops (o :: rest) S J := sqf x ha (h f0) k
theorem q25 (k : Sq P r E ops rest (S.put d x) J) (h : AOp P r E S o d x := by exact m_sub (lq rfl) rfl rfl) (hg : o.guard = none := by rfl) : Sq P r E ops (o :: rest) S J := sqa h k hg
theorem q26 (k : DA P r E ops rest (S.put d x) J) (h : AOp P r E S o d x := by exact a_assign_d (lq rfl) rfl) (hg : o.guard = none := by rfl) : DA P r E ops (o :: rest) S J := daa h k hg
theorem q27 (k : Sq P r E ops rest (S.put d x) J) (h : AOp P r E S o d x := by exact a_neq (lq rfl) rfl rfl) (hg : o.guard = none := by rfl) : Sq P r E ops (o :: rest) S J := sqa h k hg
theorem q28 (k : Sq P r E ops rest (S.put d x) J) (h : AOp P r E S o d x := by exact m_box (size := 3) (lq rfl) rfl rfl) (hg : o.guard = none := by rfl) : Sq P r E ops (o :: rest) S J := sqa h k hg
theorem q29 {F0 : Prop} (f0 : F0) {F1 : Prop} (f1 : F1) (k : Sq P r E ops rest (S.put d x) J) (h : F0 → F1 → AOp P r E S o d x := by exact fun f0 f1 => m_loadE (en := eI) (off := 0) (lq rfl) f0 rfl f1 rfl) (hg : o.guard = none := by rfl) : Sq P r E ops (o :: rest) S J := sqa (h f0 f1) k hg
theorem q30 (k : Sq P r E ops rest (S.put d x) J) (h : AOp P r E S o d x := by exact a_geq (lq rfl) rfl rfl) (hg : o.guard = none := by rfl) : Sq P r E ops (o :: rest) S J := sqa h k hg
theorem q31 {F0 : Prop} (f0 : F0) (k : Sq P r E ops rest (S.put d x) J) (h : F0 → AOp P r E S o d x := by exact fun f0 => a_lit (lq rfl) f0 rfl rfl rfl rfl (by decide) rfl) (hg : o.guard = none := by rfl) : Sq P r E ops (o :: rest) S J := sqa (h f0) k hg
theorem q32 (x : AV) (k : Sq P r E ops rest (S.put d (.cond (gd false b) x)) J) (ha : GdO o ops S E j t d b false := by exact rfl) (h : b = false → AOp P r E S o d x := by exact fun hb => by subst hb; exact a_move_d (lq rfl) rfl) : Sq P r E ops (o :: rest) S J := sqf x ha h k
theorem q33 {F0 : Prop} (f0 : F0) (k : Sq P r E ops rest (S.put d x) J) (h : F0 → AOp P r E S o d x := by exact fun f0 => a_load_box (lq rfl) f0 rfl rfl rfl) (hg : o.guard = none := by rfl) : Sq P r E ops (o :: rest) S J := sqa (h f0) k hg
theorem q34 {F0 : Prop} (f0 : F0) (k : Sq P r E ops rest (S.put d x) J) (h : F0 → AOp P r E S o d x := by exact fun f0 => a_fieldAddr_ip (lq rfl) f0 rfl) (hg : o.guard = none := by rfl) : Sq P r E ops (o :: rest) S J := sqa (h f0) k hg
theorem q35 {F0 : Prop} (f0 : F0) (k : DA P r E ops rest (S.put d x) J) (h : F0 → AOp P r E S o d x := by exact fun f0 => a_fieldAddr_ip (lq rfl) f0 rfl) (hg : o.guard = none := by rfl) : DA P r E ops (o :: rest) S J := daa (h f0) k hg
theorem q36 (x : AV) (k : DA P r E ops rest (S.put d (.cond (gd false b) x)) J) (ha : GdO o ops S E j t d b false := by exact rfl) (h : b = false → AOp P r E S o d x := by exact fun hb => by subst hb; exact a_move_d (lq rfl) rfl) : DA P r E ops (o :: rest) S J := daf x ha h k
theorem q37 (k : Sq P r E ops rest (S.put d x) J) (h : AOp P r E S o d x := by exact a_gtr (lq rfl) rfl rfl) (hg : o.guard = none := by rfl) : Sq P r E ops (o :: rest) S J := sqa h k hg
theorem q38 (x : AV) (k : DA P r E ops rest (S.put d (.cond (gd true b) x)) J) (ha : GdO o ops S E j t d b true := by exact rfl) (h : b = true → AOp P r E S o d x := by exact fun hb => by subst hb; exact a_move_d (lq rfl) rfl) : DA P r E ops (o :: rest) S J := dat x ha h k
theorem q39 (k : Sq P r E ops rest (S.put d x) J) (h : AOp P r E S o d x := by exact a_eql (lq rfl) rfl rfl) (hg : o.guard = none := by rfl) : Sq P r E ops (o :: rest) S J := sqa h k hg
theorem q40 (x : AV) {F0 : Prop} (f0 : F0) (k : DA P r E ops rest (S.put d (.cond (gd true b) x)) J) (ha : GdO o ops S E j t d b true := by exact rfl) (h : F0 → b = true → AOp P r E S o d x := by exact fun f0 hb => by subst hb; exact m_fieldPt (lq rfl) f0 rfl) : DA P r E ops (o :: rest) S J := dat x ha (h f0) k
theorem q41 (k : Sq P r E ops rest (S.put d x) J) (h : AOp P r E S o d x := by exact m_box (size := 5) (lq rfl) rfl rfl) (hg : o.guard = none := by rfl) : Sq P r E ops (o :: rest) S J := sqa h k hg
theorem q42 (x : AV) (k : Sq P r E ops rest (S.put d (.cond (gd true b) x)) J) (ha : GdO o ops S E j t d b true := by exact rfl) (h : b = true → AOp P r E S o d x := by exact fun hb => by subst hb; exact a_leq (lq rfl) rfl rfl) : Sq P r E ops (o :: rest) S J := sqt x ha h k
theorem q43 (k : Sq P r E ops rest (S.put d x) J) (h : AOp P r E S o d x := by exact a_move_tup (lq rfl) rfl) (hg : o.guard = none := by rfl) : Sq P r E ops (o :: rest) S J := sqa h k hg
theorem q44 {F0 : Prop} (f0 : F0) (k : Sq P r E ops rest (S.put d x) J) (h : F0 → AOp P r E S o d x := by exact fun f0 => m_build (lq rfl) f0 rfl rfl) (hg : o.guard = none := by rfl) : Sq P r E ops (o :: rest) S J := sqa (h f0) k hg
theorem q45 {F0 : Prop} (f0 : F0) {F1 : Prop} (f1 : F1) (k : Sq P r E ops rest (S.put d x) J) (h : F0 → F1 → AOp P r E S o d x := by exact fun f0 f1 => m_conv (lq rfl) f0 f1 rfl) (hg : o.guard = none := by rfl) : Sq P r E ops (o :: rest) S J := sqa (h f0 f1) k hg
theorem q46 (x : AV) (k : Sq P r E ops rest (S.put d (.cond (gd false b) x)) J) (ha : GdO o ops S E j t d b false := by exact rfl) (h : b = false → AOp P r E S o d x := by exact fun hb => by subst hb; exact a_gtr (lq rfl) rfl rfl) : Sq P r E ops (o :: rest) S J := sqf x ha h k
theorem q47 (x : AV) {F0 : Prop} (f0 : F0) (k : Sq P r E ops rest (S.put d (.cond (gd true b) x)) J) (ha : GdO o ops S E j t d b true := by exact rfl) (h : F0 → b = true → AOp P r E S o d x := by exact fun f0 hb => by subst hb; exact m_fieldPt (lq rfl) f0 rfl) : Sq P r E ops (o :: rest) S J := sqt x ha (h f0) k
theorem q48 (k : Sq P r E ops rest (S.put d x) J) (h : AOp P r E S o d x := by exact m_box (size := 1) (lq rfl) rfl rfl) (hg : o.guard = none := by rfl) : Sq P r E ops (o :: rest) S J := sqa h k hg
theorem q49 (x : AV) {F0 : Prop} (f0 : F0) (k : Sq P r E ops rest (S.put d (.cond (gd true b) x)) J) (ha : GdO o ops S E j t d b true := by exact rfl) (h : F0 → b = true → AOp P r E S o d x := by exact fun f0 hb => by subst hb; exact a_load_ip (lq rfl) f0 rfl rfl) : Sq P r E ops (o :: rest) S J := sqt x ha (h f0) k
theorem q50 (k : DA P r E ops rest (S.put d x) J) (h : AOp P r E S o d x := by exact a_pick_and (lq rfl) rfl rfl) (hg : o.guard = none := by rfl) : DA P r E ops (o :: rest) S J := daa h k hg
theorem q51 {F0 : Prop} (f0 : F0) {F1 : Prop} (f1 : F1) (k : DA P r E ops rest (S.put d x) J) (h : F0 → F1 → AOp P r E S o d x := by exact fun f0 f1 => m_loadE (en := eI) (off := 0) (lq rfl) f0 rfl f1 rfl) (hg : o.guard = none := by rfl) : DA P r E ops (o :: rest) S J := daa (h f0 f1) k hg
theorem q52 {F0 : Prop} (f0 : F0) (k : DA P r E ops rest (S.put d x) J) (h : F0 → AOp P r E S o d x := by exact fun f0 => m_loadPt (lq rfl) f0 rfl rfl) (hg : o.guard = none := by rfl) : DA P r E ops (o :: rest) S J := daa (h f0) k hg
theorem q53 (k : Sq P r E ops rest (S.put d x) J) (h : AOp P r E S o d x := by exact a_leq (lq rfl) rfl rfl) (hg : o.guard = none := by rfl) : Sq P r E ops (o :: rest) S J := sqa h k hg
theorem q54 (x : AV) (k : Sq P r E ops rest (S.put d (.cond (gd true b) x)) J) (ha : GdO o ops S E j t d b true := by exact rfl) (h : b = true → AOp P r E S o d x := by exact fun hb => by subst hb; exact a_lss (lq rfl) rfl rfl) : Sq P r E ops (o :: rest) S J := sqt x ha h k
theorem q55 (x : AV) {F0 : Prop} (f0 : F0) (k : DA P r E ops rest (S.put d (.cond (gd true b) x)) J) (ha : GdO o ops S E j t d b true := by exact rfl) (h : F0 → b = true → AOp P r E S o d x := by exact fun f0 hb => by subst hb; exact a_load_ip (lq rfl) f0 rfl rfl) : DA P r E ops (o :: rest) S J := dat x ha (h f0) k
theorem q56 {F0 : Prop} (f0 : F0) (k : Sq P r E ops rest (S.put d x) J) (h : F0 → AOp P r E S o d x := by exact fun f0 => a_fieldAddr_ptr (lq rfl) f0 rfl) (hg : o.guard = none := by rfl) : Sq P r E ops (o :: rest) S J := sqa (h f0) k hg
theorem q57 {F0 : Prop} (f0 : F0) {F1 : Prop} (f1 : F1) (k : Sq P r E ops rest (S.put d x) J) (h : F0 → F1 → AOp P r E S o d x := by exact fun f0 f1 => m_indexR (lq rfl) f0 rfl rfl rfl f1) (hg : o.guard = none := by rfl) : Sq P r E ops (o :: rest) S J := sqa (h f0 f1) k hg
theorem q58 (k : DA P r E ops rest (S.put d x) J) (h : AOp P r E S o d x := by exact a_move_row (lq rfl) rfl) (hg : o.guard = none := by rfl) : DA P r E ops (o :: rest) S J := daa h k hg
theorem q59 (x : AV) {F0 : Prop} (f0 : F0) {F1 : Prop} (f1 : F1) (k : DA P r E ops rest (S.put d (.cond (gd false b) x)) J) (ha : GdO o ops S E j t d b false := by exact rfl) (h : F0 → F1 → b = false → AOp P r E S o d x := by exact fun f0 f1 hb => by subst hb; exact m_index (lq rfl) f0 rfl rfl f1) : DA P r E ops (o :: rest) S J := daf x ha (h f0 f1) k
theorem q60 (x : AV) {F0 : Prop} (f0 : F0) (k : DA P r E ops rest (S.put d (.cond (gd false b) x)) J) (ha : GdO o ops S E j t d b false := by exact rfl) (h : F0 → b = false → AOp P r E S o d x := by exact fun f0 hb => by subst hb; exact a_fieldAddr_ip (lq rfl) f0 rfl) : DA P r E ops (o :: rest) S J := daf x ha (h f0) k
theorem q61 {F0 : Prop} (f0 : F0) (k : Sq P r E ops rest S' J) (h : F0 → Step P r E o S S' := by exact fun f0 => step_buildSlice (lq rfl) f0 rfl rfl rfl rfl (by decide) rfl) (hg : o.guard = none := by rfl) : Sq P r E ops (o :: rest) S J := sq_b hg (h f0) k
theorem q62 (x : AV) (k : Sq P r E ops rest (S.put d (.cond (gd false b) x)) J) (ha : GdO o ops S E j t d b false := by exact rfl) (h : b = false → AOp P r E S o d x := by exact fun hb => by subst hb; exact a_pick_and (lq rfl) rfl rfl) : Sq P r E ops (o :: rest) S J := sqf x ha h k
theorem q63 (k : Sq P r E ops rest (S.put d x) J) (h : AOp P r E S o d x := by exact a_shr (lq rfl) rfl rfl (by decide)) (hg : o.guard = none := by rfl) : Sq P r E ops (o :: rest) S J := sqa h k hg
theorem q64 (x : AV) {F0 : Prop} (f0 : F0) {F1 : Prop} (f1 : F1) (k : Sq P r E ops rest (S.put d (.cond (gd true b) x)) J) (ha : GdO o ops S E j t d b true := by exact rfl) (h : F0 → F1 → b = true → AOp P r E S o d x := by exact fun f0 f1 hb => by subst hb; exact m_index (lq rfl) f0 rfl rfl f1) : Sq P r E ops (o :: rest) S J := sqt x ha (h f0 f1) k
theorem q65 {F0 : Prop} (f0 : F0) {F1 : Prop} (f1 : F1) (k : Sq P r E ops rest (S.put d x) J) (h : F0 → F1 → AOp P r E S o d x := by exact fun f0 f1 => m_loadE (en := eMapping) (off := 1) (lq rfl) f0 rfl f1 rfl) (hg : o.guard = none := by rfl) : Sq P r E ops (o :: rest) S J := sqa (h f0 f1) k hg
theorem q66 {F0 : Prop} (f0 : F0) {F1 : Prop} (f1 : F1) (k : Sq P r E ops rest (S.put d x) J) (h : F0 → F1 → AOp P r E S o d x := by exact fun f0 f1 => m_loadEA (en := eMapping) (off := 0) (lq rfl) f0 rfl f1 rfl rfl (by decide)) (hg : o.guard = none := by rfl) : Sq P r E ops (o :: rest) S J := sqa (h f0 f1) k hg
theorem q67 {F0 : Prop} (f0 : F0) (k : Sq P r E ops rest (S.put d x) J) (h : F0 → AOp P r E S o d x := by exact fun f0 => m_rem (lq rfl) rfl rfl f0) (hg : o.guard = none := by rfl) : Sq P r E ops (o :: rest) S J := sqa (h f0) k hg
theorem q68 (k : DA P r E ops rest (S.put d x) J) (h : AOp P r E S o d x := by exact a_extract (lq rfl) rfl rfl) (hg : o.guard = none := by rfl) : DA P r E ops (o :: rest) S J := daa h k hg
theorem q69 (x : AV) {F0 : Prop} (f0 : F0) (k : Sq P r E ops rest (S.put d (.cond (gd false b) x)) J) (ha : GdO o ops S E j t d b false := by exact rfl) (h : F0 → b = false → AOp P r E S o d x := by exact fun f0 hb => by subst hb; exact m_len (lq rfl) f0 rfl) : Sq P r E ops (o :: rest) S J := sqf x ha (h f0) k
theorem q70 {F0 : Prop} (f0 : F0) (k : Sq P r E ops rest (S.put d x) J) (h : F0 → AOp P r E S o d x := by exact fun f0 => a_load_ipA (lq rfl) f0 rfl rfl rfl) (hg : o.guard = none := by rfl) : Sq P r E ops (o :: rest) S J := sqa (h f0) k hg
theorem q71 (x : AV) {F0 : Prop} (f0 : F0) {F1 : Prop} (f1 : F1) (k : DA P r E ops rest (S.put d (.cond (gd true b) x)) J) (ha : GdO o ops S E j t d b true := by exact rfl) (h : F0 → F1 → b = true → AOp P r E S o d x := by exact fun f0 f1 hb => by subst hb; exact m_index (lq rfl) f0 rfl rfl f1) : DA P r E ops (o :: rest) S J := dat x ha (h f0 f1) k
theorem q72 (x : AV) {F0 : Prop} (f0 : F0) (k : DA P r E ops rest (S.put d (.cond (gd true b) x)) J) (ha : GdO o ops S E j t d b true := by exact rfl) (h : F0 → b = true → AOp P r E S o d x := by exact fun f0 hb => by subst hb; exact a_fieldAddr_ip (lq rfl) f0 rfl) : DA P r E ops (o :: rest) S J := dat x ha (h f0) k
theorem q73 {F0 : Prop} (f0 : F0) (k : DA P r E ops rest (S.put d x) J) (h : F0 → AOp P r E S o d x := by exact fun f0 => a_fieldAddr_ptr (lq rfl) f0 rfl) (hg : o.guard = none := by rfl) : DA P r E ops (o :: rest) S J := daa (h f0) k hg
theorem q74 (k : DA P r E ops rest (S.put d x) J) (h : AOp P r E S o d x := by exact m_sub (lq rfl) rfl rfl) (hg : o.guard = none := by rfl) : DA P r E ops (o :: rest) S J := daa h k hg
theorem q75 (k : Sq P r E ops rest (S.put d x) J) (h : AOp P r E S o d x := by exact a_extractC (lq rfl) rfl rfl) (hg : o.guard = none := by rfl) : Sq P r E ops (o :: rest) S J := sqa h k hg
theorem q76 (k : DA P r E ops rest (S.put d x) J) (h : AOp P r E S o d x := by exact a_pick_or (lq rfl) rfl rfl) (hg : o.guard = none := by rfl) : DA P r E ops (o :: rest) S J := daa h k hg
theorem q78 (x : AV) (k : Sq P r E ops rest (S.put d (.cond (gd false b) x)) J) (ha : GdO o ops S E j t d b false := by exact rfl) (h : b = false → AOp P r E S o d x := by exact fun hb => by subst hb; exact a_geq (lq rfl) rfl rfl) : Sq P r E ops (o :: rest) S J := sqf x ha h k
theorem q79 (x : AV) (k : Sq P r E ops rest (S.put d (.cond (gd false b) x)) J) (ha : GdO o ops S E j t d b false := by exact rfl) (h : b = false → AOp P r E S o d x := by exact fun hb => by subst hb; exact a_eql (lq rfl) rfl rfl) : Sq P r E ops (o :: rest) S J := sqf x ha h k
theorem q80 (k : DA P r E ops rest (S.put d x) J) (h : AOp P r E S o d x := by exact a_gtr (lq rfl) rfl rfl) (hg : o.guard = none := by rfl) : DA P r E ops (o :: rest) S J := daa h k hg
theorem q81 (x : AV) (k : Sq P r E ops rest (S.put d (.cond (gd true b) x)) J) (ha : GdO o ops S E j t d b true := by exact rfl) (h : b = true → AOp P r E S o d x := by exact fun hb => by subst hb; exact a_eql (lq rfl) rfl rfl) : Sq P r E ops (o :: rest) S J := sqt x ha h k
theorem q82 {F0 : Prop} (f0 : F0) (k : Sq P r E ops rest S' J) (h : F0 → Step P r E o S S' := by exact fun f0 => s_store_box_d f0 rfl rfl (lq rfl) rfl rfl rfl) (hg : o.guard = none := by rfl) : Sq P r E ops (o :: rest) S J := sq_b hg (h f0) k
theorem q83 (k : Sq P r E ops rest S' J) (h : Step P r E o S S' := by exact step_alloc (zs := [(.int IntKind.i64 (0)), (.int IntKind.i64 (0))]) (lq rfl) (by kernel_rfl) rfl rfl) (hg : o.guard = none := by rfl) : Sq P r E ops (o :: rest) S J := sq_b hg h k
theorem q84 (x : AV) (k : Sq P r E ops rest (S.put d (.cond (gd true b) x)) J) (ha : GdO o ops S E j t d b true := by exact rfl) (h : b = true → AOp P r E S o d x := by exact fun hb => by subst hb; exact a_not (lq rfl) rfl) : Sq P r E ops (o :: rest) S J := sqt x ha h k
theorem q85 (k : Sq P r E ops rest S' J) (h : Step P r E o S S' := by exact step_alloc (zs := [(.int IntKind.i64 (0)), (.slice none 0 0), (.string ⟨#[]⟩)]) (lq rfl) (by kernel_rfl) rfl rfl) (hg : o.guard = none := by rfl) : Sq P r E ops (o :: rest) S J := sq_b hg h k
theorem q86 {F0 : Prop} (f0 : F0) (k : Sq P r E ops rest (S.put d x) J) (h : F0 → AOp P r E S o d x := by exact fun f0 => m_loadPt1 (lq rfl) f0 rfl) (hg : o.guard = none := by rfl) : Sq P r E ops (o :: rest) S J := sqa (h f0) k hg
theorem q87 {F0 : Prop} (f0 : F0) (k : Sq P r E ops rest (S.put d x) J) (h : F0 → AOp P r E S o d x := by exact fun f0 => m_quo (lq rfl) rfl rfl f0) (hg : o.guard = none := by rfl) : Sq P r E ops (o :: rest) S J := sqa (h f0) k hg
theorem q88 (x : AV) {F0 : Prop} (f0 : F0) (k : Sq P r E ops rest (S.put d (.cond (gd true b) x)) J) (ha : GdO o ops S E j t d b true := by exact rfl) (h : F0 → b = true → AOp P r E S o d x := by exact fun f0 hb => by subst hb; exact m_len (lq rfl) f0 rfl) : Sq P r E ops (o :: rest) S J := sqt x ha (h f0) k
theorem q89 (k : Sq P r E ops rest (S.put d x) J) (h : AOp P r E S o d x := by exact m_sneq (lq rfl) rfl rfl) (hg : o.guard = none := by rfl) : Sq P r E ops (o :: rest) S J := sqa h k hg
theorem q90 (x : AV) (k : DA P r E ops rest (S.put d (.cond (gd true b) x)) J) (ha : GdO o ops S E j t d b true := by exact rfl) (h : b = true → AOp P r E S o d x := by exact fun hb => by subst hb; exact m_sub (lq rfl) rfl rfl) : DA P r E ops (o :: rest) S J := dat x ha h k
theorem q91 (x : AV) (k : Sq P r E ops rest (S.put d (.cond (gd false b) x)) J) (ha : GdO o ops S E j t d b false := by exact rfl) (h : b = false → AOp P r E S o d x := by exact fun hb => by subst hb; exact a_not (lq rfl) rfl) : Sq P r E ops (o :: rest) S J := sqf x ha h k
theorem q92 (k : Sq P r E ops rest S' J) (h : Step P r E o S S' := by exact step_alloc (zs := [(.int IntKind.i64 (0)), (.int IntKind.i64 (0)), (.int IntKind.i64 (0))]) (lq rfl) (by kernel_rfl) rfl rfl) (hg : o.guard = none := by rfl) : Sq P r E ops (o :: rest) S J := sq_b hg h k
theorem q93 (k : Sq P r E ops rest S' J) (h : Step P r E o S S' := by exact step_alloc (zs := [(.slice none 0 0)]) (lq rfl) (by kernel_rfl) rfl rfl) (hg : o.guard = none := by rfl) : Sq P r E ops (o :: rest) S J := sq_b hg h k
theorem q94 {F0 : Prop} (f0 : F0) (k : Sq P r E ops rest (S.put d x) J) (h : F0 → AOp P r E S o d x := by exact fun f0 => m_indexPt (lq rfl) f0 rfl rfl (by decide)) (hg : o.guard = none := by rfl) : Sq P r E ops (o :: rest) S J := sqa (h f0) k hg
theorem q95 (k : DA P r E ops rest (S.put d x) J) (h : AOp P r E S o d x := by exact a_nil_pt (lq rfl) rfl) (hg : o.guard = none := by rfl) : DA P r E ops (o :: rest) S J := daa h k hg
theorem q96 (k : DA P r E ops rest (S.put d x) J) (h : AOp P r E S o d x := by exact a_lss (lq rfl) rfl rfl) (hg : o.guard = none := by rfl) : DA P r E ops (o :: rest) S J := daa h k hg
theorem q97 (x : AV) {F0 : Prop} (f0 : F0) (k : Sq P r E ops rest (S.put d (.cond (gd true b) x)) J) (ha : GdO o ops S E j t d b true := by exact rfl) (h : F0 → b = true → AOp P r E S o d x := by exact fun f0 hb => by subst hb; exact a_fieldAddr_ip (lq rfl) f0 rfl) : Sq P r E ops (o :: rest) S J := sqt x ha (h f0) k
theorem q100 (x : AV) {F0 : Prop} (f0 : F0) {F1 : Prop} (f1 : F1) (k : Sq P r E ops rest (S.put d (.cond (gd false b) x)) J) (ha : GdO o ops S E j t d b false := by exact rfl) (h : F0 → F1 → b = false → AOp P r E S o d x := by exact fun f0 f1 hb => by subst hb; exact m_index (lq rfl) f0 rfl rfl f1) : Sq P r E ops (o :: rest) S J := sqf x ha (h f0 f1) k
theorem q101 (k : Sq P r E ops rest S' J) (h : Step P r E o S S' := by exact m_makeMap (lq rfl) rfl) (hg : o.guard = none := by rfl) : Sq P r E ops (o :: rest) S J := sq_b hg h k
theorem q102 {F0 : Prop} (f0 : F0) (k : Sq P r E ops rest (S.put d x) J) (h : F0 → AOp P r E S o d x := by exact fun f0 => m_abuild (lq rfl) f0 rfl rfl) (hg : o.guard = none := by rfl) : Sq P r E ops (o :: rest) S J := sqa (h f0) k hg
theorem q103 (k : Sq P r E ops rest (S.put d x) J) (h : AOp P r E S o d x := by exact a_min (lq rfl) rfl rfl) (hg : o.guard = none := by rfl) : Sq P r E ops (o :: rest) S J := sqa h k hg
theorem q104 (k : DA P r E ops rest (S.put d x) J) (h : AOp P r E S o d x := by exact a_move_ptr (lq rfl) rfl) (hg : o.guard = none := by rfl) : DA P r E ops (o :: rest) S J := daa h k hg
theorem q105 (k : DA P r E ops rest (S.put d x) J) (h : AOp P r E S o d x := by exact a_nil_ptr (lq rfl) rfl) (hg : o.guard = none := by rfl) : DA P r E ops (o :: rest) S J := daa h k hg
theorem q106 (x : AV) (k : Sq P r E ops rest (S.put d (.cond (gd true b) x)) J) (ha : GdO o ops S E j t d b true := by exact rfl) (h : b = true → AOp P r E S o d x := by exact fun hb => by subst hb; exact a_neq (lq rfl) rfl rfl) : Sq P r E ops (o :: rest) S J := sqt x ha h k
theorem q107 (x : AV) (k : DA P r E ops rest (S.put d (.cond (gd true b) x)) J) (ha : GdO o ops S E j t d b true := by exact rfl) (h : b = true → AOp P r E S o d x := by exact fun hb => by subst hb; exact a_move_row (lq rfl) rfl) : DA P r E ops (o :: rest) S J := dat x ha h k
theorem q108 {F0 : Prop} (f0 : F0) (k : Sq P r E ops rest (S.put d x) J) (h : F0 → AOp P r E S o d x := by exact fun f0 => m_lenR (lq rfl) f0 rfl rfl) (hg : o.guard = none := by rfl) : Sq P r E ops (o :: rest) S J := sqa (h f0) k hg
theorem q109 {F0 : Prop} (f0 : F0) (k : Sq P r E ops rest S' J) (h : F0 → Step P r E o S S' := by exact fun f0 => s_store_box_row f0 rfl rfl (lq rfl) rfl rfl rfl) (hg : o.guard = none := by rfl) : Sq P r E ops (o :: rest) S J := sq_b hg (h f0) k
theorem q110 {F0 : Prop} (f0 : F0) {F1 : Prop} (f1 : F1) (k : DA P r E ops rest (S.put d x) J) (h : F0 → F1 → AOp P r E S o d x := by exact fun f0 f1 => m_loadE (en := eMapping) (off := 0) (lq rfl) f0 rfl f1 rfl) (hg : o.guard = none := by rfl) : DA P r E ops (o :: rest) S J := daa (h f0 f1) k hg
theorem q111 (k : DA P r E ops rest (S.put d x) J) (h : AOp P r E S o d x := by exact m_add (lq rfl) rfl rfl) (hg : o.guard = none := by rfl) : DA P r E ops (o :: rest) S J := daa h k hg
theorem q112 {F0 : Prop} (f0 : F0) (k : DA P r E ops rest (S.put d x) J) (h : F0 → AOp P r E S o d x := by exact fun f0 => m_loadPt1 (lq rfl) f0 rfl) (hg : o.guard = none := by rfl) : DA P r E ops (o :: rest) S J := daa (h f0) k hg
theorem q113 {F0 : Prop} (f0 : F0) (k : Sq P r E ops rest (S.put d x) J) (h : F0 → AOp P r E S o d x := by exact fun f0 => m_lenW (lq rfl) f0 rfl rfl) (hg : o.guard = none := by rfl) : Sq P r E ops (o :: rest) S J := sqa (h f0) k hg
theorem q114 (k : Sq P r E ops rest S' J) (h : Step P r E o S S' := by exact step_alloc (zs := [(.slice none 0 0), (.slice none 0 0), (.int IntKind.i64 (0)), (.int IntKind.i64 (0)), (.int IntKind.i64 (0))]) (lq rfl) (by kernel_rfl) rfl rfl) (hg : o.guard = none := by rfl) : Sq P r E ops (o :: rest) S J := sq_b hg h k
theorem q115 (k : DA P r E ops rest (S.put d x) J) (h : AOp P r E S o d x := by exact a_not (lq rfl) rfl) (hg : o.guard = none := by rfl) : DA P r E ops (o :: rest) S J := daa h k hg
theorem q116 (x : AV) {F0 : Prop} (f0 : F0) (k : Sq P r E ops rest (S.put d (.cond (gd false b) x)) J) (ha : GdO o ops S E j t d b false := by exact rfl) (h : F0 → b = false → AOp P r E S o d x := by exact fun f0 hb => by subst hb; exact a_fieldAddr_ip (lq rfl) f0 rfl) : Sq P r E ops (o :: rest) S J := sqf x ha (h f0) k
theorem q117 (k : Sq P r E ops rest (S.put d x) J) (h : AOp P r E S o d x := by exact m_box (size := 9) (lq rfl) rfl rfl) (hg : o.guard = none := by rfl) : Sq P r E ops (o :: rest) S J := sqa h k hg
theorem q118 {F0 : Prop} (f0 : F0) (k : Sq P r E ops rest (S.put d x) J) (h : F0 → AOp P r E S o d x := by exact fun f0 => m_slen (lq rfl) f0 rfl) (hg : o.guard = none := by rfl) : Sq P r E ops (o :: rest) S J := sqa (h f0) k hg
theorem q119 {F0 : Prop} (f0 : F0) {F1 : Prop} (f1 : F1) (k : Sq P r E ops rest (S.put d x) J) (h : F0 → F1 → AOp P r E S o d x := by exact fun f0 f1 => m_sindex (lq rfl) f0 rfl rfl f1) (hg : o.guard = none := by rfl) : Sq P r E ops (o :: rest) S J := sqa (h f0 f1) k hg
theorem q120 {F0 : Prop} (f0 : F0) {F1 : Prop} (f1 : F1) (k : Sq P r E ops rest (S.put d x) J) (h : F0 → F1 → AOp P r E S o d x := by exact fun f0 f1 => m_loadEA (en := eGroup) (off := 0) (lq rfl) f0 rfl f1 rfl rfl (by decide)) (hg : o.guard = none := by rfl) : Sq P r E ops (o :: rest) S J := sqa (h f0 f1) k hg
theorem q121 (k : Sq P r E ops rest S' J) (h : Step P r E o S S' := by exact step_alloc (zs := [(.string ⟨#[]⟩), (.int IntKind.i64 (0)), (.int IntKind.i64 (0))]) (lq rfl) (by kernel_rfl) rfl rfl) (hg : o.guard = none := by rfl) : Sq P r E ops (o :: rest) S J := sq_b hg h k
theorem q122 {F0 : Prop} (f0 : F0) {F1 : Prop} (f1 : F1) (k : Sq P r E ops rest S' J) (h : F0 → F1 → Step P r E o S S' := by exact fun f0 f1 => m_mapUpdate f0 f1 rfl rfl rfl rfl rfl rfl) (hg : o.guard = none := by rfl) : Sq P r E ops (o :: rest) S J := sq_b hg (h f0 f1) k
theorem q123 (x : AV) (k : Sq P r E ops rest (S.put d (.cond (gd true b) x)) J) (ha : GdO o ops S E j t d b true := by exact rfl) (h : b = true → AOp P r E S o d x := by exact fun hb => by subst hb; exact a_pick_or (lq rfl) rfl rfl) : Sq P r E ops (o :: rest) S J := sqt x ha h k
theorem q124 {F0 : Prop} (f0 : F0) (k : DA P r E ops rest (S.put d x) J) (h : F0 → AOp P r E S o d x := by exact fun f0 => a_load_box (lq rfl) f0 rfl rfl rfl) (hg : o.guard = none := by rfl) : DA P r E ops (o :: rest) S J := daa (h f0) k hg
theorem q125 (k : Sq P r E ops rest (S.put d x) J) (h : AOp P r E S o d x := by exact a_move_ptr (lq rfl) rfl) (hg : o.guard = none := by rfl) : Sq P r E ops (o :: rest) S J := sqa h k hg
theorem q126 {F0 : Prop} (f0 : F0) {F1 : Prop} (f1 : F1) (k : Sq P r E ops rest (S.put d x) J) (h : F0 → F1 → AOp P r E S o d x := by exact fun f0 f1 => m_loadEA (en := eSpan) (off := 0) (lq rfl) f0 rfl f1 rfl rfl (by decide)) (hg : o.guard = none := by rfl) : Sq P r E ops (o :: rest) S J := sqa (h f0 f1) k hg
theorem q127 {F0 : Prop} (f0 : F0) (k : DA P r E ops rest (S.put d x) J) (h : F0 → AOp P r E S o d x := by exact fun f0 => a_lit (lq rfl) f0 rfl rfl rfl rfl (by decide) rfl) (hg : o.guard = none := by rfl) : DA P r E ops (o :: rest) S J := daa (h f0) k hg
theorem q128 {F0 : Prop} (f0 : F0) {F1 : Prop} (f1 : F1) (k : DA P r E ops rest (S.put d x) J) (h : F0 → F1 → AOp P r E S o d x := by exact fun f0 f1 => m_loadEA (en := eMapping) (off := 0) (lq rfl) f0 rfl f1 rfl rfl (by decide)) (hg : o.guard = none := by rfl) : DA P r E ops (o :: rest) S J := daa (h f0 f1) k hg
theorem q129 (k : Sq P r E ops rest (S.put d x) J) (h : AOp P r E S o d x := by exact a_max (lq rfl) rfl rfl) (hg : o.guard = none := by rfl) : Sq P r E ops (o :: rest) S J := sqa h k hg
theorem q130 (k : DA P r E ops rest (S.put d x) J) (h : AOp P r E S o d x := by exact a_move_tup (lq rfl) rfl) (hg : o.guard = none := by rfl) : DA P r E ops (o :: rest) S J := daa h k hg
theorem q131 (k : Sq P r E ops rest S' J) (h : Step P r E o S S' := by exact step_alloc (zs := [(.slice none 0 0), (.slice none 0 0), (.slice none 0 0)]) (lq rfl) (by kernel_rfl) rfl rfl) (hg : o.guard = none := by rfl) : Sq P r E ops (o :: rest) S J := sq_b hg h k
end
theorem ref20_Small_c  {a0}  {r} (h : ref20_Small a0 = some r) : Contract Tryz.prog 47 [(dsl eSpan a0)] [(db r)] := by
 refine contract_of Tryz.func47 (by kernel_rfl) rfl (lq rfl) (lq rfl) fun w0 I0 hI0 hG0 => ?_
 unfold ref20_Small at h
 refine avc_sq2 <| avc_sq <| q1 ?_
 refine sq_nil <| avc_sq2 <| avc_sq <| q0 ?_
 refine q5 S22 ?_
 refine q53 ?_
 refine q1 ?_
 refine sq_nil ?_
 cases h
 refine avc_ret ?_
 exact ret_1 rfl
theorem ref11_Small_c  {a0}  {r} (h : ref11_Small a0 = some r) : Contract Tryz.prog 48 [(dsl eMapping a0)] [(db r)] := by
 refine contract_of Tryz.func48 (by kernel_rfl) rfl (lq rfl) (lq rfl) fun w0 I0 hI0 hG0 => ?_
 unfold ref11_Small at h
 refine avc_sq2 <| avc_sq <| q1 ?_
 refine sq_nil <| avc_sq2 <| avc_sq2 <| avc_sq <| q1 ?_
 refine sq_nil <| avc_block ?_
 obtain ⟨y1, hy1, h⟩ := bE h
 refine avc_tail2 y1 (.exit 0) (fun y1 => ⟨[(0, .d (dsl eMapping a0))], []⟩) .ret (fun y1 => ⟨[(2, .d (db y1))], []⟩) ?_ ?_ ?_
 ·
  refine avc_loopM (fun x => ⟨[(0, .d (dsl eMapping a0)), (3, .d (di x))], []⟩) hy1 (wc) ?_
  rintro v3 sy1 hsy1
  replace hsy1 : ref11_Small_L0 a0 v3 = some sy1 := hsy1
  unfold ref11_Small_L0 at hsy1
  refine avc_sq2 <| avc_sq2 <| avc_sq <| q0 ?_
  refine q0 ?_
  refine q5 S23 ?_
  refine q3 ?_
  obtain ⟨b8, hb8, hsy1⟩ := bE hsy1
  refine sqa ((a_move_d (lq rfl) rfl).bool (Option.some.inj hb8)) ?_
  refine q10 (.d (di v3)) ?_
  refine q54 (.d (db (decide (v3 < 30)))) ?_
  refine q12 ?_
  refine sq_nil ?_
  refine ifM rfl hsy1 (fun _ hsy1 => ?_) (fun _ hsy1 => ?_)
  ·
   refine avc_skip <| avc_sq2 <| avc_block <| avc_sq2 <| avc_sq <| q0 ?_
   refine q0 ?_
   obtain ⟨t16, ht16, hsy1⟩ := bE hsy1
   refine q11 S23 ht16 ?_
   refine q34 L103_1 ?_
   refine q65 O33 ht16 ?_
   refine q5 S33 ?_
   refine q37 ?_
   obtain ⟨b21, hb21, hsy1⟩ := bE hsy1
   refine sqa ((a_move_d (lq rfl) rfl).bool (Option.some.inj hb21)) ?_
   refine q32 (.d (dsl eMapping a0)) ?_
   refine q32 (.d (di v3)) ?_
   obtain ⟨t24, ht24, hsy1⟩ := bE hsy1
   refine q100 (.ip (eMapping.all a0) (v3.toNat * eMapping.size)) S23 ht24 ?_
   refine q116 (.ip (eMapping.all a0) (v3.toNat * eMapping.size + 2)) L103_2 ?_
   refine sqf (.d (ds t24.Tag)) rfl (fun hb => by subst hb; exact m_loadE (en := eMapping) (l := a0) (i := v3) (v := t24) (off := 2) (lq rfl) O9 rfl ht24 rfl) ?_
   refine sqf (.d (di (t24.Tag.length : Int))) rfl (fun hb => by subst hb; exact m_slen (s := t24.Tag) (lq rfl) Tryz.underlying9 rfl) ?_
   refine q46 (.d (db (decide (40 < (t24.Tag.length : Int))))) ?_
   refine q15 ?_
   refine sq_nil ?_
   refine ifM rfl hsy1 (fun _ hsy1 => ?_) (fun _ hsy1 => ?_)
   ·
    refine avc_sq2 <| avc_sq <| q1 ?_
    refine sq_nil <| avc_ret ?_
    cases hsy1
    intro q; cases q
    exact ⟨rfl, wc⟩
   ·
    refine avc_skip <| avc_sq <| q0 ?_
    refine q2 ?_
    refine q1 ?_
    refine sq_nil ?_
    cases hsy1
    exact wc
  ·
   refine avc_exit ?_
   cases hsy1
   intro q; cases q
   exact ⟨rfl, wc⟩
 ·
  rintro y1 rfl
  replace h := eL h
  refine avc_sq2 <| avc_sq <| q0 ?_
  refine q5 S23 ?_
  refine q53 ?_
  refine q1 ?_
  refine sq_nil ?_
  cases h
  refine avc_ret ?_
  exact ret_1 rfl
 ·
  rintro y1 rfl
  replace h := eR h
  cases h
  exact ret_1 rfl
theorem ref02_Small_c  {a0}  {r} (h : ref02_Small a0 = some r) : Contract Tryz.prog 49 [(eSet.dv a0)] [(db r)] := by
 refine contract_of Tryz.func49 (by kernel_rfl) rfl (lq rfl) (lq rfl) fun w0 I0 hI0 hG0 => ?_
 unfold ref02_Small at h
 refine avc_sq2 <| avc_sq <| q48 ?_
 refine q1 ?_
 refine sq_nil <| avc_sq2 <| avc_sq <| q7 L26_0 ?_
 refine q8 O24 ?_
 refine q5 S24 ?_
 refine q53 ?_
 refine q1 ?_
 refine sq_nil ?_
 cases h
 refine avc_ret ?_
 exact ret_1 rfl
theorem ref21_Small_c  {a0}  {r} (h : ref21_Small a0 = some r) : Contract Tryz.prog 24 [(eNorm.dv a0)] [(db r)] := by
 refine contract_of Tryz.func24 (by kernel_rfl) rfl (lq rfl) (lq rfl) fun w0 I0 hI0 hG0 => ?_
 unfold ref21_Small at h
 refine avc_sq2 <| avc_sq <| q28 ?_
 refine q1 ?_
 refine sq_nil <| avc_sq2 <| avc_sq <| q7 L28_0 ?_
 refine q8 O22 ?_
 obtain ⟨t5, ht5, h⟩ := bE h
 refine q6 (ref20_Small_c ht5) ?_
 obtain ⟨b6, hb6, h⟩ := bE h
 refine sqa ((a_move_d (lq rfl) rfl).bool (Option.some.inj hb6)) ?_
 refine q47 (.ip (eNorm.cells a0) (0 + 1)) L28_1 ?_
 refine q49 (.d (dsl eMapping a0.Decomp)) O23 ?_
 obtain ⟨t9, ht9, h⟩ := bE h
 refine sqt (.d (db t9)) rfl (fun hb => by subst hb; exact a_call (lq rfl) rfl (ref11_Small_c ht9)) ?_
 refine q12 ?_
 obtain ⟨b11, hb11, h⟩ := bE h
 refine sqa ((a_move_d (lq rfl) rfl).bool (Option.some.inj hb11)) ?_
 refine q47 (.ip (eNorm.cells a0) (0 + 2)) L28_2 ?_
 refine sqt (.d (eSet.dv a0.Excluded)) rfl (fun hb => by subst hb; exact a_load_ipA (lq rfl) G26 rfl rfl rfl) ?_
 obtain ⟨t14, ht14, h⟩ := bE h
 refine sqt (.d (db t14)) rfl (fun hb => by subst hb; exact a_call (lq rfl) rfl (ref02_Small_c ht14)) ?_
 refine q12 ?_
 refine q1 ?_
 refine sq_nil ?_
 cases h
 refine avc_ret ?_
 exact ret_1 rfl
theorem ref43_Small_c  {a0}  {r} (h : ref43_Small a0 = some r) : Contract Tryz.prog 25 [(eCollation.dv a0)] [(db r)] := by
 refine contract_of Tryz.func25 (by kernel_rfl) rfl (lq rfl) (lq rfl) fun w0 I0 hI0 hG0 => ?_
 unfold ref43_Small at h
 refine avc_sq2 <| avc_sq <| q41 ?_
 refine q1 ?_
 refine sq_nil <| avc_sq2 <| avc_sq2 <| avc_sq <| q7 L32_0 ?_
 refine q8 O29 ?_
 refine q5 S29 ?_
 refine q37 ?_
 obtain ⟨b8, hb8, h⟩ := bE h
 refine sqa ((a_move_d (lq rfl) rfl).bool (Option.some.inj hb8)) ?_
 refine q23 (.ip (eCollation.cells a0) (0 + 1)) L32_1 ?_
 refine q24 (.d (dsl eGroup a0.Groups)) O30 ?_
 refine q69 (.d (di (a0.Groups.length : Int))) S30 ?_
 refine q46 (.d (db (decide (8 < (a0.Groups.length : Int))))) ?_
 refine q15 ?_
 refine sq_nil ?_
 refine ifM rfl h (fun _ h => ?_) (fun _ h => ?_)
 ·
  refine avc_sq2 <| avc_sq <| q1 ?_
  refine sq_nil ?_
  cases h
  refine avc_ret ?_
  exact ret_1 rfl
 ·
  refine avc_skip <| avc_sq2 <| avc_sq2 <| avc_sq <| q1 ?_
  refine sq_nil <| avc_block ?_
  obtain ⟨y1, hy1, h⟩ := bE h
  refine avc_tail2 y1 (.exit 0) (fun y1 => ⟨[], []⟩) .ret (fun y1 => ⟨[(2, .d (db y1))], []⟩) ?_ ?_ ?_
  ·
   refine avc_loopM (fun x => ⟨[(1, .d (.pt (eCollation.cells a0))), (3, .d (di x))], []⟩) hy1 (wc) ?_
   rintro v3 sy1 hsy1
   replace hsy1 : ref43_Small_L0 a0 v3 = some sy1 := hsy1
   unfold ref43_Small_L0 at hsy1
   refine avc_sq2 <| avc_sq2 <| avc_sq <| q0 ?_
   refine q7 L32_0 ?_
   refine q8 O29 ?_
   refine q5 S29 ?_
   refine q3 ?_
   refine sq_nil ?_
   refine ifM rfl hsy1 (fun _ hsy1 => ?_) (fun _ hsy1 => ?_)
   ·
    refine avc_skip <| avc_sq2 <| avc_block <| avc_sq2 <| avc_sq <| q7 L32_0 ?_
    refine q8 O29 ?_
    refine q0 ?_
    obtain ⟨t24, ht24, hsy1⟩ := bE hsy1
    refine q11 S29 ht24 ?_
    refine q34 L45_0 ?_
    refine sqa (m_loadE (en := eEntry) (l := a0.Entries) (i := v3) (v := t24) (off := 0) (lq rfl) O33 rfl ht24 rfl) ?_
    refine q5 S33 ?_
    refine q37 ?_
    obtain ⟨b29, hb29, hsy1⟩ := bE hsy1
    refine sqa ((a_move_d (lq rfl) rfl).bool (Option.some.inj hb29)) ?_
    refine q23 (.ip (eCollation.cells a0) (0 + 0)) L32_0 ?_
    refine q24 (.d (dsl eEntry a0.Entries)) O29 ?_
    refine q32 (.d (di v3)) ?_
    obtain ⟨t33, ht33, hsy1⟩ := bE hsy1
    refine q100 (.ip (eEntry.all a0.Entries) (v3.toNat * eEntry.size)) S29 ht33 ?_
    refine q116 (.ip (eEntry.all a0.Entries) (v3.toNat * eEntry.size + 1)) L45_1 ?_
    refine sqf (.d (dsl eElement t33.Elements)) rfl (fun hb => by subst hb; exact m_loadE (en := eEntry) (l := a0.Entries) (i := v3) (v := t33) (off := 1) (lq rfl) O38 rfl ht33 rfl) ?_
    refine q69 (.d (di (t33.Elements.length : Int))) S38 ?_
    refine q46 (.d (db (decide (20 < (t33.Elements.length : Int))))) ?_
    refine q15 ?_
    refine sq_nil ?_
    refine ifM rfl hsy1 (fun _ hsy1 => ?_) (fun _ hsy1 => ?_)
    ·
     refine avc_sq2 <| avc_sq <| q1 ?_
     refine sq_nil <| avc_ret ?_
     cases hsy1
     intro q; cases q
     exact ⟨rfl, wc⟩
    ·
     refine avc_skip <| avc_sq <| q0 ?_
     refine q2 ?_
     refine q1 ?_
     refine sq_nil ?_
     cases hsy1
     exact wc
   ·
    refine avc_exit ?_
    cases hsy1
    intro q; cases q
    exact ⟨rfl, wc⟩
  ·
   rintro y1 rfl
   replace h := eL h
   refine avc_sq2 <| avc_sq <| q1 ?_
   refine sq_nil ?_
   cases h
   refine avc_ret ?_
   exact ret_1 rfl
  ·
   rintro y1 rfl
   replace h := eR h
   cases h
   exact ret_1 rfl
theorem law43_few_c  {a0}  {r} (h : law43_few a0 = some r) : Contract Tryz.prog 7 [(eUnicodetextlaw43_Case.dv a0)] [(db r)] := by
 refine contract_of Tryz.func7 (by kernel_rfl) rfl (lq rfl) (lq rfl) fun w0 I0 hI0 hG0 => ?_
 unfold law43_few at h
 refine avc_sq2 <| avc_sq <| q117 ?_
 refine q1 ?_
 refine sq_nil <| avc_sq2 <| avc_sq <| q7 L35_0 ?_
 refine q70 G28 ?_
 obtain ⟨t5, ht5, h⟩ := bE h
 refine q6 (ref21_Small_c ht5) ?_
 obtain ⟨b6, hb6, h⟩ := bE h
 refine sqa ((a_move_d (lq rfl) rfl).bool (Option.some.inj hb6)) ?_
 refine q47 (.ip (eUnicodetextlaw43_Case.cells a0) (0 + 3)) L35_1 ?_
 refine sqt (.d (eCollation.dv a0.C)) rfl (fun hb => by subst hb; exact a_load_ipA (lq rfl) G32 rfl rfl rfl) ?_
 obtain ⟨t9, ht9, h⟩ := bE h
 refine sqt (.d (db t9)) rfl (fun hb => by subst hb; exact a_call (lq rfl) rfl (ref43_Small_c ht9)) ?_
 refine q12 ?_
 obtain ⟨b11, hb11, h⟩ := bE h
 refine sqa ((a_move_d (lq rfl) rfl).bool (Option.some.inj hb11)) ?_
 refine q47 (.ip (eUnicodetextlaw43_Case.cells a0) (0 + 8)) L35_2 ?_
 refine q49 (.d (dsl eI a0.Text)) O33 ?_
 refine q88 (.d (di (a0.Text.length : Int))) S33 ?_
 refine q42 (.d (db (decide ((a0.Text.length : Int) ≤ 12)))) ?_
 refine q12 ?_
 refine q1 ?_
 refine sq_nil ?_
 cases h
 refine avc_ret ?_
 exact ret_1 rfl
theorem slices_Clone_int_int_g {a0 r : (List Int)} (h : slices_Clone_int_int a0 = some r) : GC Tryz.prog 27 [.d (dsl eI a0)] [] [] [.row 5] [(5, .row 3 eI.size false (eI.all r))] := by
 unfold slices_Clone_int_int at h
 cases a0 with
 | nil =>
  refine gc_empty (by decide) fun B c => ?_
  refine gc_of Tryz.func27 (by kernel_rfl) rfl (lq rfl) (lq rfl) fun w0 I0 hG0 p0 => ?_
  refine avc_sq2 <| avc_sq <| q1 ?_
  refine sq_nil <| avc_sq2 <| avc_sq2 <| avc_sq <| q0 ?_
  refine sqa (a_eqnil_v (lq rfl) Tryz.underlying33 rfl) ?_
  refine sq_nil ?_
  refine avc_if rfl ⟨fun c1 => ?_, fun c1 => ?_⟩
  ·
   obtain ⟨rfl, _⟩ := app_some h
   refine avc_sq2 <| avc_sq <| q1 ?_
   refine sq_nil ?_
   refine avc_weak (weak_nil (t := 2) 5 3 eI.size (lq rfl) (lq rfl) rfl rfl) ?_
   refine avc_ret ?_
   exact ⟨⟨_, _, rfl, rfl, rfl⟩, rfl, trivial⟩
  ·
   refine avc_skip ?_
   refine avc_sq2 <| avc_sq <| q61 S33 ?_
   refine q0 ?_
   refine sq_weak (weak_empty_d (t := 6) eI.size (lq rfl) rfl) ?_ (by simp)
   refine sq_b rfl (m_append (en := eI) (l := []) (m := []) (lq rfl) S33 rfl rfl rfl h (by decide) (by decide) rfl rfl) ?_
   refine q13 ?_
   refine sq_nil <| avc_ret ?_
   exact ⟨⟨_, _, rfl, rfl, rfl⟩, rfl, trivial⟩
 | cons x l =>
  refine gc_of Tryz.func27 (by kernel_rfl) rfl (lq rfl) (lq rfl) fun w0 I0 hG0 p0 => ?_
  refine avc_sq2 <| avc_sq <| q1 ?_
  refine sq_nil <| avc_sq2 <| avc_sq2 <| avc_sq <| q0 ?_
  refine sqa (a_eqnil (lq rfl) Tryz.underlying33 rfl (all_ne (by decide))) ?_
  refine sq_nil ?_
  refine avc_if rfl ⟨fun c1 => (by cases c1), fun c1 => ?_⟩
  refine avc_skip <| avc_sq2 <| avc_sq <| q61 S33 ?_
  refine q0 ?_
  refine sq_b rfl (m_append (en := eI) (l := []) (m := x :: l) (lq rfl) S33 rfl rfl rfl h (by decide) (by decide) rfl rfl) ?_
  refine q13 ?_
  refine sq_nil <| avc_ret ?_
  exact ⟨⟨_, _, rfl, rfl, rfl⟩, rfl, trivial⟩
theorem colltable_isWeight_c  {a0}  {r} (h : colltable_isWeight a0 = some r) : Contract Tryz.prog 50 [(di a0)] [(db r)] := by
 refine contract_of Tryz.func50 (by kernel_rfl) rfl (lq rfl) (lq rfl) fun w0 I0 hI0 hG0 => ?_
 unfold colltable_isWeight at h
 refine avc_sq2 <| avc_sq <| q1 ?_
 refine sq_nil <| avc_sq2 <| avc_sq <| q0 ?_
 refine q30 ?_
 obtain ⟨b5, hb5, h⟩ := bE h
 refine sqa ((a_move_d (lq rfl) rfl).bool (Option.some.inj hb5)) ?_
 refine q10 (.d (di a0)) ?_
 refine q42 (.d (db (decide (a0 ≤ 65535)))) ?_
 refine q12 ?_
 refine q1 ?_
 refine sq_nil ?_
 cases h
 refine avc_ret ?_
 exact ret_1 rfl
theorem colltable_isName_c  {a0}  {r} (h : colltable_isName a0 = some r) : Contract Tryz.prog 73 [(ds a0)] [(db r)] := by
 refine contract_of Tryz.func73 (by kernel_rfl) rfl (lq rfl) (lq rfl) fun w0 I0 hI0 hG0 => ?_
 unfold colltable_isName at h
 refine avc_sq2 <| avc_sq <| q1 ?_
 refine sq_nil <| avc_sq2 <| avc_sq2 <| avc_sq <| q0 ?_
 refine q118 Tryz.underlying9 ?_
 refine q0 ?_
 refine sq_nil <| avc_block ?_
 obtain ⟨y1, hy1, h⟩ := bE h
 refine avc_tail2 y1 (.exit 0) (fun y1 => ⟨[(0, .d (ds a0))], []⟩) .ret (fun y1 => ⟨[(2, .d (db y1))], []⟩) ?_ ?_ ?_
 ·
  refine avc_loopM (fun x => ⟨[(0, .d (ds a0)), (6, .d (di (a0.length : Int))), (7, .d (di x))], []⟩) hy1 (wc) ?_
  rintro v7 sy1 hsy1
  replace hsy1 : colltable_isName_L0 a0 v7 = some sy1 := hsy1
  unfold colltable_isName_L0 at hsy1
  refine avc_sq2 <| avc_sq <| q3 ?_
  refine sq_nil <| avc_sq2 ?_
  refine ifM rfl hsy1 (fun _ hsy1 => ?_) (fun _ hsy1 => ?_)
  ·
   refine avc_skip <| avc_sq2 <| avc_block <| avc_sq2 <| avc_sq <| q0 ?_
   refine q1 ?_
   refine sq_nil <| avc_sq2 <| avc_sq <| q0 ?_
   refine q0 ?_
   obtain ⟨t12, ht12, hsy1⟩ := bE hsy1
   refine q119 Tryz.underlying9 ht12 ?_
   refine q1 ?_
   refine sq_nil <| avc_sq2 <| avc_sq <| q0 ?_
   refine q30 ?_
   obtain ⟨b15, hb15, hsy1⟩ := bE hsy1
   refine sqa ((a_move_d (lq rfl) rfl).bool (Option.some.inj hb15)) ?_
   refine q10 (.d (dby t12)) ?_
   refine q42 (.d (db (decide (t12 ≤ 90)))) ?_
   refine q12 ?_
   obtain ⟨b19, hb19, hsy1⟩ := bE hsy1
   refine sqa ((a_move_d (lq rfl) rfl).bool (Option.some.inj hb19)) ?_
   refine q32 (.d (dby t12)) ?_
   refine q78 (.d (db (decide (97 ≤ t12)))) ?_
   obtain ⟨b22, hb22, hsy1⟩ := bE hsy1
   refine sqf (.d (db b22)) rfl (fun hb => by subst hb; exact (a_move_d (lq rfl) rfl).bool (Option.some.inj hb22)) ?_
   refine sq_g2 (x := .d (dby t12)) rfl rfl rfl (lq rfl) (lq rfl) rfl (fun hb => by obtain ⟨hb, hb1⟩ := and_split hb; obtain rfl := gF hb; obtain rfl : b22 = true := hb1; exact a_move_d (lq rfl) rfl) ?_
   refine sq_g2 (x := .d (db (decide (t12 ≤ 122)))) rfl rfl rfl (lq rfl) (lq rfl) rfl (fun hb => by obtain ⟨hb, hb1⟩ := and_split hb; obtain rfl := gF hb; obtain rfl : b22 = true := hb1; exact a_leq (lq rfl) rfl rfl) ?_
   refine q62 (.d (db (b22 && (decide (t12 ≤ 122))))) ?_
   refine q15 ?_
   obtain ⟨b27, hb27, hsy1⟩ := bE hsy1
   refine sqa ((a_move_d (lq rfl) rfl).bool (Option.some.inj hb27)) ?_
   refine q32 (.d (dby t12)) ?_
   refine q78 (.d (db (decide (48 ≤ t12)))) ?_
   obtain ⟨b30, hb30, hsy1⟩ := bE hsy1
   refine sqf (.d (db b30)) rfl (fun hb => by subst hb; exact (a_move_d (lq rfl) rfl).bool (Option.some.inj hb30)) ?_
   refine sq_g2 (x := .d (dby t12)) rfl rfl rfl (lq rfl) (lq rfl) rfl (fun hb => by obtain ⟨hb, hb1⟩ := and_split hb; obtain rfl := gF hb; obtain rfl : b30 = true := hb1; exact a_move_d (lq rfl) rfl) ?_
   refine sq_g2 (x := .d (db (decide (t12 ≤ 57)))) rfl rfl rfl (lq rfl) (lq rfl) rfl (fun hb => by obtain ⟨hb, hb1⟩ := and_split hb; obtain rfl := gF hb; obtain rfl : b30 = true := hb1; exact a_leq (lq rfl) rfl rfl) ?_
   refine q62 (.d (db (b30 && (decide (t12 ≤ 57))))) ?_
   refine q15 ?_
   obtain ⟨b35, hb35, hsy1⟩ := bE hsy1
   refine sqa ((a_move_d (lq rfl) rfl).bool (Option.some.inj hb35)) ?_
   refine q32 (.d (dby t12)) ?_
   refine q79 (.d (db (decide (t12 = 95)))) ?_
   refine q15 ?_
   refine q22 ?_
   refine sq_nil ?_
   refine ifM rfl hsy1 (fun _ hsy1 => ?_) (fun _ hsy1 => ?_)
   ·
    refine avc_sq2 <| avc_sq <| q1 ?_
    refine sq_nil <| avc_ret ?_
    cases hsy1
    intro q; cases q
    exact ⟨rfl, wc⟩
   ·
    refine avc_skip <| avc_sq <| q2 ?_
    refine q0 ?_
    refine sq_nil ?_
    cases hsy1
    exact wc
  ·
   refine avc_exit ?_
   cases hsy1
   intro q; cases q
   exact ⟨rfl, wc⟩
 ·
  rintro y1 rfl
  replace h := eL h
  refine avc_sq2 <| avc_sq <| q0 ?_
  refine q89 ?_
  obtain ⟨b43, hb43, h⟩ := bE h
  refine sqa ((a_move_d (lq rfl) rfl).bool (Option.some.inj hb43)) ?_
  refine q10 (.d (ds a0)) ?_
  refine sqt (.d (di (a0.length : Int))) rfl (fun hb => by subst hb; exact m_slen (s := a0) (lq rfl) Tryz.underlying9 rfl) ?_
  refine q42 (.d (db (decide ((a0.length : Int) ≤ 32)))) ?_
  refine q12 ?_
  refine q1 ?_
  refine sq_nil ?_
  cases h
  refine avc_ret ?_
  exact ret_1 rfl
 ·
  rintro y1 rfl
  replace h := eR h
  cases h
  exact ret_1 rfl
theorem colltable_checkGroups_c  {a0}  {r} (h : colltable_checkGroups a0 = some r) : Contract Tryz.prog 51 [(eCollation.dv a0)] [(di r)] := by
 refine contract_of Tryz.func51 (by kernel_rfl) rfl (lq rfl) (lq rfl) fun w0 I0 hI0 hG0 => ?_
 unfold colltable_checkGroups at h
 refine avc_sq2 <| avc_sq <| q41 ?_
 refine q1 ?_
 refine sq_nil <| avc_sq2 <| avc_sq2 <| avc_sq <| q7 L32_1 ?_
 refine q8 O30 ?_
 refine q5 S30 ?_
 refine q0 ?_
 refine sq_nil <| avc_block ?_
 obtain ⟨y1, hy1, h⟩ := bE h
 refine avc_tail2 y1 (.exit 0) (fun y1 => ⟨[(1, .d (.pt (eCollation.cells a0)))], []⟩) .ret (fun y1 => ⟨[(2, .d (di y1))], []⟩) ?_ ?_ ?_
 ·
  refine avc_loopM (fun x => ⟨[(1, .d (.pt (eCollation.cells a0))), (13, .d (dsl eGroup a0.Groups)), (14, .d (di (a0.Groups.length : Int))), (15, .d (di x))], []⟩) hy1 (wc) ?_
  rintro v15 sy1 hsy1
  replace hsy1 : colltable_checkGroups_L0 a0 v15 = some sy1 := hsy1
  unfold colltable_checkGroups_L0 at hsy1
  refine avc_sq2 <| avc_sq <| q3 ?_
  refine sq_nil <| avc_sq2 ?_
  refine ifM rfl hsy1 (fun _ hsy1 => ?_) (fun _ hsy1 => ?_)
  ·
   refine avc_skip <| avc_sq2 <| avc_block <| avc_sq2 <| avc_sq ?_
   obtain ⟨t17, ht17, hsy1⟩ := bE hsy1
   refine q11 S30 ht17 ?_
   refine q120 G110 ht17 ?_
   refine q121 ?_
   refine q14 G110 ?_
   refine sq_nil ?_
   refine avc_weak (weak_freeze (t := 4) (lq rfl) rfl rfl rfl) ?_
   refine avc_sq2 <| avc_sq <| q7 L110_0 ?_
   refine q8 O9 ?_
   obtain ⟨t21, ht21, hsy1⟩ := bE hsy1
   refine q6 (colltable_isName_c ht21) ?_
   refine q22 ?_
   refine sq_nil ?_
   refine ifM rfl hsy1 (fun _ hsy1 => ?_) (fun _ hsy1 => ?_)
   ·
    refine avc_sq2 <| avc_sq <| q1 ?_
    refine sq_nil <| avc_ret ?_
    cases hsy1
    intro q; cases q
    exact ⟨rfl, wc⟩
   ·
    refine avc_skip <| avc_sq <| q2 ?_
    refine q0 ?_
    refine sq_nil ?_
    cases hsy1
    exact wc
  ·
   refine avc_exit ?_
   cases hsy1
   intro q; cases q
   exact ⟨rfl, wc⟩
 ·
  rintro y1 rfl
  replace h := eL h
  refine avc_sq2 <| avc_sq <| q101 ?_
  refine q13 ?_
  refine sq_nil <| avc_sq2 <| avc_sq2 <| avc_sq <| q7 L32_1 ?_
  refine q8 O30 ?_
  refine q5 S30 ?_
  refine q0 ?_
  refine sq_nil <| avc_block ?_
  obtain ⟨y2, hy2, h⟩ := bE h
  refine avc_tail2 y2 (.exit 2) (fun y2 => ⟨[(1, .d (.pt (eCollation.cells a0)))], []⟩) .ret (fun y2 => ⟨[(2, .d (di y2))], []⟩) ?_ ?_ ?_
  ·
   refine avc_loopM (fun x => ⟨[(1, .d (.pt (eCollation.cells a0))), (5, .row 24), (26, .d (dsl eGroup a0.Groups)), (27, .d (di (a0.Groups.length : Int))), (28, .d (di x.1))], [(24, .map (mapE kS eB x.2))]⟩) hy2 (wc) ?_
   rintro ⟨v28, r24⟩ sy2 hsy2
   replace hsy2 : colltable_checkGroups_L1 a0 v28 r24 = some sy2 := hsy2
   unfold colltable_checkGroups_L1 at hsy2
   refine avc_sq2 <| avc_sq <| q3 ?_
   refine sq_nil <| avc_sq2 ?_
   refine ifM rfl hsy2 (fun _ hsy2 => ?_) (fun _ hsy2 => ?_)
   ·
    refine avc_skip <| avc_sq2 <| avc_block <| avc_sq2 <| avc_sq ?_
    obtain ⟨t30, ht30, hsy2⟩ := bE hsy2
    refine q11 S30 ht30 ?_
    refine q120 G110 ht30 ?_
    refine q121 ?_
    refine q14 G110 ?_
    refine sq_nil ?_
    refine avc_weak (weak_freeze (t := 7) (lq rfl) rfl rfl rfl) ?_
    refine avc_sq2 <| avc_sq2 <| avc_sq <| q9 ?_
    refine q7 L110_0 ?_
    refine q8 O9 ?_
    refine sqa (m_lookup (kv := kS) (ev := eB) (mp := r24) (k := t30.Name) (zero := false) (lq rfl) M112 K9 rfl rfl rfl (fun _ _ => .v _)) ?_
    refine sq_nil ?_
    refine ifM rfl hsy2 (fun _ hsy2 => ?_) (fun _ hsy2 => ?_)
    ·
     refine avc_sq2 <| avc_sq <| q1 ?_
     refine sq_nil <| avc_ret ?_
     cases hsy2
     intro q; cases q
     exact ⟨rfl, wc⟩
    ·
     refine avc_skip <| avc_sq <| q9 ?_
     refine q7 L110_0 ?_
     refine q8 O9 ?_
     refine q122 M112 K9 ?_
     refine sq_nil <| avc_sq <| q2 ?_
     refine q0 ?_
     refine sq_nil ?_
     cases hsy2
     exact wc
   ·
    refine avc_exit ?_
    cases hsy2
    intro q; cases q
    exact ⟨rfl, wc⟩
  ·
   rintro y2 rfl
   replace h := eL h
   refine avc_sq2 <| avc_sq2 <| avc_sq <| q7 L32_1 ?_
   refine q8 O30 ?_
   refine q5 S30 ?_
   refine q0 ?_
   refine sq_nil <| avc_block ?_
   obtain ⟨y3, hy3, h⟩ := bE h
   refine avc_tail2 y3 (.exit 4) (fun y3 => ⟨[(1, .d (.pt (eCollation.cells a0)))], []⟩) .ret (fun y3 => ⟨[(2, .d (di y3))], []⟩) ?_ ?_ ?_
   ·
    refine avc_loopM (fun x => ⟨[(1, .d (.pt (eCollation.cells a0))), (41, .d (dsl eGroup a0.Groups)), (42, .d (di (a0.Groups.length : Int))), (43, .d (di x))], []⟩) hy3 (wc) ?_
    rintro v43 sy3 hsy3
    replace hsy3 : colltable_checkGroups_L2 a0 v43 = some sy3 := hsy3
    unfold colltable_checkGroups_L2 at hsy3
    refine avc_sq2 <| avc_sq <| q3 ?_
    refine sq_nil <| avc_sq2 ?_
    refine ifM rfl hsy3 (fun _ hsy3 => ?_) (fun _ hsy3 => ?_)
    ·
     refine avc_skip <| avc_sq2 <| avc_block <| avc_sq2 <| avc_sq ?_
     obtain ⟨t45, ht45, hsy3⟩ := bE hsy3
     refine q11 S30 ht45 ?_
     refine q120 G110 ht45 ?_
     refine q121 ?_
     refine q14 G110 ?_
     refine sq_nil ?_
     refine avc_weak (weak_freeze (t := 9) (lq rfl) rfl rfl rfl) ?_
     refine avc_sq2 <| avc_sq <| q7 L110_1 ?_
     refine q8 O3 ?_
     refine q3 ?_
     obtain ⟨b50, hb50, hsy3⟩ := bE hsy3
     refine sqa ((a_move_d (lq rfl) rfl).bool (Option.some.inj hb50)) ?_
     refine q23 (.ip (eGroup.cells t45) (0 + 2)) L110_2 ?_
     refine q24 (.d (di t45.Hi)) O3 ?_
     refine q23 (.ip (eGroup.cells t45) (0 + 1)) L110_1 ?_
     refine q24 (.d (di t45.Lo)) O3 ?_
     refine sqf (.d (db (decide (t45.Hi < t45.Lo)))) rfl (fun hb => by subst hb; exact a_lss (lq rfl) rfl rfl) ?_
     refine q15 ?_
     obtain ⟨b57, hb57, hsy3⟩ := bE hsy3
     refine sqa ((a_move_d (lq rfl) rfl).bool (Option.some.inj hb57)) ?_
     refine q23 (.ip (eGroup.cells t45) (0 + 2)) L110_2 ?_
     refine q24 (.d (di t45.Hi)) O3 ?_
     refine q23 (.ip (eCollation.cells a0) (0 + 2)) L32_2 ?_
     refine q24 (.d (di a0.Base)) O3 ?_
     refine q78 (.d (db (decide (a0.Base ≤ t45.Hi)))) ?_
     refine q15 ?_
     refine sq_nil ?_
     refine ifM rfl hsy3 (fun _ hsy3 => ?_) (fun _ hsy3 => ?_)
     ·
      refine avc_sq2 <| avc_sq <| q1 ?_
      refine sq_nil <| avc_ret ?_
      cases hsy3
      intro q; cases q
      exact ⟨rfl, wc⟩
     ·
      refine avc_skip <| avc_sq <| q2 ?_
      refine q0 ?_
      refine sq_nil ?_
      cases hsy3
      exact wc
    ·
     refine avc_exit ?_
     cases hsy3
     intro q; cases q
     exact ⟨rfl, wc⟩
   ·
    rintro y3 rfl
    replace h := eL h
    refine avc_sq2 <| avc_sq2 <| avc_sq <| q7 L32_1 ?_
    refine q8 O30 ?_
    refine q5 S30 ?_
    refine q0 ?_
    refine sq_nil <| avc_block ?_
    obtain ⟨y4, hy4, h⟩ := bE h
    refine avc_tail2 y4 (.exit 6) (fun y4 => ⟨[], []⟩) .ret (fun y4 => ⟨[(2, .d (di y4))], []⟩) ?_ ?_ ?_
    ·
     refine avc_loopM (fun x => ⟨[(1, .d (.pt (eCollation.cells a0))), (66, .d (dsl eGroup a0.Groups)), (67, .d (di (a0.Groups.length : Int))), (68, .d (di x))], []⟩) hy4 (wc) ?_
     rintro v68 sy4 hsy4
     replace hsy4 : colltable_checkGroups_L3 a0 v68 = some sy4 := hsy4
     unfold colltable_checkGroups_L3 at hsy4
     refine avc_sq2 <| avc_sq <| q3 ?_
     refine sq_nil <| avc_sq2 ?_
     refine ifM rfl hsy4 (fun _ hsy4 => ?_) (fun _ hsy4 => ?_)
     ·
      refine avc_skip <| avc_sq2 <| avc_block <| avc_sq2 <| avc_sq <| q0 ?_
      obtain ⟨t71, ht71, hsy4⟩ := bE hsy4
      refine q11 S30 ht71 ?_
      refine q120 G110 ht71 ?_
      refine q121 ?_
      refine q1 ?_
      refine q14 G110 ?_
      refine sq_nil ?_
      refine avc_weak (weak_freeze (t := 11) (lq rfl) rfl rfl rfl) ?_
      refine avc_sq2 ?_
      refine avc_drawA MX rfl ?_
      refine q4 ?_
      refine q80 ?_
      obtain ⟨b75, hb75, hsy4⟩ := bE hsy4
      refine daa ((a_move_d (lq rfl) rfl).bool (Option.some.inj hb75)) ?_
      refine q40 (.ip (eGroup.cells t71) (0 + 1)) L110_1 ?_
      refine q55 (.d (di t71.Lo)) O3 ?_
      refine q40 (.ip (eCollation.cells a0) (0 + 1)) L32_1 ?_
      refine q55 (.d (dsl eGroup a0.Groups)) O30 ?_
      refine q38 (.d (di v68)) ?_
      refine q90 (.d (di (wi (v68 - 1)))) ?_
      obtain ⟨t82, ht82, hsy4⟩ := bE hsy4
      refine q71 (.ip (eGroup.all a0.Groups) ((wi (v68 - 1)).toNat * eGroup.size)) S30 ht82 ?_
      refine q72 (.ip (eGroup.all a0.Groups) ((wi (v68 - 1)).toNat * eGroup.size + 2)) L110_2 ?_
      refine dat (.d (di t82.Hi)) rfl (fun hb => by subst hb; exact m_loadE (en := eGroup) (l := a0.Groups) (i := (wi (v68 - 1))) (v := t82) (off := 2) (lq rfl) O3 rfl ht82 rfl) ?_
      refine dat (.d (di (wi (t82.Hi + 1)))) rfl (fun hb => by subst hb; exact m_add (lq rfl) rfl rfl) ?_
      refine dat (.d (db (!decide (t71.Lo = (wi (t82.Hi + 1)))))) rfl (fun hb => by subst hb; exact a_neq (lq rfl) rfl rfl) ?_
      refine q50 ?_
      refine da_nil ?_
      refine ifM rfl hsy4 (fun _ hsy4 => ?_) (fun _ hsy4 => ?_)
      ·
       refine avc_sq2 <| avc_sq <| q1 ?_
       refine sq_nil <| avc_ret ?_
       cases hsy4
       intro q; cases q
       exact ⟨rfl, wc⟩
      ·
       refine avc_skip <| avc_sq <| q2 ?_
       refine q0 ?_
       refine sq_nil ?_
       cases hsy4
       exact wc
     ·
      refine avc_exit ?_
      cases hsy4
      intro q; cases q
      exact ⟨rfl, wc⟩
    ·
     rintro y4 rfl
     replace h := eL h
     refine avc_sq2 <| avc_sq <| q1 ?_
     refine sq_nil ?_
     cases h
     refine avc_ret ?_
     exact ret_1 rfl
    ·
     rintro y4 rfl
     replace h := eR h
     cases h
     exact ret_1 rfl
   ·
    rintro y3 rfl
    replace h := eR h
    cases h
    exact ret_1 rfl
  ·
   rintro y2 rfl
   replace h := eR h
   cases h
   exact ret_1 rfl
 ·
  rintro y1 rfl
  replace h := eR h
  cases h
  exact ret_1 rfl
theorem codepoint_Valid_c  {a0}  {r} (h : codepoint_Valid a0 = some r) : Contract Tryz.prog 71 [(di a0)] [(db r)] := by
 refine contract_of Tryz.func71 (by kernel_rfl) rfl (lq rfl) (lq rfl) fun w0 I0 hI0 hG0 => ?_
 unfold codepoint_Valid at h
 refine avc_sq2 <| avc_sq <| q1 ?_
 refine sq_nil <| avc_sq2 <| avc_sq <| q0 ?_
 refine q30 ?_
 obtain ⟨b5, hb5, h⟩ := bE h
 refine sqa ((a_move_d (lq rfl) rfl).bool (Option.some.inj hb5)) ?_
 refine q10 (.d (di a0)) ?_
 refine q42 (.d (db (decide (a0 ≤ 1114111)))) ?_
 refine q12 ?_
 refine q1 ?_
 refine sq_nil ?_
 cases h
 refine avc_ret ?_
 exact ret_1 rfl
theorem element_Check_c  {a0}  {r} (h : element_Check a0 = some r) : Contract Tryz.prog 74 [(eElement.dv a0)] [(di r)] := by
 refine contract_of Tryz.func74 (by kernel_rfl) rfl (lq rfl) (lq rfl) fun w0 I0 hI0 hG0 => ?_
 unfold element_Check at h
 refine avc_sq2 <| avc_sq ?_
 refine sqa (m_box (size := 4) (lq rfl) rfl rfl) ?_
 refine q1 ?_
 refine sq_nil <| avc_sq2 <| avc_sq2 <| avc_sq <| q7 L63_0 ?_
 refine q8 O3 ?_
 refine q7 L63_1 ?_
 refine q8 O3 ?_
 refine q7 L63_2 ?_
 refine q8 O3 ?_
 refine q102 A132 ?_
 refine q0 ?_
 refine sq_nil <| avc_block ?_
 obtain ⟨y1, hy1, h⟩ := bE h
 refine avc_tail2 y1 (.exit 0) (fun y1 => ⟨[(1, .d (.pt (eElement.cells a0)))], []⟩) .ret (fun y1 => ⟨[(2, .d (di y1))], []⟩) ?_ ?_ ?_
 ·
  refine avc_loopM (fun x => ⟨[(1, .d (.pt (eElement.cells a0))), (11, .d (eA3Int.dv ({ x0 := a0.Primary, x1 := a0.Secondary, x2 := a0.Tertiary } : A3Int))), (12, .d (di x))], []⟩) hy1 (wc) ?_
  rintro v12 sy1 hsy1
  replace hsy1 : element_Check_L0 a0 v12 = some sy1 := hsy1
  unfold element_Check_L0 at hsy1
  refine avc_sq2 <| avc_sq <| q3 ?_
  refine sq_nil <| avc_sq2 ?_
  refine ifM rfl hsy1 (fun _ hsy1 => ?_) (fun _ hsy1 => ?_)
  ·
   refine avc_skip <| avc_sq2 <| avc_block <| avc_sq2 <| avc_sq ?_
   obtain ⟨t14, ht14, hsy1⟩ := bE hsy1
   refine sqa (m_aindex (en := eI) (l := [({ x0 := a0.Primary, x1 := a0.Secondary, x2 := a0.Tertiary } : A3Int).x0, ({ x0 := a0.Primary, x1 := a0.Secondary, x2 := a0.Tertiary } : A3Int).x1, ({ x0 := a0.Primary, x1 := a0.Secondary, x2 := a0.Tertiary } : A3Int).x2]) (lq rfl) A132 O3 (fun _ => rfl) rfl rfl rfl ht14) ?_
   refine q1 ?_
   refine sq_nil <| avc_sq2 <| avc_sq <| q0 ?_
   refine q3 ?_
   obtain ⟨b17, hb17, hsy1⟩ := bE hsy1
   refine sqa ((a_move_d (lq rfl) rfl).bool (Option.some.inj hb17)) ?_
   refine q32 (.d (di t14)) ?_
   refine q46 (.d (db (decide (65535 < t14)))) ?_
   refine q15 ?_
   refine sq_nil ?_
   refine ifM rfl hsy1 (fun _ hsy1 => ?_) (fun _ hsy1 => ?_)
   ·
    refine avc_sq2 <| avc_sq <| q1 ?_
    refine sq_nil <| avc_ret ?_
    cases hsy1
    intro q; cases q
    exact ⟨rfl, wc⟩
   ·
    refine avc_skip <| avc_sq <| q2 ?_
    refine q0 ?_
    refine sq_nil ?_
    cases hsy1
    exact wc
  ·
   refine avc_exit ?_
   cases hsy1
   intro q; cases q
   exact ⟨rfl, wc⟩
 ·
  rintro y1 rfl
  replace h := eL h
  refine avc_sq2 <| avc_block <| avc_sq2 <| avc_sq <| q7 L63_0 ?_
  refine q8 O3 ?_
  refine q27 ?_
  obtain ⟨b26, hb26, h⟩ := bE h
  refine sqa ((a_move_d (lq rfl) rfl).bool (Option.some.inj hb26)) ?_
  refine q47 (.ip (eElement.cells a0) (0 + 1)) L63_1 ?_
  refine q49 (.d (di a0.Secondary)) O3 ?_
  refine q81 (.d (db (decide (a0.Secondary = 0)))) ?_
  obtain ⟨b30, hb30, h⟩ := bE h
  refine sqt (.d (db b30)) rfl (fun hb => by subst hb; exact (a_move_d (lq rfl) rfl).bool (Option.some.inj hb30)) ?_
  refine sq_g2 (x := .ip (eElement.cells a0) (0 + 2)) rfl rfl rfl (lq rfl) (lq rfl) rfl (fun hb => by obtain ⟨hb, hb1⟩ := and_split hb; obtain rfl : b26 = true := hb; obtain rfl := gF hb1; exact m_fieldPt (lq rfl) L63_2 rfl) ?_
  refine sq_g2 (x := .d (di a0.Tertiary)) rfl rfl rfl (lq rfl) (lq rfl) rfl (fun hb => by obtain ⟨hb, hb1⟩ := and_split hb; obtain rfl : b26 = true := hb; obtain rfl := gF hb1; exact a_load_ip (lq rfl) O3 rfl rfl) ?_
  refine sq_g2 (x := .d (db (decide (a0.Tertiary = 0)))) rfl rfl rfl (lq rfl) (lq rfl) rfl (fun hb => by obtain ⟨hb, hb1⟩ := and_split hb; obtain rfl : b26 = true := hb; obtain rfl := gF hb1; exact a_eql (lq rfl) rfl rfl) ?_
  refine q123 (.d (db (b30 || (decide (a0.Tertiary = 0))))) ?_
  refine q12 ?_
  refine q1 ?_
  refine sq_nil ?_
  refine ifM rfl h (fun _ h => ?_) (fun _ h => ?_)
  ·
   refine avc_sq2 <| avc_sq <| q1 ?_
   refine sq_nil ?_
   cases h
   refine avc_ret ?_
   exact ret_1 rfl
  ·
   refine avc_sq2 <| avc_sq <| q7 L63_1 ?_
   refine q8 O3 ?_
   refine q27 ?_
   obtain ⟨b40, hb40, h⟩ := bE h
   refine sqa ((a_move_d (lq rfl) rfl).bool (Option.some.inj hb40)) ?_
   refine q47 (.ip (eElement.cells a0) (0 + 2)) L63_2 ?_
   refine q49 (.d (di a0.Tertiary)) O3 ?_
   refine q81 (.d (db (decide (a0.Tertiary = 0)))) ?_
   refine q12 ?_
   refine q1 ?_
   refine sq_nil ?_
   refine ifM rfl h (fun _ h => ?_) (fun _ h => ?_)
   ·
    refine avc_sq2 <| avc_sq <| q1 ?_
    refine sq_nil ?_
    cases h
    refine avc_ret ?_
    exact ret_1 rfl
   ·
    refine avc_sq2 <| avc_sq <| q7 L63_3 ?_
    refine q8 O4 ?_
    obtain ⟨b48, hb48, h⟩ := bE h
    refine sqa ((a_move_d (lq rfl) rfl).bool (Option.some.inj hb48)) ?_
    refine q47 (.ip (eElement.cells a0) (0 + 0)) L63_0 ?_
    refine q49 (.d (di a0.Primary)) O3 ?_
    refine q81 (.d (db (decide (a0.Primary = 0)))) ?_
    refine q12 ?_
    refine q1 ?_
    refine sq_nil ?_
    refine ifM rfl h (fun _ h => ?_) (fun _ h => ?_)
    ·
     refine avc_sq2 <| avc_sq <| q1 ?_
     refine sq_nil ?_
     cases h
     refine avc_ret ?_
     exact ret_1 rfl
    ·
     refine avc_skip <| avc_sq2 <| avc_sq <| q1 ?_
     refine sq_nil ?_
     cases h
     refine avc_ret ?_
     exact ret_1 rfl
 ·
  rintro y1 rfl
  replace h := eR h
  cases h
  exact ret_1 rfl
theorem colltable_checkEntry_c  {a0} {a1}  {r} (h : colltable_checkEntry a0 a1 = some r) : Contract Tryz.prog 52 [(eEntry.dv a0), (di a1)] [(di r)] := by
 refine contract_of Tryz.func52 (by kernel_rfl) rfl (lq rfl) (lq rfl) fun w0 I0 hI0 hG0 => ?_
 unfold colltable_checkEntry at h
 refine avc_sq2 <| avc_sq ?_
 refine sqa (m_box (size := 2) (lq rfl) rfl rfl) ?_
 refine q1 ?_
 refine sq_nil <| avc_sq2 <| avc_sq2 <| avc_sq <| q7 L45_0 ?_
 refine q8 O33 ?_
 refine q5 S33 ?_
 refine q3 ?_
 obtain ⟨b16, hb16, h⟩ := bE h
 refine sqa ((a_move_d (lq rfl) rfl).bool (Option.some.inj hb16)) ?_
 refine q23 (.ip (eEntry.cells a0) (0 + 0)) L45_0 ?_
 refine q24 (.d (dsl eI a0.Codes)) O33 ?_
 refine q69 (.d (di (a0.Codes.length : Int))) S33 ?_
 refine q46 (.d (db (decide (8 < (a0.Codes.length : Int))))) ?_
 refine q15 ?_
 obtain ⟨b22, hb22, h⟩ := bE h
 refine sqa ((a_move_d (lq rfl) rfl).bool (Option.some.inj hb22)) ?_
 refine q23 (.ip (eEntry.cells a0) (0 + 1)) L45_1 ?_
 refine q24 (.d (dsl eElement a0.Elements)) O38 ?_
 refine q69 (.d (di (a0.Elements.length : Int))) S38 ?_
 refine q46 (.d (db (decide (16 < (a0.Elements.length : Int))))) ?_
 refine q15 ?_
 refine sq_nil ?_
 refine ifM rfl h (fun _ h => ?_) (fun _ h => ?_)
 ·
  refine avc_sq2 <| avc_sq <| q1 ?_
  refine sq_nil ?_
  cases h
  refine avc_ret ?_
  exact ret_1 rfl
 ·
  refine avc_skip <| avc_sq2 <| avc_sq2 <| avc_sq <| q7 L45_0 ?_
  refine q8 O33 ?_
  refine q5 S33 ?_
  refine q0 ?_
  refine sq_nil <| avc_block ?_
  obtain ⟨y1, hy1, h⟩ := bE h
  refine avc_tail2 y1 (.exit 0) (fun y1 => ⟨[(1, .d (di a1)), (2, .d (.pt (eEntry.cells a0)))], []⟩) .ret (fun y1 => ⟨[(4, .d (di y1))], []⟩) ?_ ?_ ?_
  ·
   refine avc_loopM (fun x => ⟨[(1, .d (di a1)), (2, .d (.pt (eEntry.cells a0))), (29, .d (dsl eI a0.Codes)), (30, .d (di (a0.Codes.length : Int))), (31, .d (di x))], []⟩) hy1 (wc) ?_
   rintro v31 sy1 hsy1
   replace hsy1 : colltable_checkEntry_L0 a0 v31 = some sy1 := hsy1
   unfold colltable_checkEntry_L0 at hsy1
   refine avc_sq2 <| avc_sq <| q3 ?_
   refine sq_nil <| avc_sq2 ?_
   refine ifM rfl hsy1 (fun _ hsy1 => ?_) (fun _ hsy1 => ?_)
   ·
    refine avc_skip <| avc_sq2 <| avc_block <| avc_sq2 <| avc_sq ?_
    obtain ⟨t33, ht33, hsy1⟩ := bE hsy1
    refine q11 S33 ht33 ?_
    refine q29 O3 ht33 ?_
    refine q1 ?_
    refine sq_nil <| avc_sq2 <| avc_sq <| q0 ?_
    obtain ⟨t36, ht36, hsy1⟩ := bE hsy1
    refine q6 (codepoint_Valid_c ht36) ?_
    refine q22 ?_
    refine sq_nil ?_
    refine ifM rfl hsy1 (fun _ hsy1 => ?_) (fun _ hsy1 => ?_)
    ·
     refine avc_sq2 <| avc_sq <| q1 ?_
     refine sq_nil <| avc_ret ?_
     cases hsy1
     intro q; cases q
     exact ⟨rfl, wc⟩
    ·
     refine avc_skip <| avc_sq <| q2 ?_
     refine q0 ?_
     refine sq_nil ?_
     cases hsy1
     exact wc
   ·
    refine avc_exit ?_
    cases hsy1
    intro q; cases q
    exact ⟨rfl, wc⟩
  ·
   rintro y1 rfl
   replace h := eL h
   refine avc_sq2 <| avc_sq2 <| avc_sq <| q7 L45_1 ?_
   refine q8 O38 ?_
   refine q5 S38 ?_
   refine q0 ?_
   refine sq_nil <| avc_block ?_
   obtain ⟨y2, hy2, h⟩ := bE h
   refine avc_tail2 y2 (.exit 2) (fun y2 => ⟨[(1, .d (di a1)), (2, .d (.pt (eEntry.cells a0)))], []⟩) .ret (fun y2 => ⟨[(4, .d (di y2))], []⟩) ?_ ?_ ?_
   ·
    refine avc_loopM (fun x => ⟨[(1, .d (di a1)), (2, .d (.pt (eEntry.cells a0))), (40, .d (dsl eElement a0.Elements)), (41, .d (di (a0.Elements.length : Int))), (42, .d (di x))], []⟩) hy2 (wc) ?_
    rintro v42 sy2 hsy2
    replace hsy2 : colltable_checkEntry_L1 a0 v42 = some sy2 := hsy2
    unfold colltable_checkEntry_L1 at hsy2
    refine avc_sq2 <| avc_sq <| q3 ?_
    refine sq_nil <| avc_sq2 ?_
    refine ifM rfl hsy2 (fun _ hsy2 => ?_) (fun _ hsy2 => ?_)
    ·
     refine avc_skip <| avc_sq2 <| avc_block <| avc_sq2 <| avc_sq ?_
     obtain ⟨t44, ht44, hsy2⟩ := bE hsy2
     refine q11 S38 ht44 ?_
     refine sqa (m_loadEA (en := eElement) (l := a0.Elements) (i := v42) (v := t44) (off := 0) (lq rfl) G63 rfl ht44 rfl rfl (by decide)) ?_
     refine sq_b rfl (step_alloc (zs := [(.int IntKind.i64 (0)), (.int IntKind.i64 (0)), (.int IntKind.i64 (0)), (.bool false)]) (lq rfl) (by kernel_rfl) rfl rfl) ?_
     refine q14 G63 ?_
     refine sq_nil ?_
     refine avc_weak (weak_freeze (t := 8) (lq rfl) rfl rfl rfl) ?_
     refine avc_sq2 <| avc_sq <| q16 G63 ?_
     obtain ⟨t47, ht47, hsy2⟩ := bE hsy2
     refine q6 (element_Check_c ht47) ?_
     refine q1 ?_
     refine sq_nil <| avc_sq2 <| avc_sq <| q0 ?_
     refine q27 ?_
     refine sq_nil ?_
     refine ifM rfl hsy2 (fun _ hsy2 => ?_) (fun _ hsy2 => ?_)
     ·
      refine avc_sq2 <| avc_sq <| q0 ?_
      refine q1 ?_
      refine sq_nil <| avc_ret ?_
      cases hsy2
      intro q; cases q
      exact ⟨rfl, wc⟩
     ·
      refine avc_skip <| avc_sq <| q2 ?_
      refine q0 ?_
      refine sq_nil ?_
      cases hsy2
      exact wc
    ·
     refine avc_exit ?_
     cases hsy2
     intro q; cases q
     exact ⟨rfl, wc⟩
   ·
    rintro y2 rfl
    replace h := eL h
    refine avc_sq2 <| avc_sq2 <| avc_sq <| q7 L45_1 ?_
    refine q8 O38 ?_
    refine q5 S38 ?_
    refine q0 ?_
    refine sq_nil <| avc_block ?_
    obtain ⟨y3, hy3, h⟩ := bE h
    refine avc_tail2 y3 (.exit 4) (fun y3 => ⟨[], []⟩) .ret (fun y3 => ⟨[(4, .d (di y3))], []⟩) ?_ ?_ ?_
    ·
     refine avc_loopM (fun x => ⟨[(1, .d (di a1)), (53, .d (dsl eElement a0.Elements)), (54, .d (di (a0.Elements.length : Int))), (55, .d (di x))], []⟩) hy3 (wc) ?_
     rintro v55 sy3 hsy3
     replace hsy3 : colltable_checkEntry_L2 a0 a1 v55 = some sy3 := hsy3
     unfold colltable_checkEntry_L2 at hsy3
     refine avc_sq2 <| avc_sq <| q3 ?_
     refine sq_nil <| avc_sq2 ?_
     refine ifM rfl hsy3 (fun _ hsy3 => ?_) (fun _ hsy3 => ?_)
     ·
      refine avc_skip <| avc_sq2 <| avc_block <| avc_sq2 <| avc_sq ?_
      obtain ⟨t57, ht57, hsy3⟩ := bE hsy3
      refine q11 S38 ht57 ?_
      refine sqa (m_loadEA (en := eElement) (l := a0.Elements) (i := v55) (v := t57) (off := 0) (lq rfl) G63 rfl ht57 rfl rfl (by decide)) ?_
      refine sq_b rfl (step_alloc (zs := [(.int IntKind.i64 (0)), (.int IntKind.i64 (0)), (.int IntKind.i64 (0)), (.bool false)]) (lq rfl) (by kernel_rfl) rfl rfl) ?_
      refine q14 G63 ?_
      refine sq_nil ?_
      refine avc_weak (weak_freeze (t := 11) (lq rfl) rfl rfl rfl) ?_
      refine avc_sq2 <| avc_sq <| q7 L63_0 ?_
      refine q8 O3 ?_
      refine q0 ?_
      refine q30 ?_
      refine sq_nil ?_
      refine ifM rfl hsy3 (fun _ hsy3 => ?_) (fun _ hsy3 => ?_)
      ·
       refine avc_sq2 <| avc_sq <| q1 ?_
       refine sq_nil <| avc_ret ?_
       cases hsy3
       intro q; cases q
       exact ⟨rfl, wc⟩
      ·
       refine avc_skip <| avc_sq <| q2 ?_
       refine q0 ?_
       refine sq_nil ?_
       cases hsy3
       exact wc
     ·
      refine avc_exit ?_
      cases hsy3
      intro q; cases q
      exact ⟨rfl, wc⟩
    ·
     rintro y3 rfl
     replace h := eL h
     refine avc_sq2 <| avc_sq <| q1 ?_
     refine sq_nil ?_
     cases h
     refine avc_ret ?_
     exact ret_1 rfl
    ·
     rintro y3 rfl
     replace h := eR h
     cases h
     exact ret_1 rfl
   ·
    rintro y2 rfl
    replace h := eR h
    cases h
    exact ret_1 rfl
  ·
   rintro y1 rfl
   replace h := eR h
   cases h
   exact ret_1 rfl
theorem cmp_isNaN_int_c  {a0}  {r} (h : cmp_isNaN_int a0 = some r) : Contract Tryz.prog 101 [(di a0)] [(db r)] := by
 refine contract_of Tryz.func101 (by kernel_rfl) rfl (lq rfl) (lq rfl) fun w0 I0 hI0 hG0 => ?_
 unfold cmp_isNaN_int at h
 refine avc_sq2 <| avc_sq <| q1 ?_
 refine sq_nil <| avc_sq2 <| avc_sq <| q0 ?_
 refine q0 ?_
 refine q27 ?_
 refine q1 ?_
 refine sq_nil ?_
 cases h
 refine avc_ret ?_
 exact ret_1 rfl
theorem cmp_Compare_int_c  {a0} {a1}  {r} (h : cmp_Compare_int a0 a1 = some r) : Contract Tryz.prog 75 [(di a0), (di a1)] [(di r)] := by
 refine contract_of Tryz.func75 (by kernel_rfl) rfl (lq rfl) (lq rfl) fun w0 I0 hI0 hG0 => ?_
 unfold cmp_Compare_int at h
 refine avc_sq2 <| avc_sq <| q1 ?_
 refine sq_nil <| avc_sq2 <| avc_sq <| q0 ?_
 obtain ⟨t8, ht8, h⟩ := bE h
 refine q6 (cmp_isNaN_int_c ht8) ?_
 refine q1 ?_
 refine sq_nil <| avc_sq2 <| avc_sq <| q0 ?_
 obtain ⟨t10, ht10, h⟩ := bE h
 refine q6 (cmp_isNaN_int_c ht10) ?_
 refine q1 ?_
 refine sq_nil <| avc_sq2 <| avc_sq2 <| avc_sq <| q0 ?_
 refine sq_nil ?_
 refine ifM rfl h (fun _ h => ?_) (fun _ h => ?_)
 ·
  refine avc_sq2 <| avc_sq2 <| avc_sq <| q0 ?_
  refine sq_nil ?_
  refine ifM rfl h (fun _ h => ?_) (fun _ h => ?_)
  ·
   refine avc_sq2 <| avc_sq <| q1 ?_
   refine sq_nil ?_
   cases h
   refine avc_ret ?_
   exact ret_1 rfl
  ·
   refine avc_skip <| avc_sq2 <| avc_sq <| q1 ?_
   refine sq_nil ?_
   cases h
   refine avc_ret ?_
   exact ret_1 rfl
 ·
  refine avc_skip <| avc_sq2 <| avc_sq2 <| avc_sq <| q0 ?_
  refine sq_nil ?_
  refine ifM rfl h (fun _ h => ?_) (fun _ h => ?_)
  ·
   refine avc_sq2 <| avc_sq <| q1 ?_
   refine sq_nil ?_
   cases h
   refine avc_ret ?_
   exact ret_1 rfl
  ·
   refine avc_skip <| avc_sq2 <| avc_sq2 <| avc_sq <| q0 ?_
   refine q0 ?_
   refine q3 ?_
   refine sq_nil ?_
   refine ifM rfl h (fun _ h => ?_) (fun _ h => ?_)
   ·
    refine avc_sq2 <| avc_sq <| q1 ?_
    refine sq_nil ?_
    cases h
    refine avc_ret ?_
    exact ret_1 rfl
   ·
    refine avc_skip <| avc_sq2 <| avc_sq2 <| avc_sq <| q0 ?_
    refine q0 ?_
    refine q37 ?_
    refine sq_nil ?_
    refine ifM rfl h (fun _ h => ?_) (fun _ h => ?_)
    ·
     refine avc_sq2 <| avc_sq <| q1 ?_
     refine sq_nil ?_
     cases h
     refine avc_ret ?_
     exact ret_1 rfl
    ·
     refine avc_skip <| avc_sq2 <| avc_sq <| q1 ?_
     refine sq_nil ?_
     cases h
     refine avc_ret ?_
     exact ret_1 rfl
theorem codepoint_Compare_c  {a0} {a1}  {r} (h : codepoint_Compare a0 a1 = some r) : Contract Tryz.prog 53 [(dsl eI a0), (dsl eI a1)] [(di r)] := by
 refine contract_of Tryz.func53 (by kernel_rfl) rfl (lq rfl) (lq rfl) fun w0 I0 hI0 hG0 => ?_
 unfold codepoint_Compare at h
 refine avc_sq2 <| avc_sq <| q1 ?_
 refine sq_nil <| avc_sq2 <| avc_sq2 <| avc_sq <| q0 ?_
 refine q5 S33 ?_
 refine q0 ?_
 refine q5 S33 ?_
 refine q103 ?_
 refine q0 ?_
 refine sq_nil <| avc_block ?_
 obtain ⟨y1, hy1, h⟩ := bE h
 refine avc_tail2 y1 (.exit 0) (fun y1 => ⟨[(0, .d (dsl eI a0)), (1, .d (dsl eI a1))], []⟩) .ret (fun y1 => ⟨[(4, .d (di y1))], []⟩) ?_ ?_ ?_
 ·
  refine avc_loopM (fun x => ⟨[(0, .d (dsl eI a0)), (1, .d (dsl eI a1)), (10, .d (di (min (a0.length : Int) (a1.length : Int)))), (11, .d (di x))], []⟩) hy1 (wc) ?_
  rintro v11 sy1 hsy1
  replace hsy1 : codepoint_Compare_L0 a0 a1 v11 = some sy1 := hsy1
  unfold codepoint_Compare_L0 at hsy1
  refine avc_sq2 <| avc_sq <| q3 ?_
  refine sq_nil <| avc_sq2 ?_
  refine ifM rfl hsy1 (fun _ hsy1 => ?_) (fun _ hsy1 => ?_)
  ·
   refine avc_skip <| avc_sq2 <| avc_block <| avc_sq2 <| avc_sq <| q0 ?_
   refine q1 ?_
   refine sq_nil <| avc_sq2 ?_
   refine avc_drawA MX rfl ?_
   refine q4 ?_
   refine q4 ?_
   obtain ⟨t16, ht16, hsy1⟩ := bE hsy1
   refine q17 S33 ht16 ?_
   refine q51 O3 ht16 ?_
   refine q4 ?_
   refine q4 ?_
   obtain ⟨t20, ht20, hsy1⟩ := bE hsy1
   refine q17 S33 ht20 ?_
   refine q51 O3 ht20 ?_
   refine daa (a_neq (lq rfl) rfl rfl) ?_
   refine da_nil ?_
   refine ifM rfl hsy1 (fun _ hsy1 => ?_) (fun _ hsy1 => ?_)
   ·
    refine avc_sq2 ?_
    refine avc_drawA MX rfl ?_
    refine q4 ?_
    refine q4 ?_
    obtain ⟨t25, ht25, hsy1⟩ := bE hsy1
    refine q17 S33 ht25 ?_
    refine q51 O3 ht25 ?_
    refine q4 ?_
    refine q4 ?_
    obtain ⟨t29, ht29, hsy1⟩ := bE hsy1
    refine q17 S33 ht29 ?_
    refine q51 O3 ht29 ?_
    obtain ⟨t31, ht31, hsy1⟩ := bE hsy1
    refine q20 (cmp_Compare_int_c ht31) ?_
    refine q26 ?_
    refine da_nil <| avc_ret ?_
    cases hsy1
    intro q; cases q
    exact ⟨rfl, wc⟩
   ·
    refine avc_skip <| avc_sq <| q2 ?_
    refine q0 ?_
    refine sq_nil ?_
    cases hsy1
    exact wc
  ·
   refine avc_exit ?_
   cases hsy1
   intro q; cases q
   exact ⟨rfl, wc⟩
 ·
  rintro y1 rfl
  replace h := eL h
  refine avc_sq2 <| avc_sq <| q0 ?_
  refine q5 S33 ?_
  refine q0 ?_
  refine q5 S33 ?_
  obtain ⟨t37, ht37, h⟩ := bE h
  refine q6 (cmp_Compare_int_c ht37) ?_
  refine q1 ?_
  refine sq_nil ?_
  cases h
  refine avc_ret ?_
  exact ret_1 rfl
 ·
  rintro y1 rfl
  replace h := eR h
  cases h
  exact ret_1 rfl
theorem colltable_Check_c  {a0}  {r} (h : colltable_Check a0 = some r) : Contract Tryz.prog 26 [(eCollation.dv a0)] [(di r)] := by
 refine contract_of Tryz.func26 (by kernel_rfl) rfl (lq rfl) (lq rfl) fun w0 I0 hI0 hG0 => ?_
 unfold colltable_Check at h
 refine avc_sq2 <| avc_sq <| q41 ?_
 refine q1 ?_
 refine sq_nil <| avc_sq2 <| avc_sq2 <| avc_sq <| q7 L32_2 ?_
 refine q8 O3 ?_
 refine q3 ?_
 obtain ⟨b10, hb10, h⟩ := bE h
 refine sqa ((a_move_d (lq rfl) rfl).bool (Option.some.inj hb10)) ?_
 refine q23 (.ip (eCollation.cells a0) (0 + 2)) L32_2 ?_
 refine q24 (.d (di a0.Base)) O3 ?_
 refine q46 (.d (db (decide (65502 < a0.Base)))) ?_
 refine q15 ?_
 obtain ⟨b15, hb15, h⟩ := bE h
 refine sqa ((a_move_d (lq rfl) rfl).bool (Option.some.inj hb15)) ?_
 refine q23 (.ip (eCollation.cells a0) (0 + 3)) L32_3 ?_
 refine q24 (.d (di a0.Second)) O3 ?_
 obtain ⟨t18, ht18, h⟩ := bE h
 refine sqf (.d (db t18)) rfl (fun hb => by subst hb; exact a_call (lq rfl) rfl (colltable_isWeight_c ht18)) ?_
 refine q91 (.d (db (!t18))) ?_
 refine q15 ?_
 obtain ⟨b21, hb21, h⟩ := bE h
 refine sqa ((a_move_d (lq rfl) rfl).bool (Option.some.inj hb21)) ?_
 refine q23 (.ip (eCollation.cells a0) (0 + 4)) L32_4 ?_
 refine q24 (.d (di a0.Third)) O3 ?_
 obtain ⟨t24, ht24, h⟩ := bE h
 refine sqf (.d (db t24)) rfl (fun hb => by subst hb; exact a_call (lq rfl) rfl (colltable_isWeight_c ht24)) ?_
 refine q91 (.d (db (!t24))) ?_
 refine q15 ?_
 refine sq_nil ?_
 refine ifM rfl h (fun _ h => ?_) (fun _ h => ?_)
 ·
  refine avc_sq2 <| avc_sq <| q1 ?_
  refine sq_nil ?_
  cases h
  refine avc_ret ?_
  exact ret_1 rfl
 ·
  refine avc_skip <| avc_sq2 <| avc_sq2 <| avc_sq <| q16 G32 ?_
  obtain ⟨t28, ht28, h⟩ := bE h
  refine q6 (colltable_checkGroups_c ht28) ?_
  refine q1 ?_
  refine sq_nil <| avc_sq2 <| avc_sq <| q0 ?_
  refine q27 ?_
  refine sq_nil ?_
  refine ifM rfl h (fun _ h => ?_) (fun _ h => ?_)
  ·
   refine avc_sq2 <| avc_sq <| q0 ?_
   refine q1 ?_
   refine sq_nil ?_
   cases h
   refine avc_ret ?_
   exact ret_1 rfl
  ·
   refine avc_skip <| avc_sq2 <| avc_sq2 <| avc_sq <| q7 L32_0 ?_
   refine q8 O29 ?_
   refine q5 S29 ?_
   refine q0 ?_
   refine sq_nil <| avc_block ?_
   obtain ⟨y1, hy1, h⟩ := bE h
   refine avc_tail2 y1 (.exit 0) (fun y1 => ⟨[], []⟩) .ret (fun y1 => ⟨[(2, .d (di y1))], []⟩) ?_ ?_ ?_
   ·
    refine avc_loopM (fun x => ⟨[(1, .d (.pt (eCollation.cells a0))), (33, .d (dsl eEntry a0.Entries)), (34, .d (di (a0.Entries.length : Int))), (35, .d (di x))], []⟩) hy1 (wc) ?_
    rintro v35 sy1 hsy1
    replace hsy1 : colltable_Check_L0 a0 v35 = some sy1 := hsy1
    unfold colltable_Check_L0 at hsy1
    refine avc_sq2 <| avc_sq <| q3 ?_
    refine sq_nil <| avc_sq2 ?_
    refine ifM rfl hsy1 (fun _ hsy1 => ?_) (fun _ hsy1 => ?_)
    ·
     refine avc_skip <| avc_sq2 <| avc_block <| avc_sq2 <| avc_sq <| q0 ?_
     obtain ⟨t38, ht38, hsy1⟩ := bE hsy1
     refine q11 S29 ht38 ?_
     refine sqa (m_loadEA (en := eEntry) (l := a0.Entries) (i := v35) (v := t38) (off := 0) (lq rfl) G45 rfl ht38 rfl rfl (by decide)) ?_
     refine sq_b rfl (step_alloc (zs := [(.slice none 0 0), (.slice none 0 0)]) (lq rfl) (by kernel_rfl) rfl rfl) ?_
     refine q1 ?_
     refine q14 G45 ?_
     refine sq_nil ?_
     refine avc_weak (weak_freeze (t := 5) (lq rfl) rfl rfl rfl) ?_
     refine avc_sq2 <| avc_sq2 <| avc_sq <| q16 G45 ?_
     refine q7 L32_2 ?_
     refine q8 O3 ?_
     obtain ⟨t43, ht43, hsy1⟩ := bE hsy1
     refine q6 (colltable_checkEntry_c ht43) ?_
     refine q1 ?_
     refine sq_nil <| avc_sq2 <| avc_sq <| q0 ?_
     refine q27 ?_
     refine sq_nil ?_
     refine ifM rfl hsy1 (fun _ hsy1 => ?_) (fun _ hsy1 => ?_)
     ·
      refine avc_sq2 <| avc_sq <| q0 ?_
      refine q1 ?_
      refine sq_nil <| avc_ret ?_
      cases hsy1
      intro q; cases q
      exact ⟨rfl, wc⟩
     ·
      refine avc_skip <| avc_sq2 ?_
      refine avc_drawA MX rfl ?_
      refine q4 ?_
      refine q80 ?_
      obtain ⟨b49, hb49, hsy1⟩ := bE hsy1
      refine daa ((a_move_d (lq rfl) rfl).bool (Option.some.inj hb49)) ?_
      refine q40 (.ip (eCollation.cells a0) (0 + 0)) L32_0 ?_
      refine q55 (.d (dsl eEntry a0.Entries)) O29 ?_
      refine q38 (.d (di v35)) ?_
      refine q90 (.d (di (wi (v35 - 1)))) ?_
      obtain ⟨t54, ht54, hsy1⟩ := bE hsy1
      refine q71 (.ip (eEntry.all a0.Entries) ((wi (v35 - 1)).toNat * eEntry.size)) S29 ht54 ?_
      refine q72 (.ip (eEntry.all a0.Entries) ((wi (v35 - 1)).toNat * eEntry.size + 0)) L45_0 ?_
      refine dat (.d (dsl eI t54.Codes)) rfl (fun hb => by subst hb; exact m_loadE (en := eEntry) (l := a0.Entries) (i := (wi (v35 - 1))) (v := t54) (off := 0) (lq rfl) O33 rfl ht54 rfl) ?_
      refine q40 (.ip (eEntry.cells t38) (0 + 0)) L45_0 ?_
      refine q55 (.d (dsl eI t38.Codes)) O33 ?_
      obtain ⟨t59, ht59, hsy1⟩ := bE hsy1
      refine dat (.d (di t59)) rfl (fun hb => by subst hb; exact a_call (lq rfl) rfl (codepoint_Compare_c ht59)) ?_
      refine dat (.d (db (decide (0 ≤ t59)))) rfl (fun hb => by subst hb; exact a_geq (lq rfl) rfl rfl) ?_
      refine q50 ?_
      refine da_nil ?_
      refine ifM rfl hsy1 (fun _ hsy1 => ?_) (fun _ hsy1 => ?_)
      ·
       refine avc_sq2 <| avc_sq <| q1 ?_
       refine sq_nil <| avc_ret ?_
       cases hsy1
       intro q; cases q
       exact ⟨rfl, wc⟩
      ·
       refine avc_skip <| avc_sq <| q2 ?_
       refine q0 ?_
       refine sq_nil ?_
       cases hsy1
       exact wc
    ·
     refine avc_exit ?_
     cases hsy1
     intro q; cases q
     exact ⟨rfl, wc⟩
   ·
    rintro y1 rfl
    replace h := eL h
    refine avc_sq2 <| avc_sq <| q1 ?_
    refine sq_nil ?_
    cases h
    refine avc_ret ?_
    exact ret_1 rfl
   ·
    rintro y1 rfl
    replace h := eR h
    cases h
    exact ret_1 rfl
theorem colltable_keyOf_c  {a0}  {r} (h : colltable_keyOf a0 = some r) : Contract Tryz.prog 54 [(dsl eI a0)] [(eA9Int.dv r)] := by
 refine contract_of Tryz.func54 (by kernel_rfl) rfl (lq rfl) (lq rfl) fun w0 I0 hI0 hG0 => ?_
 unfold colltable_keyOf at h
 refine avc_sq2 <| avc_sq ?_
 refine sq_b rfl (step_alloc (zs := [(.int IntKind.i64 (0)), (.int IntKind.i64 (0)), (.int IntKind.i64 (0)), (.int IntKind.i64 (0)), (.int IntKind.i64 (0)), (.int IntKind.i64 (0)), (.int IntKind.i64 (0)), (.int IntKind.i64 (0)), (.int IntKind.i64 (0))]) (lq rfl) (by kernel_rfl) rfl rfl) ?_
 refine sq_nil <| avc_sq2 <| avc_sq <| q0 ?_
 refine q5 S33 ?_
 refine q102 A92 ?_
 refine sq_b rfl (step_alloc (zs := [(.int IntKind.i64 (0)), (.int IntKind.i64 (0)), (.int IntKind.i64 (0)), (.int IntKind.i64 (0)), (.int IntKind.i64 (0)), (.int IntKind.i64 (0)), (.int IntKind.i64 (0)), (.int IntKind.i64 (0)), (.int IntKind.i64 (0))]) (lq rfl) (by kernel_rfl) rfl rfl) ?_
 refine q14 G92 ?_
 refine sq_nil <| avc_sq2 <| avc_sq ?_
 refine sqa (a_slice_arr 1 (lq rfl) A92 rfl (by decide)) ?_
 refine q0 ?_
 refine sq_b rfl (m_copy8 (l := a0) (lq rfl) S33 rfl rfl rfl rfl) ?_
 refine sq_nil <| avc_sq2 <| avc_sq ?_
 refine sqa ((a_load_boxA (lq rfl) G92 rfl rfl rfl rfl).data rfl) ?_
 refine q14 G92 ?_
 refine sq_nil ?_
 cases h
 refine avc_ret ?_
 exact ret_cellA rfl rfl G92 rfl
theorem colltable_made_g  {a0}  {r : Colltable_table} (h : colltable_made a0 = some r) : GC Tryz.prog 28 [.d (eCollation.dv a0)] [] [] [.ptr 13 0] [(13, .box 90 [.d (dsl eEntry r.c.Entries), .d (dsl eGroup r.c.Groups), .d (di r.c.Base), .d (di r.c.Second), .d (di r.c.Third), .row 11, .d (di r.longest), .d (dsl eSpan r.classes), .d (di r.top)]), (11, .map (mapE kA9Int (eL eElement) r.entries))] := by
 refine gc_of Tryz.func28 (by kernel_rfl) rfl (lq rfl) (lq rfl) fun w0 I0 hG0 p0 => ?_
 unfold colltable_made at h
 refine avc_sq2 <| avc_sq ?_
 refine sq_b rfl (s_box_agg (lq rfl) rfl rfl) ?_
 refine q1 ?_
 refine sq_nil <| avc_sq2 <| avc_sq2 <| avc_sq ?_
 refine sqa ((a_load_boxA (lq rfl) G32 rfl rfl rfl rfl).data rfl) ?_
 obtain ⟨t7, ht7, h⟩ := bE h
 refine q6 (colltable_Check_c ht7) ?_
 refine q27 ?_
 refine sq_nil ?_
 obtain ⟨y1, hy1, h⟩ := bE h
 refine avc_tail (e := .normal) (S2 := ⟨[(1, .ptr 1 0)], [(1, .box 32 [.d (dsl eEntry y1.1), .d (dsl eGroup y1.2.1), .d (di y1.2.2.1), .d (di y1.2.2.2.1), .d (di y1.2.2.2.2)])]⟩) ?_ ?_
 ·
  refine ifM rfl hy1 (fun _ hy1 => ?_) (fun _ hy1 => ?_)
  ·
   refine avc_sq ?_
   refine sqa ((m_build (lq rfl) B32 rfl rfl).nils (bs := eCollation.cells ({ Entries := [], Groups := [], Base := 64448, Second := 32, Third := 2 } : Collation)) (nlN (nlN (nlE (nlE (nlE nl0)))))) ?_
   refine q14 G32 ?_
   refine sq_nil ?_
   cases hy1
   exact out_mk (wc)
  ·
   refine avc_skip ?_
   cases hy1
   exact out_mk (wc)
 ·
  refine avc_sq2 <| avc_sq ?_
  refine sqa ((a_load_boxA (lq rfl) G32 rfl rfl rfl rfl).data rfl) ?_
  refine q101 ?_
  refine sqa (m_buildR [(0, .tmp 10)] 1 (.tmp 11) (lq rfl) B90 rfl rfl rfl rfl rfl rfl) ?_
  refine sq_b rfl (s_box_aggc (lq rfl) rfl rfl) ?_
  refine sqa (a_assign_ptr (lq rfl) rfl) ?_
  refine sq_nil <| avc_sq2 <| avc_sq2 <| avc_sq <| q56 L32_0 ?_
  refine q33 O29 ?_
  refine q5 S29 ?_
  refine q0 ?_
  refine sq_nil <| avc_block ?_
  obtain ⟨y2, hy2, h⟩ := bE h
  refine avc_tail (e := (.exit 0)) (S2 := ⟨[(3, .ptr 13 0)], [(11, .map (mapE kA9Int (eL eElement) y2.1)), (13, .box 90 [.d (dsl eEntry (({ Entries := y1.1, Groups := y1.2.1, Base := y1.2.2.1, Second := y1.2.2.2.1, Third := y1.2.2.2.2 } : Collation).Entries)), .d (dsl eGroup (({ Entries := y1.1, Groups := y1.2.1, Base := y1.2.2.1, Second := y1.2.2.2.1, Third := y1.2.2.2.2 } : Collation).Groups)), .d (di (({ Entries := y1.1, Groups := y1.2.1, Base := y1.2.2.1, Second := y1.2.2.2.1, Third := y1.2.2.2.2 } : Collation).Base)), .d (di (({ Entries := y1.1, Groups := y1.2.1, Base := y1.2.2.1, Second := y1.2.2.2.1, Third := y1.2.2.2.2 } : Collation).Second)), .d (di (({ Entries := y1.1, Groups := y1.2.1, Base := y1.2.2.1, Second := y1.2.2.2.1, Third := y1.2.2.2.2 } : Collation).Third)), .row 11, .d (di y2.2), .d (.v (.slice none 0 0)), .d (di 0)])]⟩) ?_ ?_
  ·
   refine avc_loopM (fun x => ⟨[(3, .ptr 13 0), (15, .d (dsl eEntry y1.1)), (16, .d (di (y1.1.length : Int))), (17, .d (di x.1))], [(11, .map (mapE kA9Int (eL eElement) x.2.1)), (13, .box 90 [.d (dsl eEntry (({ Entries := y1.1, Groups := y1.2.1, Base := y1.2.2.1, Second := y1.2.2.2.1, Third := y1.2.2.2.2 } : Collation).Entries)), .d (dsl eGroup (({ Entries := y1.1, Groups := y1.2.1, Base := y1.2.2.1, Second := y1.2.2.2.1, Third := y1.2.2.2.2 } : Collation).Groups)), .d (di (({ Entries := y1.1, Groups := y1.2.1, Base := y1.2.2.1, Second := y1.2.2.2.1, Third := y1.2.2.2.2 } : Collation).Base)), .d (di (({ Entries := y1.1, Groups := y1.2.1, Base := y1.2.2.1, Second := y1.2.2.2.1, Third := y1.2.2.2.2 } : Collation).Second)), .d (di (({ Entries := y1.1, Groups := y1.2.1, Base := y1.2.2.1, Second := y1.2.2.2.1, Third := y1.2.2.2.2 } : Collation).Third)), .row 11, .d (di x.2.2), .d (.v (.slice none 0 0)), .d (di 0)])]⟩) hy2 (wc) ?_
   rintro ⟨v17, r11, k13_6⟩ sy2 hsy2
   replace hsy2 : colltable_made_L0 y1 v17 r11 k13_6 = some sy2 := hsy2
   unfold colltable_made_L0 at hsy2
   refine avc_sq2 <| avc_sq <| q3 ?_
   refine sq_nil <| avc_sq2 ?_
   refine ifM rfl hsy2 (fun _ hsy2 => ?_) (fun _ hsy2 => ?_)
   ·
    refine avc_skip <| avc_sq2 <| avc_block <| avc_sq2 <| avc_sq ?_
    obtain ⟨t19, ht19, hsy2⟩ := bE hsy2
    refine q11 S29 ht19 ?_
    refine sqa (m_loadEA (en := eEntry) (l := y1.1) (i := v17) (v := t19) (off := 0) (lq rfl) G45 rfl ht19 rfl rfl (by decide)) ?_
    refine sq_b rfl (step_alloc (zs := [(.slice none 0 0), (.slice none 0 0)]) (lq rfl) (by kernel_rfl) rfl rfl) ?_
    refine q14 G45 ?_
    refine sq_nil ?_
    refine avc_weak (weak_freeze (t := 5) (lq rfl) rfl rfl rfl) ?_
    refine avc_sq2 ?_
    refine avc_draw 9 MX rfl ?_
    refine q104 ?_
    refine q105 ?_
    refine q73 L90_1 ?_
    refine q124 O88 ?_
    refine q19 L45_0 ?_
    refine q21 O33 ?_
    obtain ⟨t27, ht27, hsy2⟩ := bE hsy2
    refine q20 (colltable_keyOf_c ht27) ?_
    refine q19 L45_1 ?_
    refine q21 O38 ?_
    refine da_nil ?_
    refine sq_b rfl (m_mapUpdateK (kv := kA9Int) (ev := (eL eElement)) (mp := r11) (k := t27) (v := t19.Elements) M88 K92 rfl rfl rfl (kAgg rfl) rfl rfl rfl) ?_
    refine sq_nil ?_
    refine avc_draw 11 MX rfl ?_
    refine q104 ?_
    refine q104 ?_
    refine q105 ?_
    refine q73 L90_2 ?_
    refine q124 O3 ?_
    refine q19 L45_0 ?_
    refine q21 O33 ?_
    refine daa (m_len (en := eI) (l := t19.Codes) (lq rfl) S33 rfl) ?_
    refine daa (a_max (lq rfl) rfl rfl) ?_
    refine q105 ?_
    refine q73 L90_2 ?_
    refine da_nil <| q82 O3 ?_
    refine sq_nil <| avc_sq <| q2 ?_
    refine q0 ?_
    refine sq_nil ?_
    cases hsy2
    exact wc
   ·
    refine avc_exit ?_
    cases hsy2
    intro q; cases q
    exact out_mk (wc)
  ·
   refine avc_sq2 <| avc_sq <| q125 ?_
   refine sqa (a_assign_ptr (lq rfl) rfl) ?_
   refine sq_nil ?_
   refine avc_weak (weak_nilbox_d (bid := 13) (off := 7) eSpan.size rfl rfl) ?_
   cases h
   refine avc_ret ?_
   exact ⟨⟨_, _, rfl, rfl, rfl⟩, ⟨rfl, rfl, trivial⟩⟩
set_option maxHeartbeats 8000000 in
theorem ordering_Check_c  {a0}  {r} (h : ordering_Check a0 = some r) : Contract Tryz.prog 76 [(dsl eSpan a0)] [(di r)] := by
 refine contract_of Tryz.func76 (by kernel_rfl) rfl (lq rfl) (lq rfl) fun w0 I0 hI0 hG0 => ?_
 unfold ordering_Check at h
 refine avc_sq2 <| avc_sq <| q1 ?_
 refine sq_nil <| avc_sq2 <| avc_sq2 <| avc_sq <| q0 ?_
 refine q5 S22 ?_
 refine q0 ?_
 refine sq_nil <| avc_block ?_
 obtain ⟨y1, hy1, h⟩ := bE h
 refine avc_tail2 y1 (.exit 0) (fun y1 => ⟨[(0, .d (dsl eSpan a0))], []⟩) .ret (fun y1 => ⟨[(2, .d (di y1))], []⟩) ?_ ?_ ?_
 ·
  refine avc_loopM (fun x => ⟨[(0, .d (dsl eSpan a0)), (12, .d (dsl eSpan a0)), (13, .d (di (a0.length : Int))), (14, .d (di x))], []⟩) hy1 (wc) ?_
  rintro v14 sy1 hsy1
  replace hsy1 : ordering_Check_L0 a0 v14 = some sy1 := hsy1
  unfold ordering_Check_L0 at hsy1
  refine avc_sq2 <| avc_sq <| q3 ?_
  refine sq_nil <| avc_sq2 ?_
  refine ifM rfl hsy1 (fun _ hsy1 => ?_) (fun _ hsy1 => ?_)
  ·
   refine avc_skip <| avc_sq2 <| avc_block <| avc_sq2 <| avc_sq ?_
   obtain ⟨t16, ht16, hsy1⟩ := bE hsy1
   refine q11 S22 ht16 ?_
   refine q126 G61 ht16 ?_
   refine q92 ?_
   refine q14 G61 ?_
   refine sq_nil ?_
   refine avc_weak (weak_freeze (t := 4) (lq rfl) rfl rfl rfl) ?_
   refine avc_sq2 <| avc_sq <| q7 L61_0 ?_
   refine q8 O3 ?_
   refine q3 ?_
   obtain ⟨b21, hb21, hsy1⟩ := bE hsy1
   refine sqa ((a_move_d (lq rfl) rfl).bool (Option.some.inj hb21)) ?_
   refine q23 (.ip (eSpan.cells t16) (0 + 1)) L61_1 ?_
   refine q24 (.d (di t16.Hi)) O3 ?_
   refine q46 (.d (db (decide (1114111 < t16.Hi)))) ?_
   refine q15 ?_
   obtain ⟨b26, hb26, hsy1⟩ := bE hsy1
   refine sqa ((a_move_d (lq rfl) rfl).bool (Option.some.inj hb26)) ?_
   refine q23 (.ip (eSpan.cells t16) (0 + 0)) L61_0 ?_
   refine q24 (.d (di t16.Lo)) O3 ?_
   refine q23 (.ip (eSpan.cells t16) (0 + 1)) L61_1 ?_
   refine q24 (.d (di t16.Hi)) O3 ?_
   refine q46 (.d (db (decide (t16.Hi < t16.Lo)))) ?_
   refine q15 ?_
   obtain ⟨b33, hb33, hsy1⟩ := bE hsy1
   refine sqa ((a_move_d (lq rfl) rfl).bool (Option.some.inj hb33)) ?_
   refine q23 (.ip (eSpan.cells t16) (0 + 2)) L61_2 ?_
   refine q24 (.d (di t16.Value)) O3 ?_
   refine sqf (.d (db (decide (t16.Value < 1)))) rfl (fun hb => by subst hb; exact a_lss (lq rfl) rfl rfl) ?_
   refine q15 ?_
   obtain ⟨b38, hb38, hsy1⟩ := bE hsy1
   refine sqa ((a_move_d (lq rfl) rfl).bool (Option.some.inj hb38)) ?_
   refine q23 (.ip (eSpan.cells t16) (0 + 2)) L61_2 ?_
   refine q24 (.d (di t16.Value)) O3 ?_
   refine q46 (.d (db (decide (254 < t16.Value)))) ?_
   refine q15 ?_
   refine sq_nil ?_
   refine ifM rfl hsy1 (fun _ hsy1 => ?_) (fun _ hsy1 => ?_)
   ·
    refine avc_sq2 <| avc_sq <| q1 ?_
    refine sq_nil <| avc_ret ?_
    cases hsy1
    intro q; cases q
    exact ⟨rfl, wc⟩
   ·
    refine avc_skip <| avc_sq <| q2 ?_
    refine q0 ?_
    refine sq_nil ?_
    cases hsy1
    exact wc
  ·
   refine avc_exit ?_
   cases hsy1
   intro q; cases q
   exact ⟨rfl, wc⟩
 ·
  rintro y1 rfl
  replace h := eL h
  refine avc_sq2 <| avc_sq2 <| avc_sq <| q1 ?_
  refine sq_nil <| avc_block ?_
  obtain ⟨y2, hy2, h⟩ := bE h
  refine avc_tail2 y2 (.exit 2) (fun y2 => ⟨[(0, .d (dsl eSpan a0))], []⟩) .ret (fun y2 => ⟨[(2, .d (di y2))], []⟩) ?_ ?_ ?_
  ·
   refine avc_loopM (fun x => ⟨[(0, .d (dsl eSpan a0)), (5, .d (di x))], []⟩) hy2 (wc) ?_
   rintro v5 sy2 hsy2
   replace hsy2 : ordering_Check_L1 a0 v5 = some sy2 := hsy2
   unfold ordering_Check_L1 at hsy2
   refine avc_sq2 <| avc_sq2 <| avc_sq <| q0 ?_
   refine q0 ?_
   refine q5 S22 ?_
   refine q3 ?_
   refine sq_nil ?_
   refine ifM rfl hsy2 (fun _ hsy2 => ?_) (fun _ hsy2 => ?_)
   ·
    refine avc_skip <| avc_sq2 <| avc_block <| avc_sq2 ?_
    obtain ⟨t53, ht53, hsy2⟩ := bE hsy2
    obtain ⟨t57, ht57, hsy2⟩ := bE hsy2
    refine avc_tail (e := .normal) (S2 := ⟨[(0, .d (dsl eSpan a0)), (5, .d (di v5)), (6, .ptr 6 0), (7, .ptr 7 0)], [(6, .box 61 [.d (di t53.Lo), .d (di t53.Hi), .d (di t53.Value)]), (7, .box 61 [.d (di t57.Lo), .d (di t57.Hi), .d (di t57.Value)])]⟩) ?_ ?_
    ·
     refine avc_any MX ?_
     refine any_move (i := 0) rfl (lq rfl) rfl rfl rfl rfl ?_
     refine any_move (i := 1) rfl (lq rfl) rfl rfl rfl rfl ?_
     refine any_sub (i := 2) rfl (lq rfl) rfl rfl rfl rfl rfl rfl ?_
     refine any_index (en := eSpan) (i := 3) rfl (lq rfl) S22 rfl rfl ht53 rfl rfl rfl rfl ?_
     refine any_move (i := 5) rfl (lq rfl) rfl rfl rfl rfl ?_
     refine any_move (i := 6) rfl (lq rfl) rfl rfl rfl rfl ?_
     refine any_index (en := eSpan) (i := 7) rfl (lq rfl) S22 rfl rfl ht57 rfl rfl rfl rfl ?_
     refine xn [4,8,9,10] ?_
     refine xa rfl (m_loadEA (en := eSpan) (l := a0) (i := (wi (v5 - 1))) (v := t53) (off := 0) (lq rfl) G61 rfl ht53 rfl rfl (by decide)) ?_ ?_
     ·
      refine xn [8,9,10] ?_
      refine xa rfl (m_loadEA (en := eSpan) (l := a0) (i := v5) (v := t57) (off := 0) (lq rfl) G61 rfl ht57 rfl rfl (by decide)) ?_ ?_
      ·
       refine xn [9,10] ?_
       refine xb rfl (step_alloc (zs := [(.int IntKind.i64 (0)), (.int IntKind.i64 (0)), (.int IntKind.i64 (0))]) (lq rfl) (by kernel_rfl) rfl rfl) ?_ ?_
       ·
        refine xn [10] ?_
        refine xd rfl (step_alloc (zs := [(.int IntKind.i64 (0)), (.int IntKind.i64 (0)), (.int IntKind.i64 (0))]) (lq rfl) (by kernel_rfl) rfl rfl) ?_
        refine xn [11] ?_
        refine xd rfl (s_store_boxA G61 rfl rfl rfl rfl rfl rfl) ?_
        refine xn [12] ?_
        refine xd rfl (s_store_boxA G61 rfl rfl rfl rfl rfl rfl) ?_
        exact any_end rfl (out_mk (wc))
       refine xd rfl (step_alloc (zs := [(.int IntKind.i64 (0)), (.int IntKind.i64 (0)), (.int IntKind.i64 (0))]) (lq rfl) (by kernel_rfl) rfl rfl) ?_
       refine xn [9] ?_
       refine xd rfl (step_alloc (zs := [(.int IntKind.i64 (0)), (.int IntKind.i64 (0)), (.int IntKind.i64 (0))]) (lq rfl) (by kernel_rfl) rfl rfl) ?_
       refine xn [11] ?_
       refine xd rfl (s_store_boxA G61 rfl rfl rfl rfl rfl rfl) ?_
       refine xn [12] ?_
       refine xd rfl (s_store_boxA G61 rfl rfl rfl rfl rfl rfl) ?_
       exact any_end rfl (out_mk (wc))
      refine xb rfl (step_alloc (zs := [(.int IntKind.i64 (0)), (.int IntKind.i64 (0)), (.int IntKind.i64 (0))]) (lq rfl) (by kernel_rfl) rfl rfl) ?_ ?_
      ·
       refine xn [8,10] ?_
       refine xa rfl (m_loadEA (en := eSpan) (l := a0) (i := v5) (v := t57) (off := 0) (lq rfl) G61 rfl ht57 rfl rfl (by decide)) ?_ ?_
       ·
        refine xn [10] ?_
        refine xd rfl (step_alloc (zs := [(.int IntKind.i64 (0)), (.int IntKind.i64 (0)), (.int IntKind.i64 (0))]) (lq rfl) (by kernel_rfl) rfl rfl) ?_
        refine xn [11] ?_
        refine xd rfl (s_store_boxA G61 rfl rfl rfl rfl rfl rfl) ?_
        refine xn [12] ?_
        refine xd rfl (s_store_boxA G61 rfl rfl rfl rfl rfl rfl) ?_
        exact any_end rfl (out_mk (wc))
       refine xd rfl (step_alloc (zs := [(.int IntKind.i64 (0)), (.int IntKind.i64 (0)), (.int IntKind.i64 (0))]) (lq rfl) (by kernel_rfl) rfl rfl) ?_
       refine xn [8,11] ?_
       refine xa rfl (m_loadEA (en := eSpan) (l := a0) (i := v5) (v := t57) (off := 0) (lq rfl) G61 rfl ht57 rfl rfl (by decide)) ?_ ?_
       ·
        refine xn [11] ?_
        refine xd rfl (s_store_boxA G61 rfl rfl rfl rfl rfl rfl) ?_
        refine xn [12] ?_
        refine xd rfl (s_store_boxA G61 rfl rfl rfl rfl rfl rfl) ?_
        exact any_end rfl (out_mk (wc))
       refine xd rfl (s_store_boxA G61 rfl rfl rfl rfl rfl rfl) ?_
       refine xn [8] ?_
       refine xc rfl (m_loadEA (en := eSpan) (l := a0) (i := v5) (v := t57) (off := 0) (lq rfl) G61 rfl ht57 rfl rfl (by decide)) ?_
       refine xn [12] ?_
       refine xd rfl (s_store_boxA G61 rfl rfl rfl rfl rfl rfl) ?_
       exact any_end rfl (out_mk (wc))
      refine xd rfl (step_alloc (zs := [(.int IntKind.i64 (0)), (.int IntKind.i64 (0)), (.int IntKind.i64 (0))]) (lq rfl) (by kernel_rfl) rfl rfl) ?_
      refine xn [8,9] ?_
      refine xa rfl (m_loadEA (en := eSpan) (l := a0) (i := v5) (v := t57) (off := 0) (lq rfl) G61 rfl ht57 rfl rfl (by decide)) ?_ ?_
      ·
       refine xn [9] ?_
       refine xd rfl (step_alloc (zs := [(.int IntKind.i64 (0)), (.int IntKind.i64 (0)), (.int IntKind.i64 (0))]) (lq rfl) (by kernel_rfl) rfl rfl) ?_
       refine xn [11] ?_
       refine xd rfl (s_store_boxA G61 rfl rfl rfl rfl rfl rfl) ?_
       refine xn [12] ?_
       refine xd rfl (s_store_boxA G61 rfl rfl rfl rfl rfl rfl) ?_
       exact any_end rfl (out_mk (wc))
      refine xd rfl (step_alloc (zs := [(.int IntKind.i64 (0)), (.int IntKind.i64 (0)), (.int IntKind.i64 (0))]) (lq rfl) (by kernel_rfl) rfl rfl) ?_
      refine xn [8,11] ?_
      refine xa rfl (m_loadEA (en := eSpan) (l := a0) (i := v5) (v := t57) (off := 0) (lq rfl) G61 rfl ht57 rfl rfl (by decide)) ?_ ?_
      ·
       refine xn [11] ?_
       refine xd rfl (s_store_boxA G61 rfl rfl rfl rfl rfl rfl) ?_
       refine xn [12] ?_
       refine xd rfl (s_store_boxA G61 rfl rfl rfl rfl rfl rfl) ?_
       exact any_end rfl (out_mk (wc))
      refine xd rfl (s_store_boxA G61 rfl rfl rfl rfl rfl rfl) ?_
      refine xn [8] ?_
      refine xc rfl (m_loadEA (en := eSpan) (l := a0) (i := v5) (v := t57) (off := 0) (lq rfl) G61 rfl ht57 rfl rfl (by decide)) ?_
      refine xn [12] ?_
      refine xd rfl (s_store_boxA G61 rfl rfl rfl rfl rfl rfl) ?_
      exact any_end rfl (out_mk (wc))
     refine xa rfl (m_loadEA (en := eSpan) (l := a0) (i := v5) (v := t57) (off := 0) (lq rfl) G61 rfl ht57 rfl rfl (by decide)) ?_ ?_
     ·
      refine xn [4,9,10] ?_
      refine xa rfl (m_loadEA (en := eSpan) (l := a0) (i := (wi (v5 - 1))) (v := t53) (off := 0) (lq rfl) G61 rfl ht53 rfl rfl (by decide)) ?_ ?_
      ·
       refine xn [9,10] ?_
       refine xb rfl (step_alloc (zs := [(.int IntKind.i64 (0)), (.int IntKind.i64 (0)), (.int IntKind.i64 (0))]) (lq rfl) (by kernel_rfl) rfl rfl) ?_ ?_
       ·
        refine xn [10] ?_
        refine xd rfl (step_alloc (zs := [(.int IntKind.i64 (0)), (.int IntKind.i64 (0)), (.int IntKind.i64 (0))]) (lq rfl) (by kernel_rfl) rfl rfl) ?_
        refine xn [11] ?_
        refine xd rfl (s_store_boxA G61 rfl rfl rfl rfl rfl rfl) ?_
        refine xn [12] ?_
        refine xd rfl (s_store_boxA G61 rfl rfl rfl rfl rfl rfl) ?_
        exact any_end rfl (out_mk (wc))
       refine xd rfl (step_alloc (zs := [(.int IntKind.i64 (0)), (.int IntKind.i64 (0)), (.int IntKind.i64 (0))]) (lq rfl) (by kernel_rfl) rfl rfl) ?_
       refine xn [9] ?_
       refine xd rfl (step_alloc (zs := [(.int IntKind.i64 (0)), (.int IntKind.i64 (0)), (.int IntKind.i64 (0))]) (lq rfl) (by kernel_rfl) rfl rfl) ?_
       refine xn [11] ?_
       refine xd rfl (s_store_boxA G61 rfl rfl rfl rfl rfl rfl) ?_
       refine xn [12] ?_
       refine xd rfl (s_store_boxA G61 rfl rfl rfl rfl rfl rfl) ?_
       exact any_end rfl (out_mk (wc))
      refine xb rfl (step_alloc (zs := [(.int IntKind.i64 (0)), (.int IntKind.i64 (0)), (.int IntKind.i64 (0))]) (lq rfl) (by kernel_rfl) rfl rfl) ?_ ?_
      ·
       refine xn [4,10] ?_
       refine xa rfl (m_loadEA (en := eSpan) (l := a0) (i := (wi (v5 - 1))) (v := t53) (off := 0) (lq rfl) G61 rfl ht53 rfl rfl (by decide)) ?_ ?_
       ·
        refine xn [10] ?_
        refine xd rfl (step_alloc (zs := [(.int IntKind.i64 (0)), (.int IntKind.i64 (0)), (.int IntKind.i64 (0))]) (lq rfl) (by kernel_rfl) rfl rfl) ?_
        refine xn [11] ?_
        refine xd rfl (s_store_boxA G61 rfl rfl rfl rfl rfl rfl) ?_
        refine xn [12] ?_
        refine xd rfl (s_store_boxA G61 rfl rfl rfl rfl rfl rfl) ?_
        exact any_end rfl (out_mk (wc))
       refine xd rfl (step_alloc (zs := [(.int IntKind.i64 (0)), (.int IntKind.i64 (0)), (.int IntKind.i64 (0))]) (lq rfl) (by kernel_rfl) rfl rfl) ?_
       refine xn [4] ?_
       refine xc rfl (m_loadEA (en := eSpan) (l := a0) (i := (wi (v5 - 1))) (v := t53) (off := 0) (lq rfl) G61 rfl ht53 rfl rfl (by decide)) ?_
       refine xn [11] ?_
       refine xd rfl (s_store_boxA G61 rfl rfl rfl rfl rfl rfl) ?_
       refine xn [12] ?_
       refine xd rfl (s_store_boxA G61 rfl rfl rfl rfl rfl rfl) ?_
       exact any_end rfl (out_mk (wc))
      refine xd rfl (step_alloc (zs := [(.int IntKind.i64 (0)), (.int IntKind.i64 (0)), (.int IntKind.i64 (0))]) (lq rfl) (by kernel_rfl) rfl rfl) ?_
      refine xn [4,9] ?_
      refine xa rfl (m_loadEA (en := eSpan) (l := a0) (i := (wi (v5 - 1))) (v := t53) (off := 0) (lq rfl) G61 rfl ht53 rfl rfl (by decide)) ?_ ?_
      ·
       refine xn [9] ?_
       refine xd rfl (step_alloc (zs := [(.int IntKind.i64 (0)), (.int IntKind.i64 (0)), (.int IntKind.i64 (0))]) (lq rfl) (by kernel_rfl) rfl rfl) ?_
       refine xn [11] ?_
       refine xd rfl (s_store_boxA G61 rfl rfl rfl rfl rfl rfl) ?_
       refine xn [12] ?_
       refine xd rfl (s_store_boxA G61 rfl rfl rfl rfl rfl rfl) ?_
       exact any_end rfl (out_mk (wc))
      refine xd rfl (step_alloc (zs := [(.int IntKind.i64 (0)), (.int IntKind.i64 (0)), (.int IntKind.i64 (0))]) (lq rfl) (by kernel_rfl) rfl rfl) ?_
      refine xn [4] ?_
      refine xc rfl (m_loadEA (en := eSpan) (l := a0) (i := (wi (v5 - 1))) (v := t53) (off := 0) (lq rfl) G61 rfl ht53 rfl rfl (by decide)) ?_
      refine xn [11] ?_
      refine xd rfl (s_store_boxA G61 rfl rfl rfl rfl rfl rfl) ?_
      refine xn [12] ?_
      refine xd rfl (s_store_boxA G61 rfl rfl rfl rfl rfl rfl) ?_
      exact any_end rfl (out_mk (wc))
     refine xb rfl (step_alloc (zs := [(.int IntKind.i64 (0)), (.int IntKind.i64 (0)), (.int IntKind.i64 (0))]) (lq rfl) (by kernel_rfl) rfl rfl) ?_ ?_
     ·
      refine xn [4,8,10] ?_
      refine xa rfl (m_loadEA (en := eSpan) (l := a0) (i := (wi (v5 - 1))) (v := t53) (off := 0) (lq rfl) G61 rfl ht53 rfl rfl (by decide)) ?_ ?_
      ·
       refine xn [8,10] ?_
       refine xa rfl (m_loadEA (en := eSpan) (l := a0) (i := v5) (v := t57) (off := 0) (lq rfl) G61 rfl ht57 rfl rfl (by decide)) ?_ ?_
       ·
        refine xn [10] ?_
        refine xd rfl (step_alloc (zs := [(.int IntKind.i64 (0)), (.int IntKind.i64 (0)), (.int IntKind.i64 (0))]) (lq rfl) (by kernel_rfl) rfl rfl) ?_
        refine xn [11] ?_
        refine xd rfl (s_store_boxA G61 rfl rfl rfl rfl rfl rfl) ?_
        refine xn [12] ?_
        refine xd rfl (s_store_boxA G61 rfl rfl rfl rfl rfl rfl) ?_
        exact any_end rfl (out_mk (wc))
       refine xd rfl (step_alloc (zs := [(.int IntKind.i64 (0)), (.int IntKind.i64 (0)), (.int IntKind.i64 (0))]) (lq rfl) (by kernel_rfl) rfl rfl) ?_
       refine xn [8,11] ?_
       refine xa rfl (m_loadEA (en := eSpan) (l := a0) (i := v5) (v := t57) (off := 0) (lq rfl) G61 rfl ht57 rfl rfl (by decide)) ?_ ?_
       ·
        refine xn [11] ?_
        refine xd rfl (s_store_boxA G61 rfl rfl rfl rfl rfl rfl) ?_
        refine xn [12] ?_
        refine xd rfl (s_store_boxA G61 rfl rfl rfl rfl rfl rfl) ?_
        exact any_end rfl (out_mk (wc))
       refine xd rfl (s_store_boxA G61 rfl rfl rfl rfl rfl rfl) ?_
       refine xn [8] ?_
       refine xc rfl (m_loadEA (en := eSpan) (l := a0) (i := v5) (v := t57) (off := 0) (lq rfl) G61 rfl ht57 rfl rfl (by decide)) ?_
       refine xn [12] ?_
       refine xd rfl (s_store_boxA G61 rfl rfl rfl rfl rfl rfl) ?_
       exact any_end rfl (out_mk (wc))
      refine xa rfl (m_loadEA (en := eSpan) (l := a0) (i := v5) (v := t57) (off := 0) (lq rfl) G61 rfl ht57 rfl rfl (by decide)) ?_ ?_
      ·
       refine xn [4,10] ?_
       refine xa rfl (m_loadEA (en := eSpan) (l := a0) (i := (wi (v5 - 1))) (v := t53) (off := 0) (lq rfl) G61 rfl ht53 rfl rfl (by decide)) ?_ ?_
       ·
        refine xn [10] ?_
        refine xd rfl (step_alloc (zs := [(.int IntKind.i64 (0)), (.int IntKind.i64 (0)), (.int IntKind.i64 (0))]) (lq rfl) (by kernel_rfl) rfl rfl) ?_
        refine xn [11] ?_
        refine xd rfl (s_store_boxA G61 rfl rfl rfl rfl rfl rfl) ?_
        refine xn [12] ?_
        refine xd rfl (s_store_boxA G61 rfl rfl rfl rfl rfl rfl) ?_
        exact any_end rfl (out_mk (wc))
       refine xd rfl (step_alloc (zs := [(.int IntKind.i64 (0)), (.int IntKind.i64 (0)), (.int IntKind.i64 (0))]) (lq rfl) (by kernel_rfl) rfl rfl) ?_
       refine xn [4] ?_
       refine xc rfl (m_loadEA (en := eSpan) (l := a0) (i := (wi (v5 - 1))) (v := t53) (off := 0) (lq rfl) G61 rfl ht53 rfl rfl (by decide)) ?_
       refine xn [11] ?_
       refine xd rfl (s_store_boxA G61 rfl rfl rfl rfl rfl rfl) ?_
       refine xn [12] ?_
       refine xd rfl (s_store_boxA G61 rfl rfl rfl rfl rfl rfl) ?_
       exact any_end rfl (out_mk (wc))
      refine xd rfl (step_alloc (zs := [(.int IntKind.i64 (0)), (.int IntKind.i64 (0)), (.int IntKind.i64 (0))]) (lq rfl) (by kernel_rfl) rfl rfl) ?_
      refine xn [4,8] ?_
      refine xa rfl (m_loadEA (en := eSpan) (l := a0) (i := (wi (v5 - 1))) (v := t53) (off := 0) (lq rfl) G61 rfl ht53 rfl rfl (by decide)) ?_ ?_
      ·
       refine xn [8,11] ?_
       refine xa rfl (m_loadEA (en := eSpan) (l := a0) (i := v5) (v := t57) (off := 0) (lq rfl) G61 rfl ht57 rfl rfl (by decide)) ?_ ?_
       ·
        refine xn [11] ?_
        refine xd rfl (s_store_boxA G61 rfl rfl rfl rfl rfl rfl) ?_
        refine xn [12] ?_
        refine xd rfl (s_store_boxA G61 rfl rfl rfl rfl rfl rfl) ?_
        exact any_end rfl (out_mk (wc))
       refine xd rfl (s_store_boxA G61 rfl rfl rfl rfl rfl rfl) ?_
       refine xn [8] ?_
       refine xc rfl (m_loadEA (en := eSpan) (l := a0) (i := v5) (v := t57) (off := 0) (lq rfl) G61 rfl ht57 rfl rfl (by decide)) ?_
       refine xn [12] ?_
       refine xd rfl (s_store_boxA G61 rfl rfl rfl rfl rfl rfl) ?_
       exact any_end rfl (out_mk (wc))
      refine xc rfl (m_loadEA (en := eSpan) (l := a0) (i := v5) (v := t57) (off := 0) (lq rfl) G61 rfl ht57 rfl rfl (by decide)) ?_
      refine xn [4] ?_
      refine xc rfl (m_loadEA (en := eSpan) (l := a0) (i := (wi (v5 - 1))) (v := t53) (off := 0) (lq rfl) G61 rfl ht53 rfl rfl (by decide)) ?_
      refine xn [11] ?_
      refine xd rfl (s_store_boxA G61 rfl rfl rfl rfl rfl rfl) ?_
      refine xn [12] ?_
      refine xd rfl (s_store_boxA G61 rfl rfl rfl rfl rfl rfl) ?_
      exact any_end rfl (out_mk (wc))
     refine xd rfl (step_alloc (zs := [(.int IntKind.i64 (0)), (.int IntKind.i64 (0)), (.int IntKind.i64 (0))]) (lq rfl) (by kernel_rfl) rfl rfl) ?_
     refine xn [4,8,9] ?_
     refine xa rfl (m_loadEA (en := eSpan) (l := a0) (i := (wi (v5 - 1))) (v := t53) (off := 0) (lq rfl) G61 rfl ht53 rfl rfl (by decide)) ?_ ?_
     ·
      refine xn [8,9] ?_
      refine xa rfl (m_loadEA (en := eSpan) (l := a0) (i := v5) (v := t57) (off := 0) (lq rfl) G61 rfl ht57 rfl rfl (by decide)) ?_ ?_
      ·
       refine xn [9] ?_
       refine xd rfl (step_alloc (zs := [(.int IntKind.i64 (0)), (.int IntKind.i64 (0)), (.int IntKind.i64 (0))]) (lq rfl) (by kernel_rfl) rfl rfl) ?_
       refine xn [11] ?_
       refine xd rfl (s_store_boxA G61 rfl rfl rfl rfl rfl rfl) ?_
       refine xn [12] ?_
       refine xd rfl (s_store_boxA G61 rfl rfl rfl rfl rfl rfl) ?_
       exact any_end rfl (out_mk (wc))
      refine xd rfl (step_alloc (zs := [(.int IntKind.i64 (0)), (.int IntKind.i64 (0)), (.int IntKind.i64 (0))]) (lq rfl) (by kernel_rfl) rfl rfl) ?_
      refine xn [8,11] ?_
      refine xa rfl (m_loadEA (en := eSpan) (l := a0) (i := v5) (v := t57) (off := 0) (lq rfl) G61 rfl ht57 rfl rfl (by decide)) ?_ ?_
      ·
       refine xn [11] ?_
       refine xd rfl (s_store_boxA G61 rfl rfl rfl rfl rfl rfl) ?_
       refine xn [12] ?_
       refine xd rfl (s_store_boxA G61 rfl rfl rfl rfl rfl rfl) ?_
       exact any_end rfl (out_mk (wc))
      refine xd rfl (s_store_boxA G61 rfl rfl rfl rfl rfl rfl) ?_
      refine xn [8] ?_
      refine xc rfl (m_loadEA (en := eSpan) (l := a0) (i := v5) (v := t57) (off := 0) (lq rfl) G61 rfl ht57 rfl rfl (by decide)) ?_
      refine xn [12] ?_
      refine xd rfl (s_store_boxA G61 rfl rfl rfl rfl rfl rfl) ?_
      exact any_end rfl (out_mk (wc))
     refine xa rfl (m_loadEA (en := eSpan) (l := a0) (i := v5) (v := t57) (off := 0) (lq rfl) G61 rfl ht57 rfl rfl (by decide)) ?_ ?_
     ·
      refine xn [4,9] ?_
      refine xa rfl (m_loadEA (en := eSpan) (l := a0) (i := (wi (v5 - 1))) (v := t53) (off := 0) (lq rfl) G61 rfl ht53 rfl rfl (by decide)) ?_ ?_
      ·
       refine xn [9] ?_
       refine xd rfl (step_alloc (zs := [(.int IntKind.i64 (0)), (.int IntKind.i64 (0)), (.int IntKind.i64 (0))]) (lq rfl) (by kernel_rfl) rfl rfl) ?_
       refine xn [11] ?_
       refine xd rfl (s_store_boxA G61 rfl rfl rfl rfl rfl rfl) ?_
       refine xn [12] ?_
       refine xd rfl (s_store_boxA G61 rfl rfl rfl rfl rfl rfl) ?_
       exact any_end rfl (out_mk (wc))
      refine xd rfl (step_alloc (zs := [(.int IntKind.i64 (0)), (.int IntKind.i64 (0)), (.int IntKind.i64 (0))]) (lq rfl) (by kernel_rfl) rfl rfl) ?_
      refine xn [4] ?_
      refine xc rfl (m_loadEA (en := eSpan) (l := a0) (i := (wi (v5 - 1))) (v := t53) (off := 0) (lq rfl) G61 rfl ht53 rfl rfl (by decide)) ?_
      refine xn [11] ?_
      refine xd rfl (s_store_boxA G61 rfl rfl rfl rfl rfl rfl) ?_
      refine xn [12] ?_
      refine xd rfl (s_store_boxA G61 rfl rfl rfl rfl rfl rfl) ?_
      exact any_end rfl (out_mk (wc))
     refine xd rfl (step_alloc (zs := [(.int IntKind.i64 (0)), (.int IntKind.i64 (0)), (.int IntKind.i64 (0))]) (lq rfl) (by kernel_rfl) rfl rfl) ?_
     refine xn [4,8] ?_
     refine xa rfl (m_loadEA (en := eSpan) (l := a0) (i := (wi (v5 - 1))) (v := t53) (off := 0) (lq rfl) G61 rfl ht53 rfl rfl (by decide)) ?_ ?_
     ·
      refine xn [8,11] ?_
      refine xa rfl (m_loadEA (en := eSpan) (l := a0) (i := v5) (v := t57) (off := 0) (lq rfl) G61 rfl ht57 rfl rfl (by decide)) ?_ ?_
      ·
       refine xn [11] ?_
       refine xd rfl (s_store_boxA G61 rfl rfl rfl rfl rfl rfl) ?_
       refine xn [12] ?_
       refine xd rfl (s_store_boxA G61 rfl rfl rfl rfl rfl rfl) ?_
       exact any_end rfl (out_mk (wc))
      refine xd rfl (s_store_boxA G61 rfl rfl rfl rfl rfl rfl) ?_
      refine xn [8] ?_
      refine xc rfl (m_loadEA (en := eSpan) (l := a0) (i := v5) (v := t57) (off := 0) (lq rfl) G61 rfl ht57 rfl rfl (by decide)) ?_
      refine xn [12] ?_
      refine xd rfl (s_store_boxA G61 rfl rfl rfl rfl rfl rfl) ?_
      exact any_end rfl (out_mk (wc))
     refine xc rfl (m_loadEA (en := eSpan) (l := a0) (i := v5) (v := t57) (off := 0) (lq rfl) G61 rfl ht57 rfl rfl (by decide)) ?_
     refine xn [4] ?_
     refine xc rfl (m_loadEA (en := eSpan) (l := a0) (i := (wi (v5 - 1))) (v := t53) (off := 0) (lq rfl) G61 rfl ht53 rfl rfl (by decide)) ?_
     refine xn [11] ?_
     refine xd rfl (s_store_boxA G61 rfl rfl rfl rfl rfl rfl) ?_
     refine xn [12] ?_
     refine xd rfl (s_store_boxA G61 rfl rfl rfl rfl rfl rfl) ?_
     exact any_end rfl (out_mk (wc))
    refine avc_weak (weak_freeze (t := 6) (lq rfl) rfl rfl rfl) ?_
    refine avc_weak (weak_freeze (t := 7) (lq rfl) rfl rfl rfl) ?_
    refine avc_sq2 <| avc_sq <| q7 L61_0 ?_
    refine q8 O3 ?_
    refine q7 L61_1 ?_
    refine q8 O3 ?_
    refine q53 ?_
    obtain ⟨b64, hb64, hsy2⟩ := bE hsy2
    refine sqa ((a_move_d (lq rfl) rfl).bool (Option.some.inj hb64)) ?_
    refine q23 (.ip (eSpan.cells t57) (0 + 0)) L61_0 ?_
    refine q24 (.d (di t57.Lo)) O3 ?_
    refine q23 (.ip (eSpan.cells t53) (0 + 1)) L61_1 ?_
    refine q24 (.d (di t53.Hi)) O3 ?_
    refine sqf (.d (di (wi (t53.Hi + 1)))) rfl (fun hb => by subst hb; exact m_add (lq rfl) rfl rfl) ?_
    refine q79 (.d (db (decide (t57.Lo = (wi (t53.Hi + 1)))))) ?_
    obtain ⟨b71, hb71, hsy2⟩ := bE hsy2
    refine sqf (.d (db b71)) rfl (fun hb => by subst hb; exact (a_move_d (lq rfl) rfl).bool (Option.some.inj hb71)) ?_
    refine sq_g2 (x := .ip (eSpan.cells t57) (0 + 2)) rfl rfl rfl (lq rfl) (lq rfl) rfl (fun hb => by obtain ⟨hb, hb1⟩ := and_split hb; obtain rfl := gF hb; obtain rfl : b71 = true := hb1; exact m_fieldPt (lq rfl) L61_2 rfl) ?_
    refine sq_g2 (x := .d (di t57.Value)) rfl rfl rfl (lq rfl) (lq rfl) rfl (fun hb => by obtain ⟨hb, hb1⟩ := and_split hb; obtain rfl := gF hb; obtain rfl : b71 = true := hb1; exact a_load_ip (lq rfl) O3 rfl rfl) ?_
    refine sq_g2 (x := .ip (eSpan.cells t53) (0 + 2)) rfl rfl rfl (lq rfl) (lq rfl) rfl (fun hb => by obtain ⟨hb, hb1⟩ := and_split hb; obtain rfl := gF hb; obtain rfl : b71 = true := hb1; exact m_fieldPt (lq rfl) L61_2 rfl) ?_
    refine sq_g2 (x := .d (di t53.Value)) rfl rfl rfl (lq rfl) (lq rfl) rfl (fun hb => by obtain ⟨hb, hb1⟩ := and_split hb; obtain rfl := gF hb; obtain rfl : b71 = true := hb1; exact a_load_ip (lq rfl) O3 rfl rfl) ?_
    refine sq_g2 (x := .d (db (decide (t57.Value = t53.Value)))) rfl rfl rfl (lq rfl) (lq rfl) rfl (fun hb => by obtain ⟨hb, hb1⟩ := and_split hb; obtain rfl := gF hb; obtain rfl : b71 = true := hb1; exact a_eql (lq rfl) rfl rfl) ?_
    refine q62 (.d (db (b71 && (decide (t57.Value = t53.Value))))) ?_
    refine q15 ?_
    refine sq_nil ?_
    refine ifM rfl hsy2 (fun _ hsy2 => ?_) (fun _ hsy2 => ?_)
    ·
     refine avc_sq2 <| avc_sq <| q1 ?_
     refine sq_nil <| avc_ret ?_
     cases hsy2
     intro q; cases q
     exact ⟨rfl, wc⟩
    ·
     refine avc_skip <| avc_sq <| q0 ?_
     refine q2 ?_
     refine q1 ?_
     refine sq_nil ?_
     cases hsy2
     exact wc
   ·
    refine avc_exit ?_
    cases hsy2
    intro q; cases q
    exact ⟨rfl, wc⟩
  ·
   rintro y2 rfl
   replace h := eL h
   refine avc_sq2 <| avc_sq2 <| avc_sq <| q0 ?_
   refine q5 S22 ?_
   refine q0 ?_
   refine sq_nil <| avc_block ?_
   obtain ⟨y3, hy3, h⟩ := bE h
   refine avc_tail2 y3 (.exit 4) (fun y3 => ⟨[], []⟩) .ret (fun y3 => ⟨[(2, .d (di y3))], []⟩) ?_ ?_ ?_
   ·
    refine avc_loopM (fun x => ⟨[(79, .d (dsl eSpan a0)), (80, .d (di (a0.length : Int))), (81, .d (di x))], []⟩) hy3 (wc) ?_
    rintro v81 sy3 hsy3
    replace hsy3 : ordering_Check_L2 a0 v81 = some sy3 := hsy3
    unfold ordering_Check_L2 at hsy3
    refine avc_sq2 <| avc_sq <| q3 ?_
    refine sq_nil <| avc_sq2 ?_
    refine ifM rfl hsy3 (fun _ hsy3 => ?_) (fun _ hsy3 => ?_)
    ·
     refine avc_skip <| avc_sq2 <| avc_block <| avc_sq2 <| avc_sq ?_
     obtain ⟨t83, ht83, hsy3⟩ := bE hsy3
     refine q11 S22 ht83 ?_
     refine q126 G61 ht83 ?_
     refine q92 ?_
     refine q14 G61 ?_
     refine sq_nil ?_
     refine avc_weak (weak_freeze (t := 9) (lq rfl) rfl rfl rfl) ?_
     refine avc_sq2 <| avc_sq ?_
     obtain ⟨t85, ht85, hsy3⟩ := bE hsy3
     refine sqa ((m_loadG (zs := [.int .i64 4352, .int .i64 4370, .int .i64 4449, .int .i64 4469, .int .i64 4520, .int .i64 4546, .int .i64 44032, .int .i64 55203]) (lq rfl) G133 Z0 rfl rfl).data (b := eA4Range.dv t85) (congrArg eA4Range.dv (Option.some.inj ht85))) ?_
     refine q0 ?_
     refine sq_nil <| avc_block ?_
     obtain ⟨y4, hy4, hsy3⟩ := bE hsy3
     refine avc_tail2 y4 (.exit 6) (fun y4 => ⟨[(79, .d (dsl eSpan a0)), (80, .d (di (a0.length : Int))), (81, .d (di v81))], []⟩) .ret (fun y4 => ⟨[(2, .d (di y4))], []⟩) ?_ ?_ ?_
     ·
      refine avc_loopM (fun x => ⟨[(9, .d (.pt (eSpan.cells t83))), (79, .d (dsl eSpan a0)), (80, .d (di (a0.length : Int))), (81, .d (di v81)), (85, .d (eA4Range.dv t85)), (86, .d (di x))], []⟩) hy4 (wc) ?_
      rintro v86 sy4 hsy4
      replace hsy4 : ordering_Check_L3 t85 t83 v86 = some sy4 := hsy4
      unfold ordering_Check_L3 at hsy4
      refine avc_sq2 <| avc_sq <| q3 ?_
      refine sq_nil <| avc_sq2 ?_
      refine ifM rfl hsy4 (fun _ hsy4 => ?_) (fun _ hsy4 => ?_)
      ·
       refine avc_skip <| avc_sq2 <| avc_block <| avc_sq2 <| avc_sq ?_
       obtain ⟨t88, ht88, hsy4⟩ := bE hsy4
       refine sqa (m_aindexA (en := eRange) (l := [t85.x0, t85.x1, t85.x2, t85.x3]) (lq rfl) A133 G123 (fun _ => rfl) rfl rfl rfl ht88) ?_
       refine q83 ?_
       refine q14 G123 ?_
       refine sq_nil ?_
       refine avc_weak (weak_freeze (t := 11) (lq rfl) rfl rfl rfl) ?_
       refine avc_sq2 <| avc_sq <| q7 L61_0 ?_
       refine q8 O3 ?_
       refine q7 L123_1 ?_
       refine q8 O3 ?_
       refine q53 ?_
       obtain ⟨b94, hb94, hsy4⟩ := bE hsy4
       refine sqa ((a_move_d (lq rfl) rfl).bool (Option.some.inj hb94)) ?_
       refine q47 (.ip (eRange.cells t88) (0 + 0)) L123_0 ?_
       refine q49 (.d (di t88.Lo)) O3 ?_
       refine q47 (.ip (eSpan.cells t83) (0 + 1)) L61_1 ?_
       refine q49 (.d (di t83.Hi)) O3 ?_
       refine q42 (.d (db (decide (t88.Lo ≤ t83.Hi)))) ?_
       refine q12 ?_
       refine sq_nil ?_
       refine ifM rfl hsy4 (fun _ hsy4 => ?_) (fun _ hsy4 => ?_)
       ·
        refine avc_sq2 <| avc_sq <| q1 ?_
        refine sq_nil <| avc_ret ?_
        cases hsy4
        intro q; cases q
        exact ⟨rfl, wc⟩
       ·
        refine avc_skip <| avc_sq <| q2 ?_
        refine q0 ?_
        refine sq_nil ?_
        cases hsy4
        exact wc
      ·
       refine avc_exit ?_
       cases hsy4
       intro q; cases q
       exact ⟨rfl, wc⟩
     ·
      rintro y4 rfl
      replace hsy3 := eL hsy3
      refine avc_sq <| q2 ?_
      refine q0 ?_
      refine sq_nil ?_
      cases hsy3
      exact wc
     ·
      rintro y4 rfl
      replace hsy3 := eR hsy3
      cases hsy3
      intro q; cases q
      exact ⟨rfl, wc⟩
    ·
     refine avc_exit ?_
     cases hsy3
     intro q; cases q
     exact ⟨rfl, wc⟩
   ·
    rintro y3 rfl
    replace h := eL h
    refine avc_sq2 <| avc_sq <| q1 ?_
    refine sq_nil ?_
    cases h
    refine avc_ret ?_
    exact ret_1 rfl
   ·
    rintro y3 rfl
    replace h := eR h
    cases h
    exact ret_1 rfl
  ·
   rintro y2 rfl
   replace h := eR h
   cases h
   exact ret_1 rfl
 ·
  rintro y1 rfl
  replace h := eR h
  cases h
  exact ret_1 rfl
theorem mapping_isName_c  {a0}  {r} (h : mapping_isName a0 = some r) : Contract Tryz.prog 118 [(ds a0)] [(db r)] := by
 refine contract_of Tryz.func118 (by kernel_rfl) rfl (lq rfl) (lq rfl) fun w0 I0 hI0 hG0 => ?_
 unfold mapping_isName at h
 refine avc_sq2 <| avc_sq <| q1 ?_
 refine sq_nil <| avc_sq2 <| avc_sq2 <| avc_sq <| q0 ?_
 refine sqa (m_seql (a := a0) (b := []) (lq rfl) rfl rfl) ?_
 obtain ⟨b8, hb8, h⟩ := bE h
 refine sqa ((a_move_d (lq rfl) rfl).bool (Option.some.inj hb8)) ?_
 refine q32 (.d (ds a0)) ?_
 refine sqf (.d (di (a0.length : Int))) rfl (fun hb => by subst hb; exact m_slen (s := a0) (lq rfl) Tryz.underlying9 rfl) ?_
 refine q46 (.d (db (decide (32 < (a0.length : Int))))) ?_
 refine q15 ?_
 refine sq_nil ?_
 refine ifM rfl h (fun _ h => ?_) (fun _ h => ?_)
 ·
  refine avc_sq2 <| avc_sq <| q1 ?_
  refine sq_nil ?_
  cases h
  refine avc_ret ?_
  exact ret_1 rfl
 ·
  refine avc_skip <| avc_sq2 <| avc_sq2 <| avc_sq <| q0 ?_
  refine q118 Tryz.underlying9 ?_
  refine q0 ?_
  refine sq_nil <| avc_block ?_
  obtain ⟨y1, hy1, h⟩ := bE h
  refine avc_tail2 y1 (.exit 0) (fun y1 => ⟨[], []⟩) .ret (fun y1 => ⟨[(2, .d (db y1))], []⟩) ?_ ?_ ?_
  ·
   refine avc_loopM (fun x => ⟨[(0, .d (ds a0)), (14, .d (di (a0.length : Int))), (15, .d (di x))], []⟩) hy1 (wc) ?_
   rintro v15 sy1 hsy1
   replace hsy1 : mapping_isName_L0 a0 v15 = some sy1 := hsy1
   unfold mapping_isName_L0 at hsy1
   refine avc_sq2 <| avc_sq <| q3 ?_
   refine sq_nil <| avc_sq2 ?_
   refine ifM rfl hsy1 (fun _ hsy1 => ?_) (fun _ hsy1 => ?_)
   ·
    refine avc_skip <| avc_sq2 <| avc_block <| avc_sq2 <| avc_sq <| q0 ?_
    refine q1 ?_
    refine sq_nil <| avc_sq2 <| avc_sq <| q0 ?_
    refine q0 ?_
    obtain ⟨t20, ht20, hsy1⟩ := bE hsy1
    refine q119 Tryz.underlying9 ht20 ?_
    refine q1 ?_
    refine sq_nil <| avc_sq2 <| avc_sq <| q0 ?_
    refine q30 ?_
    obtain ⟨b23, hb23, hsy1⟩ := bE hsy1
    refine sqa ((a_move_d (lq rfl) rfl).bool (Option.some.inj hb23)) ?_
    refine q10 (.d (dby t20)) ?_
    refine q42 (.d (db (decide (t20 ≤ 90)))) ?_
    refine q12 ?_
    obtain ⟨b27, hb27, hsy1⟩ := bE hsy1
    refine sqa ((a_move_d (lq rfl) rfl).bool (Option.some.inj hb27)) ?_
    refine q32 (.d (dby t20)) ?_
    refine q78 (.d (db (decide (97 ≤ t20)))) ?_
    obtain ⟨b30, hb30, hsy1⟩ := bE hsy1
    refine sqf (.d (db b30)) rfl (fun hb => by subst hb; exact (a_move_d (lq rfl) rfl).bool (Option.some.inj hb30)) ?_
    refine sq_g2 (x := .d (dby t20)) rfl rfl rfl (lq rfl) (lq rfl) rfl (fun hb => by obtain ⟨hb, hb1⟩ := and_split hb; obtain rfl := gF hb; obtain rfl : b30 = true := hb1; exact a_move_d (lq rfl) rfl) ?_
    refine sq_g2 (x := .d (db (decide (t20 ≤ 122)))) rfl rfl rfl (lq rfl) (lq rfl) rfl (fun hb => by obtain ⟨hb, hb1⟩ := and_split hb; obtain rfl := gF hb; obtain rfl : b30 = true := hb1; exact a_leq (lq rfl) rfl rfl) ?_
    refine q62 (.d (db (b30 && (decide (t20 ≤ 122))))) ?_
    refine q15 ?_
    refine q1 ?_
    refine sq_nil <| avc_sq2 <| avc_sq <| q0 ?_
    refine q22 ?_
    obtain ⟨b37, hb37, hsy1⟩ := bE hsy1
    refine sqa ((a_move_d (lq rfl) rfl).bool (Option.some.inj hb37)) ?_
    refine q10 (.d (dby t20)) ?_
    refine sqt (.d (db (decide (48 ≤ t20)))) rfl (fun hb => by subst hb; exact a_geq (lq rfl) rfl rfl) ?_
    obtain ⟨b40, hb40, hsy1⟩ := bE hsy1
    refine sqt (.d (db b40)) rfl (fun hb => by subst hb; exact (a_move_d (lq rfl) rfl).bool (Option.some.inj hb40)) ?_
    refine sq_g2 (x := .d (dby t20)) rfl rfl rfl (lq rfl) (lq rfl) rfl (fun hb => by obtain ⟨hb, hb1⟩ := and_split hb; obtain rfl : b37 = true := hb; obtain rfl : b40 = true := hb1; exact a_move_d (lq rfl) rfl) ?_
    refine sq_g2 (x := .d (db (decide (t20 ≤ 57)))) rfl rfl rfl (lq rfl) (lq rfl) rfl (fun hb => by obtain ⟨hb, hb1⟩ := and_split hb; obtain rfl : b37 = true := hb; obtain rfl : b40 = true := hb1; exact a_leq (lq rfl) rfl rfl) ?_
    refine sqt (.d (db (b40 && (decide (t20 ≤ 57))))) rfl (fun hb => by subst hb; exact a_pick_and (lq rfl) rfl rfl) ?_
    refine q84 (.d (db (!(b40 && (decide (t20 ≤ 57)))))) ?_
    refine q12 ?_
    obtain ⟨b46, hb46, hsy1⟩ := bE hsy1
    refine sqa ((a_move_d (lq rfl) rfl).bool (Option.some.inj hb46)) ?_
    refine q10 (.d (dby t20)) ?_
    refine q106 (.d (db (!decide (t20 = 95)))) ?_
    refine q12 ?_
    refine sq_nil ?_
    refine ifM rfl hsy1 (fun _ hsy1 => ?_) (fun _ hsy1 => ?_)
    ·
     refine avc_sq2 <| avc_sq <| q1 ?_
     refine sq_nil <| avc_ret ?_
     cases hsy1
     intro q; cases q
     exact ⟨rfl, wc⟩
    ·
     refine avc_skip <| avc_sq <| q2 ?_
     refine q0 ?_
     refine sq_nil ?_
     cases hsy1
     exact wc
   ·
    refine avc_exit ?_
    cases hsy1
    intro q; cases q
    exact ⟨rfl, wc⟩
  ·
   rintro y1 rfl
   replace h := eL h
   refine avc_sq2 <| avc_sq <| q1 ?_
   refine sq_nil ?_
   cases h
   refine avc_ret ?_
   exact ret_1 rfl
  ·
   rintro y1 rfl
   replace h := eR h
   cases h
   exact ret_1 rfl
theorem mapping_parts_c  {a0}  {r} (h : mapping_parts a0 = some r) : Contract Tryz.prog 102 [(dsl eMapping a0)] [(di r)] := by
 refine contract_of Tryz.func102 (by kernel_rfl) rfl (lq rfl) (lq rfl) fun w0 I0 hI0 hG0 => ?_
 unfold mapping_parts at h
 refine avc_sq2 <| avc_sq <| q1 ?_
 refine sq_nil <| avc_sq2 <| avc_sq2 <| avc_sq <| q0 ?_
 refine q5 S23 ?_
 refine q0 ?_
 refine sq_nil <| avc_block ?_
 obtain ⟨y1, hy1, h⟩ := bE h
 refine avc_tail2 y1 (.exit 0) (fun y1 => ⟨[(0, .d (dsl eMapping a0))], []⟩) .ret (fun y1 => ⟨[(2, .d (di y1))], []⟩) ?_ ?_ ?_
 ·
  refine avc_loopM (fun x => ⟨[(0, .d (dsl eMapping a0)), (11, .d (dsl eMapping a0)), (12, .d (di (a0.length : Int))), (13, .d (di x))], []⟩) hy1 (wc) ?_
  rintro v13 sy1 hsy1
  replace hsy1 : mapping_parts_L0 a0 v13 = some sy1 := hsy1
  unfold mapping_parts_L0 at hsy1
  refine avc_sq2 <| avc_sq <| q3 ?_
  refine sq_nil <| avc_sq2 ?_
  refine ifM rfl hsy1 (fun _ hsy1 => ?_) (fun _ hsy1 => ?_)
  ·
   refine avc_skip <| avc_sq2 <| avc_block <| avc_sq2 <| avc_sq ?_
   obtain ⟨t15, ht15, hsy1⟩ := bE hsy1
   refine q11 S23 ht15 ?_
   refine q66 G103 ht15 ?_
   refine q85 ?_
   refine q14 G103 ?_
   refine sq_nil ?_
   refine avc_weak (weak_freeze (t := 4) (lq rfl) rfl rfl rfl) ?_
   refine avc_sq2 <| avc_sq2 <| avc_sq <| q7 L103_0 ?_
   refine q8 O3 ?_
   obtain ⟨t19, ht19, hsy1⟩ := bE hsy1
   refine q6 (codepoint_Valid_c ht19) ?_
   refine q22 ?_
   refine sq_nil ?_
   refine ifM rfl hsy1 (fun _ hsy1 => ?_) (fun _ hsy1 => ?_)
   ·
    refine avc_sq2 <| avc_sq <| q1 ?_
    refine sq_nil <| avc_ret ?_
    cases hsy1
    intro q; cases q
    exact ⟨rfl, wc⟩
   ·
    refine avc_skip <| avc_sq2 <| avc_sq <| q7 L103_1 ?_
    refine q8 O33 ?_
    refine q5 S33 ?_
    refine q0 ?_
    refine sq_nil <| avc_block ?_
    obtain ⟨y2, hy2, hsy1⟩ := bE hsy1
    refine avc_tail2 y2 (.exit 2) (fun y2 => ⟨[(0, .d (dsl eMapping a0)), (11, .d (dsl eMapping a0)), (12, .d (di (a0.length : Int))), (13, .d (di v13))], []⟩) .ret (fun y2 => ⟨[(2, .d (di y2))], []⟩) ?_ ?_ ?_
    ·
     refine avc_loopM (fun x => ⟨[(0, .d (dsl eMapping a0)), (11, .d (dsl eMapping a0)), (12, .d (di (a0.length : Int))), (13, .d (di v13)), (22, .d (dsl eI t15.To)), (23, .d (di (t15.To.length : Int))), (24, .d (di x))], []⟩) hy2 (wc) ?_
     rintro v24 sy2 hsy2
     replace hsy2 : mapping_parts_L1 t15 v24 = some sy2 := hsy2
     unfold mapping_parts_L1 at hsy2
     refine avc_sq2 <| avc_sq <| q3 ?_
     refine sq_nil <| avc_sq2 ?_
     refine ifM rfl hsy2 (fun _ hsy2 => ?_) (fun _ hsy2 => ?_)
     ·
      refine avc_skip <| avc_sq2 <| avc_block <| avc_sq2 <| avc_sq ?_
      obtain ⟨t26, ht26, hsy2⟩ := bE hsy2
      refine q11 S33 ht26 ?_
      refine q29 O3 ht26 ?_
      refine q1 ?_
      refine sq_nil <| avc_sq2 <| avc_sq <| q0 ?_
      obtain ⟨t29, ht29, hsy2⟩ := bE hsy2
      refine q6 (codepoint_Valid_c ht29) ?_
      refine q22 ?_
      refine sq_nil ?_
      refine ifM rfl hsy2 (fun _ hsy2 => ?_) (fun _ hsy2 => ?_)
      ·
       refine avc_sq2 <| avc_sq <| q1 ?_
       refine sq_nil <| avc_ret ?_
       cases hsy2
       intro q; cases q
       exact ⟨rfl, wc⟩
      ·
       refine avc_skip <| avc_sq <| q2 ?_
       refine q0 ?_
       refine sq_nil ?_
       cases hsy2
       exact wc
     ·
      refine avc_exit ?_
      cases hsy2
      intro q; cases q
      exact ⟨rfl, wc⟩
    ·
     rintro y2 rfl
     replace hsy1 := eL hsy1
     refine avc_sq <| q2 ?_
     refine q0 ?_
     refine sq_nil ?_
     cases hsy1
     exact wc
    ·
     rintro y2 rfl
     replace hsy1 := eR hsy1
     cases hsy1
     intro q; cases q
     exact ⟨rfl, wc⟩
  ·
   refine avc_exit ?_
   cases hsy1
   intro q; cases q
   exact ⟨rfl, wc⟩
 ·
  rintro y1 rfl
  replace h := eL h
  refine avc_sq2 <| avc_sq2 <| avc_sq <| q0 ?_
  refine q5 S23 ?_
  refine q0 ?_
  refine sq_nil <| avc_block ?_
  obtain ⟨y3, hy3, h⟩ := bE h
  refine avc_tail2 y3 (.exit 4) (fun y3 => ⟨[(0, .d (dsl eMapping a0))], []⟩) .ret (fun y3 => ⟨[(2, .d (di y3))], []⟩) ?_ ?_ ?_
  ·
   refine avc_loopM (fun x => ⟨[(0, .d (dsl eMapping a0)), (33, .d (dsl eMapping a0)), (34, .d (di (a0.length : Int))), (35, .d (di x))], []⟩) hy3 (wc) ?_
   rintro v35 sy3 hsy3
   replace hsy3 : mapping_parts_L2 a0 v35 = some sy3 := hsy3
   unfold mapping_parts_L2 at hsy3
   refine avc_sq2 <| avc_sq <| q3 ?_
   refine sq_nil <| avc_sq2 ?_
   refine ifM rfl hsy3 (fun _ hsy3 => ?_) (fun _ hsy3 => ?_)
   ·
    refine avc_skip <| avc_sq2 <| avc_block <| avc_sq2 <| avc_sq ?_
    obtain ⟨t37, ht37, hsy3⟩ := bE hsy3
    refine q11 S23 ht37 ?_
    refine q66 G103 ht37 ?_
    refine q85 ?_
    refine q14 G103 ?_
    refine sq_nil ?_
    refine avc_weak (weak_freeze (t := 8) (lq rfl) rfl rfl rfl) ?_
    refine avc_sq2 <| avc_sq <| q7 L103_1 ?_
    refine q8 O33 ?_
    refine q5 S33 ?_
    refine q37 ?_
    refine sq_nil ?_
    refine ifM rfl hsy3 (fun _ hsy3 => ?_) (fun _ hsy3 => ?_)
    ·
     refine avc_sq2 <| avc_sq <| q1 ?_
     refine sq_nil <| avc_ret ?_
     cases hsy3
     intro q; cases q
     exact ⟨rfl, wc⟩
    ·
     refine avc_skip <| avc_sq <| q2 ?_
     refine q0 ?_
     refine sq_nil ?_
     cases hsy3
     exact wc
   ·
    refine avc_exit ?_
    cases hsy3
    intro q; cases q
    exact ⟨rfl, wc⟩
  ·
   rintro y3 rfl
   replace h := eL h
   refine avc_sq2 <| avc_sq2 <| avc_sq <| q0 ?_
   refine q5 S23 ?_
   refine q0 ?_
   refine sq_nil <| avc_block ?_
   obtain ⟨y4, hy4, h⟩ := bE h
   refine avc_tail2 y4 (.exit 6) (fun y4 => ⟨[], []⟩) .ret (fun y4 => ⟨[(2, .d (di y4))], []⟩) ?_ ?_ ?_
   ·
    refine avc_loopM (fun x => ⟨[(44, .d (dsl eMapping a0)), (45, .d (di (a0.length : Int))), (46, .d (di x))], []⟩) hy4 (wc) ?_
    rintro v46 sy4 hsy4
    replace hsy4 : mapping_parts_L3 a0 v46 = some sy4 := hsy4
    unfold mapping_parts_L3 at hsy4
    refine avc_sq2 <| avc_sq <| q3 ?_
    refine sq_nil <| avc_sq2 ?_
    refine ifM rfl hsy4 (fun _ hsy4 => ?_) (fun _ hsy4 => ?_)
    ·
     refine avc_skip <| avc_sq2 <| avc_block <| avc_sq2 <| avc_sq ?_
     obtain ⟨t48, ht48, hsy4⟩ := bE hsy4
     refine q11 S23 ht48 ?_
     refine q66 G103 ht48 ?_
     refine q85 ?_
     refine q14 G103 ?_
     refine sq_nil ?_
     refine avc_weak (weak_freeze (t := 10) (lq rfl) rfl rfl rfl) ?_
     refine avc_sq2 <| avc_sq <| q7 L103_2 ?_
     refine q8 O9 ?_
     refine q89 ?_
     obtain ⟨b53, hb53, hsy4⟩ := bE hsy4
     refine sqa ((a_move_d (lq rfl) rfl).bool (Option.some.inj hb53)) ?_
     refine q47 (.ip (eMapping.cells t48) (0 + 2)) L103_2 ?_
     refine q49 (.d (ds t48.Tag)) O9 ?_
     obtain ⟨t56, ht56, hsy4⟩ := bE hsy4
     refine sqt (.d (db t56)) rfl (fun hb => by subst hb; exact a_call (lq rfl) rfl (mapping_isName_c ht56)) ?_
     refine q84 (.d (db (!t56))) ?_
     refine q12 ?_
     refine sq_nil ?_
     refine ifM rfl hsy4 (fun _ hsy4 => ?_) (fun _ hsy4 => ?_)
     ·
      refine avc_sq2 <| avc_sq <| q1 ?_
      refine sq_nil <| avc_ret ?_
      cases hsy4
      intro q; cases q
      exact ⟨rfl, wc⟩
     ·
      refine avc_skip <| avc_sq <| q2 ?_
      refine q0 ?_
      refine sq_nil ?_
      cases hsy4
      exact wc
    ·
     refine avc_exit ?_
     cases hsy4
     intro q; cases q
     exact ⟨rfl, wc⟩
   ·
    rintro y4 rfl
    replace h := eL h
    refine avc_sq2 <| avc_sq <| q1 ?_
    refine sq_nil ?_
    cases h
    refine avc_ret ?_
    exact ret_1 rfl
   ·
    rintro y4 rfl
    replace h := eR h
    cases h
    exact ret_1 rfl
  ·
   rintro y3 rfl
   replace h := eR h
   cases h
   exact ret_1 rfl
 ·
  rintro y1 rfl
  replace h := eR h
  cases h
  exact ret_1 rfl
theorem cmp_isNaN_string_c  {a0}  {r} (h : cmp_isNaN_string a0 = some r) : Contract Tryz.prog 129 [(ds a0)] [(db r)] := by
 refine contract_of Tryz.func129 (by kernel_rfl) rfl (lq rfl) (lq rfl) fun w0 I0 hI0 hG0 => ?_
 unfold cmp_isNaN_string at h
 refine avc_sq2 <| avc_sq <| q1 ?_
 refine sq_nil <| avc_sq2 <| avc_sq <| q0 ?_
 refine q0 ?_
 refine q89 ?_
 refine q1 ?_
 refine sq_nil ?_
 cases h
 refine avc_ret ?_
 exact ret_1 rfl
theorem cmp_Compare_string_c  {a0} {a1}  {r} (h : cmp_Compare_string a0 a1 = some r) : Contract Tryz.prog 120 [(ds a0), (ds a1)] [(di r)] := by
 refine contract_of Tryz.func120 (by kernel_rfl) rfl (lq rfl) (lq rfl) fun w0 I0 hI0 hG0 => ?_
 unfold cmp_Compare_string at h
 refine avc_sq2 <| avc_sq <| q1 ?_
 refine sq_nil <| avc_sq2 <| avc_sq <| q0 ?_
 obtain ⟨t8, ht8, h⟩ := bE h
 refine q6 (cmp_isNaN_string_c ht8) ?_
 refine q1 ?_
 refine sq_nil <| avc_sq2 <| avc_sq <| q0 ?_
 obtain ⟨t10, ht10, h⟩ := bE h
 refine q6 (cmp_isNaN_string_c ht10) ?_
 refine q1 ?_
 refine sq_nil <| avc_sq2 <| avc_sq2 <| avc_sq <| q0 ?_
 refine sq_nil ?_
 refine ifM rfl h (fun _ h => ?_) (fun _ h => ?_)
 ·
  refine avc_sq2 <| avc_sq2 <| avc_sq <| q0 ?_
  refine sq_nil ?_
  refine ifM rfl h (fun _ h => ?_) (fun _ h => ?_)
  ·
   refine avc_sq2 <| avc_sq <| q1 ?_
   refine sq_nil ?_
   cases h
   refine avc_ret ?_
   exact ret_1 rfl
  ·
   refine avc_skip <| avc_sq2 <| avc_sq <| q1 ?_
   refine sq_nil ?_
   cases h
   refine avc_ret ?_
   exact ret_1 rfl
 ·
  refine avc_skip <| avc_sq2 <| avc_sq2 <| avc_sq <| q0 ?_
  refine sq_nil ?_
  refine ifM rfl h (fun _ h => ?_) (fun _ h => ?_)
  ·
   refine avc_sq2 <| avc_sq <| q1 ?_
   refine sq_nil ?_
   cases h
   refine avc_ret ?_
   exact ret_1 rfl
  ·
   refine avc_skip <| avc_sq2 <| avc_sq2 <| avc_sq <| q0 ?_
   refine q0 ?_
   refine sqa (m_slss (a := a0) (b := a1) (lq rfl) rfl rfl) ?_
   refine sq_nil ?_
   refine ifM rfl h (fun _ h => ?_) (fun _ h => ?_)
   ·
    refine avc_sq2 <| avc_sq <| q1 ?_
    refine sq_nil ?_
    cases h
    refine avc_ret ?_
    exact ret_1 rfl
   ·
    refine avc_skip <| avc_sq2 <| avc_sq2 <| avc_sq <| q0 ?_
    refine q0 ?_
    refine sqa (m_sgtr (a := a0) (b := a1) (lq rfl) rfl rfl) ?_
    refine sq_nil ?_
    refine ifM rfl h (fun _ h => ?_) (fun _ h => ?_)
    ·
     refine avc_sq2 <| avc_sq <| q1 ?_
     refine sq_nil ?_
     cases h
     refine avc_ret ?_
     exact ret_1 rfl
    ·
     refine avc_skip <| avc_sq2 <| avc_sq <| q1 ?_
     refine sq_nil ?_
     cases h
     refine avc_ret ?_
     exact ret_1 rfl
theorem cmp_Or_int_c  {a0}  {r} (h : cmp_Or_int a0 = some r) : Contract Tryz.prog 119 [(dsl eI a0)] [(di r)] := by
 refine contract_of Tryz.func119 (by kernel_rfl) rfl (lq rfl) (lq rfl) fun w0 I0 hI0 hG0 => ?_
 unfold cmp_Or_int at h
 refine avc_sq2 <| avc_sq <| q1 ?_
 refine sq_nil <| avc_sq2 <| avc_sq <| q1 ?_
 refine sq_nil <| avc_sq2 <| avc_sq2 <| avc_sq <| q0 ?_
 refine q5 S33 ?_
 refine q0 ?_
 refine sq_nil <| avc_block ?_
 obtain ⟨y1, hy1, h⟩ := bE h
 refine avc_tail2 y1 (.exit 0) (fun y1 => ⟨[(3, .d (di 0))], []⟩) .ret (fun y1 => ⟨[(2, .d (di y1))], []⟩) ?_ ?_ ?_
 ·
  refine avc_loopM (fun x => ⟨[(3, .d (di 0)), (6, .d (dsl eI a0)), (7, .d (di (a0.length : Int))), (8, .d (di x))], []⟩) hy1 (wc) ?_
  rintro v8 sy1 hsy1
  replace hsy1 : cmp_Or_int_L0 a0 v8 = some sy1 := hsy1
  unfold cmp_Or_int_L0 at hsy1
  refine avc_sq2 <| avc_sq <| q3 ?_
  refine sq_nil <| avc_sq2 ?_
  refine ifM rfl hsy1 (fun _ hsy1 => ?_) (fun _ hsy1 => ?_)
  ·
   refine avc_skip <| avc_sq2 <| avc_block <| avc_sq2 <| avc_sq ?_
   obtain ⟨t10, ht10, hsy1⟩ := bE hsy1
   refine q11 S33 ht10 ?_
   refine q29 O3 ht10 ?_
   refine q1 ?_
   refine sq_nil <| avc_sq2 <| avc_sq <| q0 ?_
   refine q0 ?_
   refine q27 ?_
   refine sq_nil ?_
   refine ifM rfl hsy1 (fun _ hsy1 => ?_) (fun _ hsy1 => ?_)
   ·
    refine avc_sq2 <| avc_sq <| q0 ?_
    refine q1 ?_
    refine sq_nil <| avc_ret ?_
    cases hsy1
    intro q; cases q
    exact ⟨rfl, wc⟩
   ·
    refine avc_skip <| avc_sq <| q2 ?_
    refine q0 ?_
    refine sq_nil ?_
    cases hsy1
    exact wc
  ·
   refine avc_exit ?_
   cases hsy1
   intro q; cases q
   exact ⟨rfl, wc⟩
 ·
  rintro y1 rfl
  replace h := eL h
  refine avc_sq2 <| avc_sq <| q0 ?_
  refine q1 ?_
  refine sq_nil ?_
  cases h
  refine avc_ret ?_
  exact ret_1 rfl
 ·
  rintro y1 rfl
  replace h := eR h
  cases h
  exact ret_1 rfl
theorem mapping_compare_c  {a0} {a1}  {r} (h : mapping_compare a0 a1 = some r) : Contract Tryz.prog 103 [(eMapping.dv a0), (eMapping.dv a1)] [(di r)] := by
 refine contract_of Tryz.func103 (by kernel_rfl) rfl (lq rfl) (lq rfl) fun w0 I0 hI0 hG0 => ?_
 unfold mapping_compare at h
 refine avc_sq2 <| avc_sq <| q28 ?_
 refine q28 ?_
 refine q1 ?_
 refine sq_nil <| avc_sq2 ?_
 refine avc_drawA MX rfl ?_
 refine q19 L103_0 ?_
 refine q21 O3 ?_
 refine q19 L103_0 ?_
 refine q21 O3 ?_
 obtain ⟨t9, ht9, h⟩ := bE h
 refine q20 (cmp_Compare_int_c ht9) ?_
 refine q19 L103_2 ?_
 refine q21 O9 ?_
 refine q19 L103_2 ?_
 refine q21 O9 ?_
 obtain ⟨t14, ht14, h⟩ := bE h
 refine q20 (cmp_Compare_string_c ht14) ?_
 refine q127 S33 ?_
 obtain ⟨t16, ht16, h⟩ := bE h
 refine q20 (cmp_Or_int_c ht16) ?_
 refine q26 ?_
 refine da_nil ?_
 cases h
 refine avc_ret ?_
 exact ret_1 rfl
theorem mapping_keyOf_c  {a0}  {r} (h : mapping_keyOf a0 = some r) : Contract Tryz.prog 104 [(eMapping.dv a0)] [(eMapping_key.dv r)] := by
 refine contract_of Tryz.func104 (by kernel_rfl) rfl (lq rfl) (lq rfl) fun w0 I0 hI0 hG0 => ?_
 unfold mapping_keyOf at h
 refine avc_sq2 <| avc_sq <| q28 ?_
 refine sq_b rfl (step_alloc (zs := [(.int IntKind.i64 (0)), (.string ⟨#[]⟩)]) (lq rfl) (by kernel_rfl) rfl rfl) ?_
 refine sq_nil <| avc_sq2 <| avc_sq <| q7 L103_0 ?_
 refine q8 O3 ?_
 refine q7 L103_2 ?_
 refine q8 O9 ?_
 refine q44 B137 ?_
 refine q14 G137 ?_
 refine sq_nil ?_
 cases h
 refine avc_ret ?_
 exact ret_cellA rfl rfl G137 rfl
theorem mapping_Check_c  {a0}  {r} (h : mapping_Check a0 = some r) : Contract Tryz.prog 77 [(dsl eMapping a0)] [(di r)] := by
 refine contract_of Tryz.func77 (by kernel_rfl) rfl (lq rfl) (lq rfl) fun w0 I0 hI0 hG0 => ?_
 unfold mapping_Check at h
 refine avc_sq2 <| avc_sq <| q1 ?_
 refine sq_nil <| avc_sq2 <| avc_sq2 <| avc_sq <| q0 ?_
 obtain ⟨t10, ht10, h⟩ := bE h
 refine q6 (mapping_parts_c ht10) ?_
 refine q1 ?_
 refine sq_nil <| avc_sq2 <| avc_sq <| q0 ?_
 refine q27 ?_
 refine sq_nil ?_
 refine ifM rfl h (fun _ h => ?_) (fun _ h => ?_)
 ·
  refine avc_sq2 <| avc_sq <| q0 ?_
  refine q1 ?_
  refine sq_nil ?_
  cases h
  refine avc_ret ?_
  exact ret_1 rfl
 ·
  refine avc_skip <| avc_sq2 <| avc_sq <| q1 ?_
  refine sq_nil <| avc_sq2 <| avc_sq2 <| avc_sq <| q1 ?_
  refine sq_nil <| avc_block ?_
  obtain ⟨y1, hy1, h⟩ := bE h
  refine avc_tail (e := (.exit 0)) (S2 := ⟨[(0, .d (dsl eMapping a0)), (4, .d (db y1))], []⟩) ?_ ?_
  ·
   refine avc_loopM (fun x => ⟨[(0, .d (dsl eMapping a0)), (4, .d (db x.1)), (5, .d (di x.2))], []⟩) hy1 (wc) ?_
   rintro ⟨v4, v5⟩ sy1 hsy1
   replace hsy1 : mapping_Check_L0 a0 v4 v5 = some sy1 := hsy1
   unfold mapping_Check_L0 at hsy1
   refine avc_sq2 <| avc_sq2 <| avc_sq <| q0 ?_
   refine q0 ?_
   refine q5 S23 ?_
   refine q3 ?_
   refine sq_nil ?_
   refine ifM rfl hsy1 (fun _ hsy1 => ?_) (fun _ hsy1 => ?_)
   ·
    refine avc_skip <| avc_sq2 ?_
    obtain ⟨y2, hy2, hsy1⟩ := bE hsy1
    refine avc_tail (e := .normal) (S2 := ⟨[(0, .d (dsl eMapping a0)), (4, .d (db y2)), (5, .d (di v5))], []⟩) ?_ ?_
    ·
     refine avc_block <| avc_sq2 ?_
     refine avc_drawA MX rfl ?_
     refine q4 ?_
     refine q4 ?_
     refine q74 ?_
     obtain ⟨t23, ht23, hy2⟩ := bE hy2
     refine q17 S23 ht23 ?_
     refine q128 G103 ht23 ?_
     refine q4 ?_
     refine q4 ?_
     obtain ⟨t27, ht27, hy2⟩ := bE hy2
     refine q17 S23 ht27 ?_
     refine q128 G103 ht27 ?_
     obtain ⟨t29, ht29, hy2⟩ := bE hy2
     refine q20 (mapping_compare_c ht29) ?_
     refine daa (a_geq (lq rfl) rfl rfl) ?_
     refine da_nil ?_
     refine ifM rfl hy2 (fun _ hy2 => ?_) (fun _ hy2 => ?_)
     ·
      refine avc_sq <| q1 ?_
      refine sq_nil ?_
      cases hy2
      exact out_mk (wc)
     ·
      refine avc_skip ?_
      cases hy2
      exact out_mk (wc)
    ·
     refine avc_sq <| q0 ?_
     refine q2 ?_
     refine q1 ?_
     refine sq_nil ?_
     cases hsy1
     exact wc
   ·
    refine avc_exit ?_
    cases hsy1
    intro q; cases q
    exact out_mk (wc)
  ·
   refine avc_sq2 <| avc_sq2 <| avc_sq <| q0 ?_
   refine sq_nil ?_
   refine ifM rfl h (fun _ h => ?_) (fun _ h => ?_)
   ·
    refine avc_sq2 <| avc_sq <| q1 ?_
    refine sq_nil ?_
    cases h
    refine avc_ret ?_
    exact ret_1 rfl
   ·
    refine avc_skip <| avc_sq2 <| avc_sq <| q101 ?_
    refine q13 ?_
    refine sq_nil <| avc_sq2 <| avc_sq2 <| avc_sq <| q0 ?_
    refine q5 S23 ?_
    refine q0 ?_
    refine sq_nil <| avc_block ?_
    obtain ⟨y3, hy3, h⟩ := bE h
    refine avc_tail2 y3 (.exit 2) (fun y3 => ⟨[], []⟩) .ret (fun y3 => ⟨[(2, .d (di y3))], []⟩) ?_ ?_ ?_
    ·
     refine avc_loopM (fun x => ⟨[(6, .row 32), (33, .d (dsl eMapping a0)), (34, .d (di (a0.length : Int))), (35, .d (di x.1))], [(32, .map (mapE kMapping_key eB x.2))]⟩) hy3 (wc) ?_
     rintro ⟨v35, r32⟩ sy3 hsy3
     replace hsy3 : mapping_Check_L1 a0 v35 r32 = some sy3 := hsy3
     unfold mapping_Check_L1 at hsy3
     refine avc_sq2 <| avc_sq <| q3 ?_
     refine sq_nil <| avc_sq2 ?_
     refine ifM rfl hsy3 (fun _ hsy3 => ?_) (fun _ hsy3 => ?_)
     ·
      refine avc_skip <| avc_sq2 <| avc_block <| avc_sq2 <| avc_sq ?_
      obtain ⟨t37, ht37, hsy3⟩ := bE hsy3
      refine q11 S23 ht37 ?_
      refine q66 G103 ht37 ?_
      refine q85 ?_
      refine q14 G103 ?_
      refine sq_nil ?_
      refine avc_weak (weak_freeze (t := 8) (lq rfl) rfl rfl rfl) ?_
      refine avc_sq2 <| avc_sq2 <| avc_sq <| q9 ?_
      refine q16 G103 ?_
      obtain ⟨t41, ht41, hsy3⟩ := bE hsy3
      refine q6 (mapping_keyOf_c ht41) ?_
      refine sqa (m_lookupK (kv := kMapping_key) (ev := eB) (mp := r32) (k := t41) (zero := false) (lq rfl) M135 K137 rfl rfl rfl (kAgg rfl) (fun _ _ => .v _)) ?_
      refine sq_nil ?_
      refine ifM rfl hsy3 (fun _ hsy3 => ?_) (fun _ hsy3 => ?_)
      ·
       refine avc_sq2 <| avc_sq <| q1 ?_
       refine sq_nil <| avc_ret ?_
       cases hsy3
       intro q; cases q
       exact ⟨rfl, wc⟩
      ·
       refine avc_skip <| avc_sq <| q9 ?_
       refine q16 G103 ?_
       obtain ⟨t45, ht45, hsy3⟩ := bE hsy3
       refine q6 (mapping_keyOf_c ht45) ?_
       refine sq_b rfl (m_mapUpdateK (kv := kMapping_key) (ev := eB) (mp := r32) (k := t45) (v := true) M135 K137 rfl rfl rfl (kAgg rfl) rfl rfl rfl) ?_
       refine sq_nil <| avc_sq <| q2 ?_
       refine q0 ?_
       refine sq_nil ?_
       cases hsy3
       exact wc
     ·
      refine avc_exit ?_
      cases hsy3
      intro q; cases q
      exact ⟨rfl, wc⟩
    ·
     rintro y3 rfl
     replace h := eL h
     refine avc_sq2 <| avc_sq <| q1 ?_
     refine sq_nil ?_
     cases h
     refine avc_ret ?_
     exact ret_1 rfl
    ·
     rintro y3 rfl
     replace h := eR h
     cases h
     exact ret_1 rfl
set_option maxRecDepth 20000 in
theorem math_bits_Len64_c  {a0}  {r} (h : math_bits_Len64 a0 = some r) : Contract Tryz.prog 143 [(.v (.int .u64 a0))] [(di r)] := by
 refine contract_of Tryz.func143 (by kernel_rfl) rfl (lq rfl) (lq rfl) fun w0 I0 hI0 hG0 => ?_
 unfold math_bits_Len64 at h
 refine avc_sq2 <| avc_sq <| q1 ?_
 refine sq_nil <| avc_sq2 <| avc_sq2 <| avc_sq <| q0 ?_
 refine q30 ?_
 refine sq_nil ?_
 obtain ⟨y1, hy1, h⟩ := bE h
 refine avc_tail (e := .normal) (S2 := ⟨[(0, .d (.v (.int .u64 y1.1))), (2, .d (di y1.2))], []⟩) ?_ ?_
 ·
  refine ifM rfl hy1 (fun _ hy1 => ?_) (fun _ hy1 => ?_)
  ·
   refine avc_sq2 <| avc_sq <| q0 ?_
   refine q63 ?_
   refine q1 ?_
   refine sq_nil <| avc_sq <| q1 ?_
   refine sq_nil ?_
   cases hy1
   exact out_mk (wc)
  ·
   refine avc_skip ?_
   cases hy1
   exact out_mk (wc)
 ·
  refine avc_sq2 <| avc_sq2 <| avc_sq <| q0 ?_
  refine q30 ?_
  refine sq_nil ?_
  obtain ⟨y2, hy2, h⟩ := bE h
  refine avc_tail (e := .normal) (S2 := ⟨[(0, .d (.v (.int .u64 y2.1))), (2, .d (di y2.2))], []⟩) ?_ ?_
  ·
   refine ifM rfl hy2 (fun _ hy2 => ?_) (fun _ hy2 => ?_)
   ·
    refine avc_sq2 <| avc_sq <| q0 ?_
    refine q63 ?_
    refine q1 ?_
    refine sq_nil <| avc_sq <| q0 ?_
    refine q2 ?_
    refine q1 ?_
    refine sq_nil ?_
    cases hy2
    exact out_mk (wc)
   ·
    refine avc_skip ?_
    cases hy2
    exact out_mk (wc)
  ·
   refine avc_sq2 <| avc_sq2 <| avc_sq <| q0 ?_
   refine q30 ?_
   refine sq_nil ?_
   obtain ⟨y3, hy3, h⟩ := bE h
   refine avc_tail (e := .normal) (S2 := ⟨[(0, .d (.v (.int .u64 y3.1))), (2, .d (di y3.2))], []⟩) ?_ ?_
   ·
    refine ifM rfl hy3 (fun _ hy3 => ?_) (fun _ hy3 => ?_)
    ·
     refine avc_sq2 <| avc_sq <| q0 ?_
     refine q63 ?_
     refine q1 ?_
     refine sq_nil <| avc_sq <| q0 ?_
     refine q2 ?_
     refine q1 ?_
     refine sq_nil ?_
     cases hy3
     exact out_mk (wc)
    ·
     refine avc_skip ?_
     cases hy3
     exact out_mk (wc)
   ·
    refine avc_sq2 <| avc_sq <| q0 ?_
    refine q0 ?_
    refine q45 Tryz.underlying174 Tryz.underlying5 ?_
    obtain ⟨t22, ht22, h⟩ := bE h
    refine q119 Tryz.underlying9 ht22 ?_
    refine q45 Tryz.underlying5 Tryz.underlying3 ?_
    refine q2 ?_
    refine q1 ?_
    refine sq_nil ?_
    cases h
    refine avc_ret ?_
    exact ret_1 rfl
theorem math_bits_Len_c  {a0}  {r} (h : math_bits_Len a0 = some r) : Contract Tryz.prog 131 [(.v (.int .u64 a0))] [(di r)] := by
 refine contract_of Tryz.func131 (by kernel_rfl) rfl (lq rfl) (lq rfl) fun w0 I0 hI0 hG0 => ?_
 unfold math_bits_Len at h
 refine avc_sq2 <| avc_sq <| q1 ?_
 refine sq_nil <| avc_sq2 ?_
 refine ifM rfl h (fun _ h => ?_) (fun _ h => ?_)
 ·
  refine avc_sq2 <| avc_sq <| q0 ?_
  refine q45 Tryz.underlying141 Tryz.underlying172 ?_
  cases h
 ·
  refine avc_skip <| avc_sq2 <| avc_sq <| q0 ?_
  obtain ⟨t7, ht7, h⟩ := bE h
  refine q6 (math_bits_Len64_c ht7) ?_
  refine q1 ?_
  refine sq_nil ?_
  cases h
  refine avc_ret ?_
  exact ret_1 rfl
set_option maxHeartbeats 8000000 in
theorem slices_insertionSortCmpFunc_api_Range_g {fv3 : DV} {a0 : (List Range)} {a1 : Int} {a2 : Int} {a3 : Range → Range → Option (Int)} (hf3 : ∀ x0 x1 y, a3 x0 x1 = some y → FnC Tryz.prog fv3 [(eRange.dv x0), (eRange.dv x1)] [(di y)]) {r : (List Range)} (h : slices_insertionSortCmpFunc_api_Range a0 a1 a2 a3 = some r) : GC Tryz.prog 134 [.row 3000, .d (di a1), .d (di a2), .d fv3] [(3000, .row 123 eRange.size false (eRange.all a0))] [3000] [] [(3000, .row 123 eRange.size false (eRange.all r))] := by
 refine gc_of Tryz.func134 (by kernel_rfl) rfl (lq rfl) (lq rfl) fun w0 I0 hG0 p0 => ?_
 unfold slices_insertionSortCmpFunc_api_Range at h
 refine avc_sq2 <| avc_sq <| q0 ?_
 refine q2 ?_
 refine q1 ?_
 refine sq_nil <| avc_block ?_
 obtain ⟨y1, hy1, h⟩ := bE h
 refine avc_tail (e := (.exit 0)) (S2 := ⟨[(0, .row 3000)], [(3000, .row 123 eRange.size false (eRange.all y1))]⟩) ?_ ?_
 ·
  refine avc_loopM (fun x => ⟨[(0, .row 3000), (1, .d (di a1)), (2, .d (di a2)), (3, .d fv3), (8, .d (di x.1))], [(3000, .row 123 eRange.size false (eRange.all x.2))]⟩) hy1 (wc) ?_
  rintro ⟨v8, r3000⟩ sy1 hsy1
  replace hsy1 : slices_insertionSortCmpFunc_api_Range_L0 a2 a1 a3 v8 r3000 = some sy1 := hsy1
  unfold slices_insertionSortCmpFunc_api_Range_L0 at hsy1
  refine avc_sq2 <| avc_sq2 <| avc_sq <| q0 ?_
  refine q0 ?_
  refine q3 ?_
  refine sq_nil ?_
  refine ifM rfl hsy1 (fun _ hsy1 => ?_) (fun _ hsy1 => ?_)
  ·
   refine avc_skip <| avc_sq2 <| avc_block <| avc_sq2 <| avc_sq <| q0 ?_
   refine q1 ?_
   refine sq_nil <| avc_block ?_
   obtain ⟨y2, hy2, hsy1⟩ := bE hsy1
   refine avc_tail (e := (.exit 2)) (S2 := ⟨[(0, .row 3000), (1, .d (di a1)), (2, .d (di a2)), (3, .d fv3), (8, .d (di v8))], [(3000, .row 123 eRange.size false (eRange.all y2))]⟩) ?_ ?_
   ·
    refine avc_loopM (fun x => ⟨[(0, .row 3000), (1, .d (di a1)), (2, .d (di a2)), (3, .d fv3), (8, .d (di v8)), (9, .d (di x.1))], [(3000, .row 123 eRange.size false (eRange.all x.2))]⟩) hy2 (wc) ?_
    rintro ⟨v9, r3000⟩ sy2 hsy2
    replace hsy2 : slices_insertionSortCmpFunc_api_Range_L1 a1 a3 v9 r3000 = some sy2 := hsy2
    unfold slices_insertionSortCmpFunc_api_Range_L1 at hsy2
    refine avc_sq2 <| avc_sq2 ?_
    refine avc_drawA MX rfl ?_
    refine q4 ?_
    refine q4 ?_
    refine q80 ?_
    obtain ⟨b21, hb21, hsy2⟩ := bE hsy2
    refine daa ((a_move_d (lq rfl) rfl).bool (Option.some.inj hb21)) ?_
    refine q38 (.d fv3) ?_
    refine q107 (.row 3000) ?_
    refine q38 (.d (di v9)) ?_
    obtain ⟨t25, ht25, hsy2⟩ := bE hsy2
    refine dat (.ptr 3000 (v9.toNat * eRange.size)) rfl (fun hb => by subst hb; exact m_indexR (en := eRange) (l := r3000) (lq rfl) S24 rfl rfl rfl ht25) ?_
    refine dat (.d (eRange.dv t25)) rfl (fun hb => by subst hb; exact m_loadEAR (en := eRange) (l := r3000) (i := v9) (v := t25) (off := 0) (lq rfl) G123 rfl rfl ht25 rfl rfl (by decide)) ?_
    refine q107 (.row 3000) ?_
    refine q38 (.d (di v9)) ?_
    refine q90 (.d (di (wi (v9 - 1)))) ?_
    obtain ⟨t30, ht30, hsy2⟩ := bE hsy2
    refine dat (.ptr 3000 ((wi (v9 - 1)).toNat * eRange.size)) rfl (fun hb => by subst hb; exact m_indexR (en := eRange) (l := r3000) (lq rfl) S24 rfl rfl rfl ht30) ?_
    refine dat (.d (eRange.dv t30)) rfl (fun hb => by subst hb; exact m_loadEAR (en := eRange) (l := r3000) (i := (wi (v9 - 1))) (v := t30) (off := 0) (lq rfl) G123 rfl rfl ht30 rfl rfl (by decide)) ?_
    obtain ⟨t32, ht32, hsy2⟩ := bE hsy2
    refine dat (.d (di t32)) rfl (fun hb => by subst hb; exact a_callF (lq rfl) rfl rfl (hf3 _ _ _ ht32)) ?_
    refine dat (.d (db (decide (t32 < 0)))) rfl (fun hb => by subst hb; exact a_lss (lq rfl) rfl rfl) ?_
    refine q50 ?_
    refine da_nil ?_
    refine ifM rfl hsy2 (fun _ hsy2 => ?_) (fun _ hsy2 => ?_)
    ·
     refine avc_skip <| avc_sq2 <| avc_block ?_
     obtain ⟨t45, ht45, hsy2⟩ := bE hsy2
     obtain ⟨t49, ht49, hsy2⟩ := bE hsy2
     obtain ⟨t51, ht51, hsy2⟩ := bE hsy2
     obtain ⟨r3000_6x15, hr3000_6x15, hsy2⟩ := bE hsy2
     obtain ⟨t52, ht52, hsy2⟩ := bE hsy2
     obtain ⟨r3000_6x17, hr3000_6x17, hsy2⟩ := bE hsy2
     refine avc_tail (e := .normal) (S2 := ⟨[(0, .row 3000), (1, .d (di a1)), (2, .d (di a2)), (3, .d fv3), (8, .d (di v8)), (9, .d (di v9))], [(3000, .row 123 eRange.size false (eRange.all r3000_6x17))]⟩) ?_ ?_
     ·
      refine avc_any MX ?_
      refine any_move (i := 0) rfl (lq rfl) rfl rfl rfl rfl ?_
      refine any_move (i := 1) rfl (lq rfl) rfl rfl rfl rfl ?_
      refine any_move (i := 2) rfl (lq rfl) rfl rfl rfl rfl ?_
      refine any_move (i := 3) rfl (lq rfl) rfl rfl rfl rfl ?_
      refine any_sub (i := 4) rfl (lq rfl) rfl rfl rfl rfl rfl rfl ?_
      refine any_move (i := 5) rfl (lq rfl) rfl rfl rfl rfl ?_
      refine any_move (i := 6) rfl (lq rfl) rfl rfl rfl rfl ?_
      refine any_sub (i := 7) rfl (lq rfl) rfl rfl rfl rfl rfl rfl ?_
      refine any_move (i := 10) rfl (lq rfl) rfl rfl rfl rfl ?_
      refine any_move (i := 11) rfl (lq rfl) rfl rfl rfl rfl ?_
      refine xn [8,12] ?_
      refine xa rfl (m_indexR (en := eRange) (l := r3000) (lq rfl) S24 rfl rfl rfl ht45) ?_ ?_
      ·
       refine xn [9,12] ?_
       refine xa rfl (m_loadEAR (en := eRange) (l := r3000) (i := (wi (v9 - 1))) (v := t45) (off := 0) (lq rfl) G123 rfl rfl ht45 rfl rfl (by decide)) ?_ ?_
       ·
        refine xn [12] ?_
        refine xc rfl (m_indexR (en := eRange) (l := r3000) (lq rfl) S24 rfl rfl rfl ht49) ?_
        refine xn [13] ?_
        refine xc rfl (m_loadEAR (en := eRange) (l := r3000) (i := v9) (v := t49) (off := 0) (lq rfl) G123 rfl rfl ht49 rfl rfl (by decide)) ?_
        refine xn [14] ?_
        refine xc rfl (m_indexR (en := eRange) (l := r3000) (lq rfl) S24 rfl rfl rfl ht51) ?_
        refine xn [15] ?_
        refine xd rfl (m_storeA (en := eRange) (l := r3000) (i := v9) (v := t45) G123 rfl rfl rfl rfl hr3000_6x15 rfl) ?_
        refine xn [16] ?_
        refine xc rfl (m_indexR (en := eRange) (l := r3000_6x15) (lq rfl) S24 rfl rfl rfl ht52) ?_
        refine xn [17] ?_
        refine xd rfl (m_storeA (en := eRange) (l := r3000_6x15) (i := (wi (v9 - 1))) (v := t49) G123 rfl rfl rfl rfl hr3000_6x17 rfl) ?_
        exact any_end rfl (out_mk (wc))
       refine xc rfl (m_indexR (en := eRange) (l := r3000) (lq rfl) S24 rfl rfl rfl ht49) ?_
       refine xn [9,13] ?_
       refine xa rfl (m_loadEAR (en := eRange) (l := r3000) (i := (wi (v9 - 1))) (v := t45) (off := 0) (lq rfl) G123 rfl rfl ht45 rfl rfl (by decide)) ?_ ?_
       ·
        refine xn [13] ?_
        refine xc rfl (m_loadEAR (en := eRange) (l := r3000) (i := v9) (v := t49) (off := 0) (lq rfl) G123 rfl rfl ht49 rfl rfl (by decide)) ?_
        refine xn [14] ?_
        refine xc rfl (m_indexR (en := eRange) (l := r3000) (lq rfl) S24 rfl rfl rfl ht51) ?_
        refine xn [15] ?_
        refine xd rfl (m_storeA (en := eRange) (l := r3000) (i := v9) (v := t45) G123 rfl rfl rfl rfl hr3000_6x15 rfl) ?_
        refine xn [16] ?_
        refine xc rfl (m_indexR (en := eRange) (l := r3000_6x15) (lq rfl) S24 rfl rfl rfl ht52) ?_
        refine xn [17] ?_
        refine xd rfl (m_storeA (en := eRange) (l := r3000_6x15) (i := (wi (v9 - 1))) (v := t49) G123 rfl rfl rfl rfl hr3000_6x17 rfl) ?_
        exact any_end rfl (out_mk (wc))
       refine xc rfl (m_loadEAR (en := eRange) (l := r3000) (i := v9) (v := t49) (off := 0) (lq rfl) G123 rfl rfl ht49 rfl rfl (by decide)) ?_
       refine xn [9] ?_
       refine xc rfl (m_loadEAR (en := eRange) (l := r3000) (i := (wi (v9 - 1))) (v := t45) (off := 0) (lq rfl) G123 rfl rfl ht45 rfl rfl (by decide)) ?_
       refine xn [14] ?_
       refine xc rfl (m_indexR (en := eRange) (l := r3000) (lq rfl) S24 rfl rfl rfl ht51) ?_
       refine xn [15] ?_
       refine xd rfl (m_storeA (en := eRange) (l := r3000) (i := v9) (v := t45) G123 rfl rfl rfl rfl hr3000_6x15 rfl) ?_
       refine xn [16] ?_
       refine xc rfl (m_indexR (en := eRange) (l := r3000_6x15) (lq rfl) S24 rfl rfl rfl ht52) ?_
       refine xn [17] ?_
       refine xd rfl (m_storeA (en := eRange) (l := r3000_6x15) (i := (wi (v9 - 1))) (v := t49) G123 rfl rfl rfl rfl hr3000_6x17 rfl) ?_
       exact any_end rfl (out_mk (wc))
      refine xc rfl (m_indexR (en := eRange) (l := r3000) (lq rfl) S24 rfl rfl rfl ht49) ?_
      refine xn [8,13] ?_
      refine xa rfl (m_indexR (en := eRange) (l := r3000) (lq rfl) S24 rfl rfl rfl ht45) ?_ ?_
      ·
       refine xn [9,13] ?_
       refine xa rfl (m_loadEAR (en := eRange) (l := r3000) (i := (wi (v9 - 1))) (v := t45) (off := 0) (lq rfl) G123 rfl rfl ht45 rfl rfl (by decide)) ?_ ?_
       ·
        refine xn [13] ?_
        refine xc rfl (m_loadEAR (en := eRange) (l := r3000) (i := v9) (v := t49) (off := 0) (lq rfl) G123 rfl rfl ht49 rfl rfl (by decide)) ?_
        refine xn [14] ?_
        refine xc rfl (m_indexR (en := eRange) (l := r3000) (lq rfl) S24 rfl rfl rfl ht51) ?_
        refine xn [15] ?_
        refine xd rfl (m_storeA (en := eRange) (l := r3000) (i := v9) (v := t45) G123 rfl rfl rfl rfl hr3000_6x15 rfl) ?_
        refine xn [16] ?_
        refine xc rfl (m_indexR (en := eRange) (l := r3000_6x15) (lq rfl) S24 rfl rfl rfl ht52) ?_
        refine xn [17] ?_
        refine xd rfl (m_storeA (en := eRange) (l := r3000_6x15) (i := (wi (v9 - 1))) (v := t49) G123 rfl rfl rfl rfl hr3000_6x17 rfl) ?_
        exact any_end rfl (out_mk (wc))
       refine xc rfl (m_loadEAR (en := eRange) (l := r3000) (i := v9) (v := t49) (off := 0) (lq rfl) G123 rfl rfl ht49 rfl rfl (by decide)) ?_
       refine xn [9] ?_
       refine xc rfl (m_loadEAR (en := eRange) (l := r3000) (i := (wi (v9 - 1))) (v := t45) (off := 0) (lq rfl) G123 rfl rfl ht45 rfl rfl (by decide)) ?_
       refine xn [14] ?_
       refine xc rfl (m_indexR (en := eRange) (l := r3000) (lq rfl) S24 rfl rfl rfl ht51) ?_
       refine xn [15] ?_
       refine xd rfl (m_storeA (en := eRange) (l := r3000) (i := v9) (v := t45) G123 rfl rfl rfl rfl hr3000_6x15 rfl) ?_
       refine xn [16] ?_
       refine xc rfl (m_indexR (en := eRange) (l := r3000_6x15) (lq rfl) S24 rfl rfl rfl ht52) ?_
       refine xn [17] ?_
       refine xd rfl (m_storeA (en := eRange) (l := r3000_6x15) (i := (wi (v9 - 1))) (v := t49) G123 rfl rfl rfl rfl hr3000_6x17 rfl) ?_
       exact any_end rfl (out_mk (wc))
      refine xc rfl (m_loadEAR (en := eRange) (l := r3000) (i := v9) (v := t49) (off := 0) (lq rfl) G123 rfl rfl ht49 rfl rfl (by decide)) ?_
      refine xn [8] ?_
      refine xc rfl (m_indexR (en := eRange) (l := r3000) (lq rfl) S24 rfl rfl rfl ht45) ?_
      refine xn [9] ?_
      refine xc rfl (m_loadEAR (en := eRange) (l := r3000) (i := (wi (v9 - 1))) (v := t45) (off := 0) (lq rfl) G123 rfl rfl ht45 rfl rfl (by decide)) ?_
      refine xn [14] ?_
      refine xc rfl (m_indexR (en := eRange) (l := r3000) (lq rfl) S24 rfl rfl rfl ht51) ?_
      refine xn [15] ?_
      refine xd rfl (m_storeA (en := eRange) (l := r3000) (i := v9) (v := t45) G123 rfl rfl rfl rfl hr3000_6x15 rfl) ?_
      refine xn [16] ?_
      refine xc rfl (m_indexR (en := eRange) (l := r3000_6x15) (lq rfl) S24 rfl rfl rfl ht52) ?_
      refine xn [17] ?_
      refine xd rfl (m_storeA (en := eRange) (l := r3000_6x15) (i := (wi (v9 - 1))) (v := t49) G123 rfl rfl rfl rfl hr3000_6x17 rfl) ?_
      exact any_end rfl (out_mk (wc))
     refine avc_sq <| q0 ?_
     refine q25 ?_
     refine q1 ?_
     refine sq_nil ?_
     cases hsy2
     exact wc
    ·
     refine avc_exit ?_
     cases hsy2
     intro q; cases q
     exact out_mk (wc)
   ·
    refine avc_sq <| q0 ?_
    refine q2 ?_
    refine q1 ?_
    refine sq_nil ?_
    cases hsy1
    exact wc
  ·
   refine avc_exit ?_
   cases hsy1
   intro q; cases q
   exact out_mk (wc)
 ·
  cases h
  exact ⟨rfl, ⟨rfl, trivial⟩⟩
theorem slices_pdqsortCmpFunc_api_Range_g {fv4 : DV} {a0 : (List Range)} {a1 : Int} {a2 : Int} {a3 : Int} {a4 : Range → Range → Option (Int)} (hf4 : ∀ x0 x1 y, a4 x0 x1 = some y → FnC Tryz.prog fv4 [(eRange.dv x0), (eRange.dv x1)] [(di y)]) {r : (List Range)} (h : slices_pdqsortCmpFunc_api_Range a0 a1 a2 a3 a4 = some r) : GC Tryz.prog 130 [.row 3000, .d (di a1), .d (di a2), .d (di a3), .d fv4] [(3000, .row 123 eRange.size false (eRange.all a0))] [3000] [] [(3000, .row 123 eRange.size false (eRange.all r))] := by
 refine gc_of Tryz.func130 (by kernel_rfl) rfl (lq rfl) (lq rfl) fun w0 I0 hG0 p0 => ?_
 unfold slices_pdqsortCmpFunc_api_Range at h
 refine avc_sq2 <| avc_sq <| q1 ?_
 refine sq_nil <| avc_sq2 <| avc_sq <| q1 ?_
 refine sq_nil <| avc_block ?_
 obtain ⟨y1, hy1, h⟩ := bE h
 refine avc_tail (e := .ret) (S2 := ⟨[(0, .row 3000)], [(3000, .row 123 eRange.size false (eRange.all y1))]⟩) ?_ ?_
 ·
  refine avc_loopM (fun x => ⟨[(0, .row 3000), (1, .d (di a1)), (2, .d (di a2)), (3, .d (di a3)), (4, .d fv4), (10, .d (db true)), (11, .d (db true))], [(3000, .row 123 eRange.size false (eRange.all a0))]⟩) hy1 (wc) ?_
  rintro _ sy1 hsy1
  replace hsy1 : slices_pdqsortCmpFunc_api_Range_L0 a2 a1 a0 a4 a3  = some sy1 := hsy1
  unfold slices_pdqsortCmpFunc_api_Range_L0 at hsy1
  obtain ⟨y2, hy2, hsy1⟩ := bE hsy1
  refine avc_tail (e := .ret) (S2 := ⟨[(0, .row 3000)], [(3000, .row 123 eRange.size false (eRange.all y2))]⟩) ?_ ?_
  ·
   refine avc_block <| avc_sq2 <| avc_sq <| q0 ?_
   refine q0 ?_
   refine q25 ?_
   refine q1 ?_
   refine sq_nil <| avc_sq2 <| avc_sq2 <| avc_sq <| q0 ?_
   refine q53 ?_
   refine sq_nil ?_
   refine ifM rfl hy2 (fun _ hy2 => ?_) (fun _ hy2 => ?_)
   ·
    refine avc_sq2 <| avc_sq <| q9 ?_
    refine q0 ?_
    refine q0 ?_
    refine q0 ?_
    obtain ⟨t30, ht30, hy2⟩ := bE hy2
    refine sq_b rfl (g_callN [(3000, 3000)] (slices_insertionSortCmpFunc_api_Range_g hf4 ht30) (lq rfl) (by decide) ⟨rfl, rfl, rfl, rfl, trivial⟩ rfl rfl ⟨rfl, trivial⟩ rfl rfl rfl rfl) ?_
    refine sq_nil <| avc_ret ?_
    cases hy2
    exact out_mk (wc)
   ·
    refine avc_skip <| avc_sq2 <| avc_sq2 <| avc_sq <| q0 ?_
    refine q39 ?_
    refine sq_nil ?_
    refine ifM rfl hy2 (fun _ hy2 => ?_) (fun _ hy2 => ?_)
    ·
     refine avc_sq2 <| avc_sq <| q9 ?_
     refine q0 ?_
     refine q0 ?_
     refine q0 ?_
     cases hy2
    ·
     refine avc_skip <| avc_sq2 <| avc_sq2 <| avc_sq <| q0 ?_
     refine q22 ?_
     refine sq_nil ?_
     obtain ⟨y3, hy3, hy2⟩ := bE hy2
     refine avc_tail (e := .normal) (S2 := ⟨[(0, .row 3000), (1, .d (di a1)), (2, .d (di a2)), (3, .d (di a3)), (4, .d fv4), (10, .d (db true)), (11, .d (db true)), (12, .d (di (wi (a2 - a1))))], [(3000, .row 123 eRange.size false (eRange.all a0))]⟩) ?_ ?_
     ·
      refine ifM rfl hy3 (fun _ hy3 => ?_) (fun _ hy3 => ?_)
      ·
       refine avc_sq2 <| avc_sq <| q9 ?_
       refine q0 ?_
       refine q0 ?_
       refine q0 ?_
       cases hy3
      ·
       refine avc_skip ?_
       cases hy3
       exact out_mk (wc)
     ·
      refine avc_sq2 <| avc_sq <| q9 ?_
      refine q0 ?_
      refine q0 ?_
      refine q0 ?_
      cases hy2
  ·
   cases hsy1
   intro q; cases q
   exact out_mk (wc)
 ·
  cases h
  exact ⟨rfl, ⟨rfl, trivial⟩⟩
theorem slices_SortFunc_api_Range_api_Range_g {fv1 : DV} {a0 : (List Range)} {a1 : Range → Range → Option (Int)} (hf1 : ∀ x0 x1 y, a1 x0 x1 = some y → FnC Tryz.prog fv1 [(eRange.dv x0), (eRange.dv x1)] [(di y)]) {r : (List Range)} (h : slices_SortFunc_api_Range_api_Range a0 a1 = some r) : GC Tryz.prog 121 [.row 3000, .d fv1] [(3000, .row 123 eRange.size false (eRange.all a0))] [3000] [] [(3000, .row 123 eRange.size false (eRange.all r))] := by
 refine gc_of Tryz.func121 (by kernel_rfl) rfl (lq rfl) (lq rfl) fun w0 I0 hG0 p0 => ?_
 unfold slices_SortFunc_api_Range_api_Range at h
 refine avc_sq2 <| avc_sq <| q9 ?_
 refine q108 S24 ?_
 refine q1 ?_
 refine sq_nil <| avc_sq <| q9 ?_
 refine q0 ?_
 refine q0 ?_
 refine q45 Tryz.underlying3 Tryz.underlying141 ?_
 obtain ⟨t11, ht11, h⟩ := bE h
 refine q6 (math_bits_Len_c ht11) ?_
 refine q0 ?_
 obtain ⟨t13, ht13, h⟩ := bE h
 refine sq_b rfl (g_callN [(3000, 3000)] (slices_pdqsortCmpFunc_api_Range_g hf1 ht13) (lq rfl) (by decide) ⟨rfl, rfl, rfl, rfl, rfl, trivial⟩ rfl rfl ⟨rfl, trivial⟩ rfl rfl rfl rfl) ?_
 refine sq_nil ?_
 cases h
 exact ⟨rfl, ⟨rfl, trivial⟩⟩
theorem cpset_Make_1_c  {a0} {a1}  {r} (h : cpset_Make_1 a0 a1 = some r) : Contract Tryz.prog 122 [(eRange.dv a0), (eRange.dv a1)] [(di r)] := by
 refine contract_of Tryz.func122 (by kernel_rfl) rfl (lq rfl) (lq rfl) fun w0 I0 hI0 hG0 => ?_
 unfold cpset_Make_1 at h
 refine avc_sq2 <| avc_sq ?_
 refine sqa (m_box (size := 2) (lq rfl) rfl rfl) ?_
 refine sqa (m_box (size := 2) (lq rfl) rfl rfl) ?_
 refine q1 ?_
 refine sq_nil <| avc_sq2 ?_
 refine avc_drawA MX rfl ?_
 refine q19 L123_0 ?_
 refine q21 O3 ?_
 refine q19 L123_0 ?_
 refine q21 O3 ?_
 obtain ⟨t9, ht9, h⟩ := bE h
 refine q20 (cmp_Compare_int_c ht9) ?_
 refine q19 L123_1 ?_
 refine q21 O3 ?_
 refine q19 L123_1 ?_
 refine q21 O3 ?_
 obtain ⟨t14, ht14, h⟩ := bE h
 refine q20 (cmp_Compare_int_c ht14) ?_
 refine q127 S33 ?_
 obtain ⟨t16, ht16, h⟩ := bE h
 refine q20 (cmp_Or_int_c ht16) ?_
 refine q26 ?_
 refine da_nil ?_
 cases h
 refine avc_ret ?_
 exact ret_1 rfl
theorem cpset_Make_c  {a0}  {r} (h : cpset_Make a0 = some r) : Contract Tryz.prog 105 [(dsl eRange a0)] [(eSet.dv r)] := by
 refine contract_of Tryz.func105 (by kernel_rfl) rfl (lq rfl) (lq rfl) fun w0 I0 hI0 hG0 => ?_
 unfold cpset_Make at h
 refine avc_sq2 <| avc_sq <| q93 ?_
 refine sq_nil <| avc_sq2 <| avc_sq <| q1 ?_
 refine sq_nil ?_
 refine avc_weak (weak_nil (t := 3) 1003 123 eRange.size (lq rfl) (lq rfl) rfl rfl) ?_
 refine avc_sq2 <| avc_sq2 <| avc_sq <| q0 ?_
 refine q5 S24 ?_
 refine q0 ?_
 refine sq_nil <| avc_block ?_
 obtain ⟨y1, hy1, h⟩ := bE h
 refine avc_tail (e := (.exit 0)) (S2 := ⟨[(2, .ptr 2 0), (3, .row 1003)], [(2, .box 26 [.d (.v (.slice none 0 0))]), (1003, .row 123 eRange.size false (eRange.all y1))]⟩) ?_ ?_
 ·
  refine avc_loopM (fun x => ⟨[(2, .ptr 2 0), (3, .row 1003), (11, .d (dsl eRange a0)), (12, .d (di (a0.length : Int))), (13, .d (di x.1))], [(2, .box 26 [.d (.v (.slice none 0 0))]), (1003, .row 123 eRange.size false (eRange.all x.2))]⟩) hy1 (wc) ?_
  rintro ⟨v13, r1003⟩ sy1 hsy1
  replace hsy1 : cpset_Make_L0 a0 v13 r1003 = some sy1 := hsy1
  unfold cpset_Make_L0 at hsy1
  refine avc_sq2 <| avc_sq <| q3 ?_
  refine sq_nil <| avc_sq2 ?_
  refine ifM rfl hsy1 (fun _ hsy1 => ?_) (fun _ hsy1 => ?_)
  ·
   refine avc_skip <| avc_sq2 ?_
   obtain ⟨y2, hy2, hsy1⟩ := bE hsy1
   refine avc_tail (e := .normal) (S2 := ⟨[(2, .ptr 2 0), (3, .row 1003), (11, .d (dsl eRange a0)), (12, .d (di (a0.length : Int))), (13, .d (di v13))], [(2, .box 26 [.d (.v (.slice none 0 0))]), (1003, .row 123 eRange.size false (eRange.all y2))]⟩) ?_ ?_
   ·
    refine avc_block <| avc_sq2 <| avc_sq ?_
    obtain ⟨t15, ht15, hy2⟩ := bE hy2
    refine q11 S24 ht15 ?_
    refine sqa (m_loadEA (en := eRange) (l := a0) (i := v13) (v := t15) (off := 0) (lq rfl) G123 rfl ht15 rfl rfl (by decide)) ?_
    refine q83 ?_
    refine q14 G123 ?_
    refine sq_nil ?_
    refine avc_weak (weak_freeze (t := 5) (lq rfl) rfl rfl rfl) ?_
    refine avc_sq2 <| avc_sq <| q7 L123_0 ?_
    refine q8 O3 ?_
    refine q129 ?_
    refine q7 L123_1 ?_
    refine q8 O3 ?_
    refine q103 ?_
    refine q44 B123 ?_
    refine q83 ?_
    refine q14 G123 ?_
    refine sq_nil ?_
    refine avc_weak (weak_freeze (t := 6) (lq rfl) rfl rfl rfl) ?_
    refine avc_sq2 <| avc_sq <| q7 L123_0 ?_
    refine q8 O3 ?_
    refine q7 L123_1 ?_
    refine q8 O3 ?_
    refine q53 ?_
    refine sq_nil ?_
    refine ifM rfl hy2 (fun _ hy2 => ?_) (fun _ hy2 => ?_)
    ·
     refine avc_sq <| q9 ?_
     refine q16 G123 ?_
     refine q31 S24 ?_
     obtain ⟨r1003_3, hr1003_3, hy2⟩ := bE hy2
     refine sq_b rfl (m_append (en := eRange) (l := r1003) (m := [({ Lo := max t15.Lo 0, Hi := min t15.Hi 1114111 } : Range)]) (lq rfl) S24 rfl rfl rfl hr1003_3 (by decide) (by decide) rfl rfl) ?_
     refine q13 ?_
     refine sq_nil ?_
     cases hy2
     exact out_mk (wc)
    ·
     refine avc_skip ?_
     cases hy2
     exact out_mk (wc)
   ·
    refine avc_sq <| q2 ?_
    refine q0 ?_
    refine sq_nil ?_
    cases hsy1
    exact wc
  ·
   refine avc_exit ?_
   cases hsy1
   intro q; cases q
   exact out_mk (wc)
 ·
  refine avc_sq2 <| avc_sq <| q9 ?_
  obtain ⟨t35, ht35, h⟩ := bE h
  refine sq_b rfl (g_call [(3000, 1003)] (slices_SortFunc_api_Range_api_Range_g (fun _ _ _ q => .inr ⟨_, rfl, cpset_Make_1_c q⟩) ht35) (lq rfl) (by decide) ⟨rfl, rfl, trivial⟩ rfl rfl ⟨rfl, trivial⟩ rfl rfl rfl (fun _ => rfl) rfl) ?_
  refine sq_nil <| avc_sq2 <| avc_sq <| q1 ?_
  refine sq_nil ?_
  refine avc_weak (weak_nil (t := 7) 1007 123 eRange.size (lq rfl) (lq rfl) rfl rfl) ?_
  refine avc_sq2 <| avc_sq2 <| avc_sq <| q9 ?_
  refine q108 S24 ?_
  refine q0 ?_
  refine sq_nil <| avc_block ?_
  obtain ⟨y4, hy4, h⟩ := bE h
  refine avc_tail (e := (.exit 2)) (S2 := ⟨[(2, .ptr 2 0), (7, .row 1007)], [(2, .box 26 [.d (.v (.slice none 0 0))]), (1007, .row 123 eRange.size false (eRange.all y4))]⟩) ?_ ?_
  ·
   refine avc_loopM (fun x => ⟨[(2, .ptr 2 0), (7, .row 1007), (36, .row 1003), (37, .d (di (t35.length : Int))), (38, .d (di x.1))], [(2, .box 26 [.d (.v (.slice none 0 0))]), (1003, .row 123 eRange.size false (eRange.all t35)), (1007, .row 123 eRange.size false (eRange.all x.2))]⟩) hy4 (wc) ?_
   rintro ⟨v38, r1007⟩ sy4 hsy4
   replace hsy4 : cpset_Make_L1 t35 v38 r1007 = some sy4 := hsy4
   unfold cpset_Make_L1 at hsy4
   refine avc_sq2 <| avc_sq <| q3 ?_
   refine sq_nil <| avc_sq2 ?_
   refine ifM rfl hsy4 (fun _ hsy4 => ?_) (fun _ hsy4 => ?_)
   ·
    refine avc_skip <| avc_sq2 ?_
    obtain ⟨y5, hy5, hsy4⟩ := bE hsy4
    refine avc_tail (e := .normal) (S2 := ⟨[(2, .ptr 2 0), (7, .row 1007), (36, .row 1003), (37, .d (di (t35.length : Int))), (38, .d (di v38))], [(2, .box 26 [.d (.v (.slice none 0 0))]), (1003, .row 123 eRange.size false (eRange.all t35)), (1007, .row 123 eRange.size false (eRange.all y5))]⟩) ?_ ?_
    ·
     refine avc_block <| avc_sq2 <| avc_sq ?_
     obtain ⟨t40, ht40, hy5⟩ := bE hy5
     refine q57 S24 ht40 ?_
     refine sqa (m_loadEAR (en := eRange) (l := t35) (i := v38) (v := t40) (off := 0) (lq rfl) G123 rfl rfl ht40 rfl rfl (by decide)) ?_
     refine q83 ?_
     refine q14 G123 ?_
     refine sq_nil ?_
     refine avc_weak (weak_freeze (t := 9) (lq rfl) rfl rfl rfl) ?_
     refine avc_sq2 <| avc_sq2 <| avc_sq <| q9 ?_
     refine q108 S24 ?_
     refine q1 ?_
     refine sq_nil <| avc_sq2 ?_
     refine avc_drawA MX rfl ?_
     refine q4 ?_
     refine q80 ?_
     obtain ⟨b46, hb46, hy5⟩ := bE hy5
     refine daa ((a_move_d (lq rfl) rfl).bool (Option.some.inj hb46)) ?_
     refine q40 (.ip (eRange.cells t40) (0 + 0)) L123_0 ?_
     refine q55 (.d (di t40.Lo)) O3 ?_
     refine q107 (.row 1007) ?_
     refine q38 (.d (di (r1007.length : Int))) ?_
     refine q90 (.d (di (wi ((r1007.length : Int) - 1)))) ?_
     obtain ⟨t52, ht52, hy5⟩ := bE hy5
     refine dat (.ptr 1007 ((wi ((r1007.length : Int) - 1)).toNat * eRange.size)) rfl (fun hb => by subst hb; exact m_indexR (en := eRange) (l := r1007) (lq rfl) S24 rfl rfl rfl ht52) ?_
     refine dat (.ptr 1007 ((wi ((r1007.length : Int) - 1)).toNat * eRange.size + 1)) rfl (fun hb => by subst hb; exact a_fieldAddr_ptr (lq rfl) L123_1 rfl) ?_
     refine dat (.d (di t52.Hi)) rfl (fun hb => by subst hb; exact m_loadER (en := eRange) (l := r1007) (i := (wi ((r1007.length : Int) - 1))) (v := t52) (off := 1) (lq rfl) O3 rfl rfl ht52 rfl) ?_
     refine dat (.d (di (wi (t52.Hi + 1)))) rfl (fun hb => by subst hb; exact m_add (lq rfl) rfl rfl) ?_
     refine dat (.d (db (decide (t40.Lo ≤ (wi (t52.Hi + 1)))))) rfl (fun hb => by subst hb; exact a_leq (lq rfl) rfl rfl) ?_
     refine q50 ?_
     refine da_nil ?_
     refine ifM rfl hy5 (fun _ hy5 => ?_) (fun _ hy5 => ?_)
     ·
      refine avc_sq2 ?_
      refine avc_draw 14 MX rfl ?_
      refine q58 ?_
      refine q4 ?_
      refine q74 ?_
      refine q58 ?_
      refine q4 ?_
      refine q74 ?_
      obtain ⟨t64, ht64, hy5⟩ := bE hy5
      refine daa (m_indexR (en := eRange) (l := r1007) (lq rfl) S24 rfl rfl rfl ht64) ?_
      refine q73 L123_1 ?_
      refine daa (m_loadER (en := eRange) (l := r1007) (i := (wi ((r1007.length : Int) - 1))) (v := t64) (off := 1) (lq rfl) O3 rfl rfl ht64 rfl) ?_
      refine q19 L123_1 ?_
      refine q21 O3 ?_
      refine daa (a_max (lq rfl) rfl rfl) ?_
      obtain ⟨t70, ht70, hy5⟩ := bE hy5
      refine daa (m_indexR (en := eRange) (l := r1007) (lq rfl) S24 rfl rfl rfl ht70) ?_
      refine q73 L123_1 ?_
      refine da_nil ?_
      obtain ⟨r1007_6, hr1007_6, hy5⟩ := bE hy5
      refine sq_b rfl (m_store (en := eRange) (l := r1007) (i := (wi ((r1007.length : Int) - 1))) (v := t70) (off := 1) O3 rfl rfl rfl ht70 rfl (by decide) hr1007_6 rfl rfl) ?_
      refine sq_nil <| avc_exit ?_
      cases hy5
      exact out_mk (wc)
     ·
      refine avc_skip <| avc_sq <| q9 ?_
      refine q16 G123 ?_
      refine q31 S24 ?_
      obtain ⟨r1007_7, hr1007_7, hy5⟩ := bE hy5
      refine sq_b rfl (m_append (en := eRange) (l := r1007) (m := [t40]) (lq rfl) S24 rfl rfl rfl hr1007_7 (by decide) (by decide) rfl rfl) ?_
      refine q13 ?_
      refine sq_nil ?_
      cases hy5
      exact out_mk (wc)
    ·
     refine avc_sq <| q2 ?_
     refine q0 ?_
     refine sq_nil ?_
     cases hsy4
     exact wc
   ·
    refine avc_exit ?_
    cases hsy4
    intro q; cases q
    exact out_mk (wc)
  ·
   refine avc_sq2 <| avc_sq <| q9 ?_
   refine sq_weak (weak_row_d (t := 77) (lq rfl) rfl rfl) ?_ (by simp)
   refine q44 B26 ?_
   refine q14 G26 ?_
   refine sq_nil ?_
   cases h
   refine avc_ret ?_
   exact ret_cellA rfl rfl G26 rfl
theorem cpset_Valid_c  {a0}  {r} (h : cpset_Valid a0 = some r) : Contract Tryz.prog 78 [(eSet.dv a0)] [(db r)] := by
 refine contract_of Tryz.func78 (by kernel_rfl) rfl (lq rfl) (lq rfl) fun w0 I0 hI0 hG0 => ?_
 unfold cpset_Valid at h
 refine avc_sq2 <| avc_sq <| q48 ?_
 refine q1 ?_
 refine sq_nil <| avc_sq2 <| avc_sq <| q7 L26_0 ?_
 refine q8 O24 ?_
 obtain ⟨t8, ht8, h⟩ := bE h
 refine q6 (cpset_Make_c ht8) ?_
 refine q93 ?_
 refine q14 G26 ?_
 refine sq_nil ?_
 refine avc_weak (weak_freeze (t := 3) (lq rfl) rfl rfl rfl) ?_
 refine avc_sq2 <| avc_sq2 <| avc_sq <| q7 L26_0 ?_
 refine q8 O24 ?_
 refine q5 S24 ?_
 refine q7 L26_0 ?_
 refine q8 O24 ?_
 refine q5 S24 ?_
 refine q27 ?_
 refine sq_nil ?_
 refine ifM rfl h (fun _ h => ?_) (fun _ h => ?_)
 ·
  refine avc_sq2 <| avc_sq <| q1 ?_
  refine sq_nil ?_
  cases h
  refine avc_ret ?_
  exact ret_1 rfl
 ·
  refine avc_skip <| avc_sq2 <| avc_sq2 <| avc_sq <| q7 L26_0 ?_
  refine q8 O24 ?_
  refine q5 S24 ?_
  refine q0 ?_
  refine sq_nil <| avc_block ?_
  obtain ⟨y1, hy1, h⟩ := bE h
  refine avc_tail2 y1 (.exit 0) (fun y1 => ⟨[], []⟩) .ret (fun y1 => ⟨[(2, .d (db y1))], []⟩) ?_ ?_ ?_
  ·
   refine avc_loopM (fun x => ⟨[(1, .d (.pt (eSet.cells a0))), (17, .d (dsl eRange t8.Ranges)), (18, .d (di (t8.Ranges.length : Int))), (19, .d (di x))], []⟩) hy1 (wc) ?_
   rintro v19 sy1 hsy1
   replace hsy1 : cpset_Valid_L0 t8 a0 v19 = some sy1 := hsy1
   unfold cpset_Valid_L0 at hsy1
   refine avc_sq2 <| avc_sq <| q3 ?_
   refine sq_nil <| avc_sq2 ?_
   refine ifM rfl hsy1 (fun _ hsy1 => ?_) (fun _ hsy1 => ?_)
   ·
    refine avc_skip <| avc_sq2 <| avc_block <| avc_sq2 <| avc_sq <| q0 ?_
    obtain ⟨t22, ht22, hsy1⟩ := bE hsy1
    refine q11 S24 ht22 ?_
    refine sqa (m_loadEA (en := eRange) (l := t8.Ranges) (i := v19) (v := t22) (off := 0) (lq rfl) G123 rfl ht22 rfl rfl (by decide)) ?_
    refine q83 ?_
    refine q1 ?_
    refine q14 G123 ?_
    refine sq_nil ?_
    refine avc_weak (weak_freeze (t := 5) (lq rfl) rfl rfl rfl) ?_
    refine avc_sq2 ?_
    refine avc_drawA MX rfl ?_
    refine q52 G123 ?_
    refine q19 L26_0 ?_
    refine q21 O24 ?_
    refine q4 ?_
    obtain ⟨t28, ht28, hsy1⟩ := bE hsy1
    refine q17 S24 ht28 ?_
    refine daa (m_loadEA (en := eRange) (l := a0.Ranges) (i := v19) (v := t28) (off := 0) (lq rfl) G123 rfl ht28 rfl rfl (by decide)) ?_
    refine daa (m_stneq (en := eRange) (a := t22) (b := t28) (lq rfl) E123 rfl rfl) ?_
    refine da_nil ?_
    refine ifM rfl hsy1 (fun _ hsy1 => ?_) (fun _ hsy1 => ?_)
    ·
     refine avc_sq2 <| avc_sq <| q1 ?_
     refine sq_nil <| avc_ret ?_
     cases hsy1
     intro q; cases q
     exact ⟨rfl, wc⟩
    ·
     refine avc_skip <| avc_sq <| q2 ?_
     refine q0 ?_
     refine sq_nil ?_
     cases hsy1
     exact wc
   ·
    refine avc_exit ?_
    cases hsy1
    intro q; cases q
    exact ⟨rfl, wc⟩
  ·
   rintro y1 rfl
   replace h := eL h
   refine avc_sq2 <| avc_sq <| q1 ?_
   refine sq_nil ?_
   cases h
   refine avc_ret ?_
   exact ret_1 rfl
  ·
   rintro y1 rfl
   replace h := eR h
   cases h
   exact ret_1 rfl
theorem hangul_Kind_c  {a0}  {r} (h : hangul_Kind a0 = some r) : Contract Tryz.prog 79 [(di a0)] [(di r)] := by
 refine contract_of Tryz.func79 (by kernel_rfl) rfl (lq rfl) (lq rfl) fun w0 I0 hI0 hG0 => ?_
 unfold hangul_Kind at h
 refine avc_sq2 <| avc_sq <| q1 ?_
 refine sq_nil <| avc_sq2 <| avc_block <| avc_sq2 <| avc_sq <| q0 ?_
 refine q30 ?_
 obtain ⟨b6, hb6, h⟩ := bE h
 refine sqa ((a_move_d (lq rfl) rfl).bool (Option.some.inj hb6)) ?_
 refine q10 (.d (di a0)) ?_
 refine q54 (.d (db (decide (a0 < 4371)))) ?_
 refine q12 ?_
 refine q1 ?_
 refine sq_nil ?_
 refine ifM rfl h (fun _ h => ?_) (fun _ h => ?_)
 ·
  refine avc_sq2 <| avc_sq <| q1 ?_
  refine sq_nil ?_
  cases h
  refine avc_ret ?_
  exact ret_1 rfl
 ·
  refine avc_sq2 <| avc_sq <| q0 ?_
  refine q30 ?_
  obtain ⟨b13, hb13, h⟩ := bE h
  refine sqa ((a_move_d (lq rfl) rfl).bool (Option.some.inj hb13)) ?_
  refine q10 (.d (di a0)) ?_
  refine q54 (.d (db (decide (a0 < 4470)))) ?_
  refine q12 ?_
  refine q1 ?_
  refine sq_nil ?_
  refine ifM rfl h (fun _ h => ?_) (fun _ h => ?_)
  ·
   refine avc_sq2 <| avc_sq <| q1 ?_
   refine sq_nil ?_
   cases h
   refine avc_ret ?_
   exact ret_1 rfl
  ·
   refine avc_sq2 <| avc_sq <| q0 ?_
   refine q30 ?_
   obtain ⟨b20, hb20, h⟩ := bE h
   refine sqa ((a_move_d (lq rfl) rfl).bool (Option.some.inj hb20)) ?_
   refine q10 (.d (di a0)) ?_
   refine q54 (.d (db (decide (a0 < 4547)))) ?_
   refine q12 ?_
   refine q1 ?_
   refine sq_nil ?_
   refine ifM rfl h (fun _ h => ?_) (fun _ h => ?_)
   ·
    refine avc_sq2 <| avc_sq <| q1 ?_
    refine sq_nil ?_
    cases h
    refine avc_ret ?_
    exact ret_1 rfl
   ·
    refine avc_sq2 <| avc_sq <| q0 ?_
    refine q3 ?_
    obtain ⟨b27, hb27, h⟩ := bE h
    refine sqa ((a_move_d (lq rfl) rfl).bool (Option.some.inj hb27)) ?_
    refine q32 (.d (di a0)) ?_
    refine q78 (.d (db (decide (55204 ≤ a0)))) ?_
    refine q15 ?_
    refine q1 ?_
    refine sq_nil ?_
    refine ifM rfl h (fun _ h => ?_) (fun _ h => ?_)
    ·
     refine avc_sq2 <| avc_sq <| q1 ?_
     refine sq_nil ?_
     cases h
     refine avc_ret ?_
     exact ret_1 rfl
    ·
     refine avc_sq2 <| avc_sq <| q0 ?_
     refine q25 ?_
     obtain ⟨t34, ht34, h⟩ := bE h
     refine q67 ht34 ?_
     refine q39 ?_
     refine q1 ?_
     refine sq_nil ?_
     refine ifM rfl h (fun _ h => ?_) (fun _ h => ?_)
     ·
      refine avc_sq2 <| avc_sq <| q1 ?_
      refine sq_nil ?_
      cases h
      refine avc_ret ?_
      exact ret_1 rfl
     ·
      refine avc_skip <| avc_sq2 <| avc_sq <| q1 ?_
      refine sq_nil ?_
      cases h
      refine avc_ret ?_
      exact ret_1 rfl
theorem ordering_usable_c  {a0}  {r} (h : ordering_usable a0 = some r) : Contract Tryz.prog 93 [(dsl eSpan a0)] [(dsl eSpan r)] := by
 refine contract_of Tryz.func93 (by kernel_rfl) rfl (lq rfl) (lq rfl) fun w0 I0 hI0 hG0 => ?_
 unfold ordering_usable at h
 refine avc_sq2 <| avc_sq <| q1 ?_
 refine sq_nil <| avc_sq2 <| avc_sq2 <| avc_sq <| q0 ?_
 obtain ⟨t4, ht4, h⟩ := bE h
 refine q6 (ordering_Check_c ht4) ?_
 refine q27 ?_
 refine sq_nil ?_
 refine ifM rfl h (fun _ h => ?_) (fun _ h => ?_)
 ·
  refine avc_sq2 <| avc_sq <| q1 ?_
  refine sq_nil ?_
  refine avc_weak (weak_nil_d (t := 2) eSpan.size (lq rfl) rfl) ?_
  cases h
  refine avc_ret ?_
  exact ret_1 rfl
 ·
  refine avc_skip <| avc_sq2 <| avc_sq <| q0 ?_
  refine q1 ?_
  refine sq_nil ?_
  cases h
  refine avc_ret ?_
  exact ret_1 rfl
theorem slices_BinarySearchFunc_api_Span_api_Span_int_c {fv2 : DV} {a0 : (List Span)} {a1 : Int} {a2 : Span → Int → Option (Int)} (hf2 : ∀ x0 x1 y, a2 x0 x1 = some y → FnC Tryz.prog fv2 [(eSpan.dv x0), (di x1)] [(di y)]) {r : Int × Bool} (h : slices_BinarySearchFunc_api_Span_api_Span_int a0 a1 a2 = some r) : Contract Tryz.prog 114 [(dsl eSpan a0), (di a1), fv2] [(di r.1), (db r.2)] := by
 refine contract_of Tryz.func114 (by kernel_rfl) rfl (lq rfl) (lq rfl) fun w0 I0 hI0 hG0 => ?_
 unfold slices_BinarySearchFunc_api_Span_api_Span_int at h
 refine avc_sq2 <| avc_sq <| q1 ?_
 refine q1 ?_
 refine sq_nil <| avc_sq2 <| avc_sq <| q0 ?_
 refine q5 S22 ?_
 refine q1 ?_
 refine sq_nil <| avc_sq2 <| avc_sq <| q0 ?_
 refine q1 ?_
 refine q1 ?_
 refine sq_nil <| avc_sq2 <| avc_block ?_
 obtain ⟨y1, hy1, h⟩ := bE h
 refine avc_tail (e := (.exit 0)) (S2 := ⟨[(0, .d (dsl eSpan a0)), (1, .d (di a1)), (2, .d fv2), (8, .d (di (a0.length : Int))), (9, .d (di y1))], []⟩) ?_ ?_
 ·
  refine avc_loopM (fun x => ⟨[(0, .d (dsl eSpan a0)), (1, .d (di a1)), (2, .d fv2), (8, .d (di (a0.length : Int))), (9, .d (di x.1)), (10, .d (di x.2))], []⟩) hy1 (wc) ?_
  rintro ⟨v9, v10⟩ sy1 hsy1
  replace hsy1 : slices_BinarySearchFunc_api_Span_api_Span_int_L0 a0 a2 a1 v9 v10 = some sy1 := hsy1
  unfold slices_BinarySearchFunc_api_Span_api_Span_int_L0 at hsy1
  refine avc_sq2 <| avc_sq2 <| avc_sq <| q0 ?_
  refine q0 ?_
  refine q3 ?_
  refine sq_nil ?_
  refine ifM rfl hsy1 (fun _ hsy1 => ?_) (fun _ hsy1 => ?_)
  ·
   refine avc_skip ?_
   obtain ⟨y2, hy2, hsy1⟩ := bE hsy1
   refine avc_tail (e := .normal) (S2 := ⟨[(0, .d (dsl eSpan a0)), (1, .d (di a1)), (2, .d fv2), (8, .d (di (a0.length : Int))), (9, .d (di y2.1)), (10, .d (di y2.2))], []⟩) ?_ ?_
   ·
    refine avc_block <| avc_sq2 <| avc_sq <| q0 ?_
    refine q0 ?_
    refine q2 ?_
    refine q45 Tryz.underlying3 Tryz.underlying141 ?_
    refine q63 ?_
    refine q45 Tryz.underlying141 Tryz.underlying3 ?_
    refine q1 ?_
    refine sq_nil <| avc_sq2 <| avc_sq <| q0 ?_
    refine q0 ?_
    refine q0 ?_
    obtain ⟨t27, ht27, hy2⟩ := bE hy2
    refine q11 S22 ht27 ?_
    refine q126 G61 ht27 ?_
    refine q0 ?_
    obtain ⟨t30, ht30, hy2⟩ := bE hy2
    refine sqa (a_callF (lq rfl) rfl rfl (hf2 _ _ _ ht30)) ?_
    refine q3 ?_
    refine sq_nil ?_
    refine ifM rfl hy2 (fun _ hy2 => ?_) (fun _ hy2 => ?_)
    ·
     refine avc_sq <| q0 ?_
     refine q2 ?_
     refine q1 ?_
     refine sq_nil ?_
     cases hy2
     exact out_mk (wc)
    ·
     refine avc_sq <| q0 ?_
     refine q1 ?_
     refine sq_nil ?_
     cases hy2
     exact out_mk (wc)
   ·
    cases hsy1
    exact wc
  ·
   refine avc_exit ?_
   cases hsy1
   intro q; cases q
   exact out_mk (wc)
 ·
  refine avc_sq2 <| avc_sq <| q0 ?_
  refine q0 ?_
  refine q0 ?_
  refine q3 ?_
  obtain ⟨b39, hb39, h⟩ := bE h
  refine sqa ((a_move_d (lq rfl) rfl).bool (Option.some.inj hb39)) ?_
  refine q10 (.d fv2) ?_
  refine q10 (.d (dsl eSpan a0)) ?_
  refine q10 (.d (di y1)) ?_
  obtain ⟨t43, ht43, h⟩ := bE h
  refine q64 (.ip (eSpan.all a0) (y1.toNat * eSpan.size)) S22 ht43 ?_
  refine sqt (.d (eSpan.dv t43)) rfl (fun hb => by subst hb; exact m_loadEA (en := eSpan) (l := a0) (i := y1) (v := t43) (off := 0) (lq rfl) G61 rfl ht43 rfl rfl (by decide)) ?_
  refine q10 (.d (di a1)) ?_
  obtain ⟨t46, ht46, h⟩ := bE h
  refine sqt (.d (di t46)) rfl (fun hb => by subst hb; exact a_callF (lq rfl) rfl rfl (hf2 _ _ _ ht46)) ?_
  refine q81 (.d (db (decide (t46 = 0)))) ?_
  refine q12 ?_
  refine q1 ?_
  refine q1 ?_
  refine sq_nil ?_
  cases h
  refine avc_ret ?_
  exact ret_two rfl rfl
theorem ordering_class_1_c  {a0} {a1}  {r} (h : ordering_class_1 a0 a1 = some r) : Contract Tryz.prog 115 [(eSpan.dv a0), (di a1)] [(di r)] := by
 refine contract_of Tryz.func115 (by kernel_rfl) rfl (lq rfl) (lq rfl) fun w0 I0 hI0 hG0 => ?_
 unfold ordering_class_1 at h
 refine avc_sq2 <| avc_sq <| q28 ?_
 refine q1 ?_
 refine sq_nil <| avc_sq2 <| avc_block <| avc_sq2 <| avc_sq <| q7 L61_1 ?_
 refine q8 O3 ?_
 refine q0 ?_
 refine q3 ?_
 refine q1 ?_
 refine sq_nil ?_
 refine ifM rfl h (fun _ h => ?_) (fun _ h => ?_)
 ·
  refine avc_sq2 <| avc_sq <| q1 ?_
  refine sq_nil ?_
  cases h
  refine avc_ret ?_
  exact ret_1 rfl
 ·
  refine avc_sq2 <| avc_sq <| q7 L61_0 ?_
  refine q8 O3 ?_
  refine q0 ?_
  refine q37 ?_
  refine q1 ?_
  refine sq_nil ?_
  refine ifM rfl h (fun _ h => ?_) (fun _ h => ?_)
  ·
   refine avc_sq2 <| avc_sq <| q1 ?_
   refine sq_nil ?_
   cases h
   refine avc_ret ?_
   exact ret_1 rfl
  ·
   refine avc_skip <| avc_sq2 <| avc_sq <| q1 ?_
   refine sq_nil ?_
   cases h
   refine avc_ret ?_
   exact ret_1 rfl
theorem ordering_class_c  {a0} {a1}  {r} (h : ordering_class a0 a1 = some r) : Contract Tryz.prog 97 [(dsl eSpan a0), (di a1)] [(di r)] := by
 refine contract_of Tryz.func97 (by kernel_rfl) rfl (lq rfl) (lq rfl) fun w0 I0 hI0 hG0 => ?_
 unfold ordering_class at h
 refine avc_sq2 <| avc_sq <| q1 ?_
 refine sq_nil <| avc_sq2 <| avc_sq <| q0 ?_
 refine q0 ?_
 obtain ⟨t10, ht10, h⟩ := bE h
 refine q6 (slices_BinarySearchFunc_api_Span_api_Span_int_c (fun _ _ _ q => .inr ⟨_, rfl, ordering_class_1_c q⟩) ht10) ?_
 refine q43 ?_
 refine q18 ?_
 refine q18 ?_
 refine q1 ?_
 refine q1 ?_
 refine sq_nil <| avc_sq2 <| avc_sq2 <| avc_sq <| q0 ?_
 refine q22 ?_
 refine sq_nil ?_
 refine ifM rfl h (fun _ h => ?_) (fun _ h => ?_)
 ·
  refine avc_sq2 <| avc_sq <| q1 ?_
  refine sq_nil ?_
  cases h
  refine avc_ret ?_
  exact ret_1 rfl
 ·
  refine avc_skip <| avc_sq2 <| avc_sq <| q0 ?_
  refine q0 ?_
  obtain ⟨t17, ht17, h⟩ := bE h
  refine q11 S22 ht17 ?_
  refine q34 L61_2 ?_
  refine sqa (m_loadE (en := eSpan) (l := a0) (i := t10.1) (v := t17) (off := 2) (lq rfl) O3 rfl ht17 rfl) ?_
  refine q1 ?_
  refine sq_nil ?_
  cases h
  refine avc_ret ?_
  exact ret_1 rfl
theorem ordering_runs_1_i  {items : List Range} {a1 : (List Int)} {a2 : (List Span)}  {r : Unit} (h : ordering_runs_1 items a1 a2 = some r) : IterC Tryz.prog 112 [(.pt [(dsl eI a1)]), (.pt [(dsl eSpan a2)])] (items.map fun x => [eRange.dv x]) := by
 refine iter_of Tryz.func112 (by kernel_rfl) rfl (lq rfl) (lq rfl) fun w0 I0 J hc hg hG l0 hE => ?_
 unfold ordering_runs_1 at h
 refine avc_sq2 <| avc_sq <| q1 ?_
 refine sq_nil <| avc_sq2 <| avc_sq2 <| avc_sq <| q86 O33 ?_
 refine q5 S33 ?_
 refine q0 ?_
 refine sq_nil <| avc_block ?_
 obtain ⟨y1, hy1, h⟩ := bE h
 refine avc_tail2 y1 (.exit 0) (fun y1 => ⟨[(0, .d (.v (.func (.yield l0) #[] #[]))), (1, .d (.pt [(dsl eI a1)])), (4, .d (di y1.1)), (1000000, .gh y1.2)], []⟩) .ret (fun y1 => ⟨[(1000000, .gh y1)], []⟩) ?_ ?_ ?_
 ·
  refine avc_loopM (fun x => ⟨[(0, .d (.v (.func (.yield l0) #[] #[]))), (1, .d (.pt [(dsl eI a1)])), (2, .d (.pt [(dsl eSpan a2)])), (4, .d (di x.1)), (8, .d (dsl eI a1)), (9, .d (di (a1.length : Int))), (10, .d (di x.2.1)), (1000000, .gh x.2.2)], []⟩) hy1 (wc) ?_
  rintro ⟨v4, v10, v1000000⟩ sy1 hsy1
  replace hsy1 : ordering_runs_1_L0 a1 a2 items v4 v10 v1000000 = some sy1 := hsy1
  unfold ordering_runs_1_L0 at hsy1
  refine avc_sq2 <| avc_sq <| q3 ?_
  refine sq_nil <| avc_sq2 ?_
  refine ifM rfl hsy1 (fun _ hsy1 => ?_) (fun _ hsy1 => ?_)
  ·
   refine avc_skip <| avc_sq2 ?_
   obtain ⟨y2, hy2, hsy1⟩ := bE hsy1
   refine avc_tail2 y2 .normal (fun y2 => ⟨[(0, .d (.v (.func (.yield l0) #[] #[]))), (1, .d (.pt [(dsl eI a1)])), (2, .d (.pt [(dsl eSpan a2)])), (4, .d (di y2.1)), (8, .d (dsl eI a1)), (9, .d (di (a1.length : Int))), (10, .d (di v10)), (1000000, .gh y2.2)], []⟩) .ret (fun y2 => ⟨[(1000000, .gh y2)], []⟩) ?_ ?_ ?_
   ·
    refine avc_block <| avc_sq2 <| avc_sq <| q0 ?_
    obtain ⟨t13, ht13, hy2⟩ := bE hy2
    refine q11 S33 ht13 ?_
    refine q29 O3 ht13 ?_
    refine q1 ?_
    refine q1 ?_
    refine sq_nil <| avc_sq2 <| avc_sq <| q86 O22 ?_
    refine q0 ?_
    obtain ⟨t17, ht17, hy2⟩ := bE hy2
    refine q6 (ordering_class_c ht17) ?_
    refine q39 ?_
    refine q1 ?_
    refine sq_nil ?_
    obtain ⟨y3, hy3, hy2⟩ := bE hy2
    refine avc_tail2 y3 .normal (fun y3 => ⟨[(0, .d (.v (.func (.yield l0) #[] #[]))), (1, .d (.pt [(dsl eI a1)])), (2, .d (.pt [(dsl eSpan a2)])), (4, .d (di y3.1)), (8, .d (dsl eI a1)), (9, .d (di (a1.length : Int))), (10, .d (di v10)), (1000000, .gh y3.2)], []⟩) .ret (fun y3 => ⟨[(1000000, .gh y3)], []⟩) ?_ ?_ ?_
    ·
     refine avc_block <| avc_sq2 <| avc_sq <| q0 ?_
     refine q22 ?_
     obtain ⟨b22, hb22, hy3⟩ := bE hy3
     refine sqa ((a_move_d (lq rfl) rfl).bool (Option.some.inj hb22)) ?_
     refine q10 (.d (di v4)) ?_
     refine q54 (.d (db (decide (v4 < 0)))) ?_
     refine q12 ?_
     refine q1 ?_
     refine sq_nil ?_
     refine ifM rfl hy3 (fun _ hy3 => ?_) (fun _ hy3 => ?_)
     ·
      refine avc_sq <| q0 ?_
      refine q1 ?_
      refine sq_nil ?_
      cases hy3
      exact ⟨rfl, wc⟩
     ·
      refine avc_sq2 <| avc_sq <| q0 ?_
      obtain ⟨b29, hb29, hy3⟩ := bE hy3
      refine sqa ((a_move_d (lq rfl) rfl).bool (Option.some.inj hb29)) ?_
      refine q10 (.d (di v4)) ?_
      refine sqt (.d (db (decide (0 ≤ v4)))) rfl (fun hb => by subst hb; exact a_geq (lq rfl) rfl rfl) ?_
      refine q12 ?_
      refine q1 ?_
      refine sq_nil ?_
      refine ifM rfl hy3 (fun _ hy3 => ?_) (fun _ hy3 => ?_)
      ·
       refine avc_sq2 <| avc_sq2 <| avc_sq <| q0 ?_
       refine q0 ?_
       refine q0 ?_
       refine q44 B123 ?_
       obtain ⟨u37, hu37, hy3⟩ := bE hy3
       refine sq_b rfl (s_yield (k := v1000000) (lq rfl) hE rfl rfl rfl (yM_hit _ hu37)) ?_
       refine q22 ?_
       refine sq_nil ?_
       refine ifM rfl hy3 (fun _ hy3 => ?_) (fun _ hy3 => ?_)
       ·
        refine avc_ret ?_
        cases hy3
        exact ⟨rfl, wc⟩
       ·
        refine avc_skip <| avc_sq <| q1 ?_
        refine sq_nil ?_
        cases hy3
        exact ⟨rfl, wc⟩
      ·
       refine avc_skip ?_
       cases hy3
       exact ⟨rfl, wc⟩
    ·
     rintro y3 rfl
     replace hy2 := eL hy2
     cases hy2
     exact ⟨rfl, wc⟩
    ·
     rintro y3 rfl
     replace hy2 := eR hy2
     cases hy2
     exact ⟨rfl, wc⟩
   ·
    rintro y2 rfl
    replace hsy1 := eL hsy1
    refine avc_sq <| q2 ?_
    refine q0 ?_
    refine sq_nil ?_
    cases hsy1
    exact wc
   ·
    rintro y2 rfl
    replace hsy1 := eR hsy1
    cases hsy1
    intro q; cases q
    exact ⟨rfl, wc⟩
  ·
   refine avc_exit ?_
   cases hsy1
   intro q; cases q
   exact ⟨rfl, wc⟩
 ·
  rintro y1 rfl
  replace h := eL h
  refine avc_sq2 <| avc_sq <| q0 ?_
  refine q30 ?_
  refine sq_nil ?_
  refine ifM rfl h (fun _ h => ?_) (fun _ h => ?_)
  ·
   refine avc_sq <| q0 ?_
   refine q0 ?_
   refine q86 O33 ?_
   refine q5 S33 ?_
   refine q44 B123 ?_
   obtain ⟨u47, hu47, h⟩ := bE h
   refine sq_b rfl (s_yield (k := y1.2) (lq rfl) hE rfl rfl rfl (yM_hit _ hu47)) ?_
   refine sq_nil ?_
   exact ⟨rfl, endM_len _ h⟩
  ·
   refine avc_skip ?_
   exact ⟨rfl, endM_len _ h⟩
 ·
  rintro y1 rfl
  replace h := eR h
  exact ⟨rfl, endM_len _ h⟩
theorem ordering_runs_c {a0 : List Span} {a1 : List Int} : Contract Tryz.prog 94 [(dsl eSpan a0), (dsl eI a1)] [.fn 112 [.pt [dsl eI a1], .pt [dsl eSpan a0]]] := by
 refine contract_of Tryz.func94 (by kernel_rfl) rfl (lq rfl) (lq rfl) fun w0 I0 hI0 hG0 => ?_
 refine avc_sq2 <| avc_sq <| q48 ?_
 refine q48 ?_
 refine q1 ?_
 refine sq_nil <| avc_sq2 <| avc_sq ?_
 refine sqa (a_makeFunc (lq rfl) rfl) ?_
 refine q1 ?_
 refine sq_nil <| avc_ret ?_
 exact ret_1 rfl
theorem appendSeq_c {f : FuncId} {caps : List DV} {r : List Range} (hit : IterC Tryz.prog f caps (r.map fun x => [eRange.dv x])) (hr : r.length ≤ LIM) : Contract Tryz.prog 123 [.v (.slice none 0 0), .fn f caps] [dsl eRange r] := by
 refine contract_of Tryz.func123 (by kernel_rfl) rfl (lq rfl) (lq rfl) fun w0 I0 hI0 hG0 => ?_
 refine avc_sq2 <| avc_sq ?_
 refine sq_b rfl (s_box_d (lq rfl) rfl rfl rfl) ?_
 refine q1 ?_
 refine sq_nil ?_
 refine avc_weak (weak_nil_box (bid := 2) (off := 0) 100 123 eRange.size (lq rfl) (by decide) rfl rfl rfl) ?_
 refine avc_sq2 <| avc_sq2 <| avc_sq <| q0 ?_
 refine sq_nil <| avc_block ?_
 refine avc_range [(2, .ptr 2 0), (4, .d (.v (.slice none 0 0)))] [2] (fun k => [(2, .box 24 [.row 100]), (100, .row 123 eRange.size false (eRange.all (r.take k)))]) rfl hit rfl (fun _ _ _ _ h => h) ?hk ?hT rfl (fun _ => rfl) ?hbx (fun _ _ => rfl) ?hl ?hpn ?rd ?hK
 case hk => exact ⟨rfl, rfl, trivial⟩
 case hT => exact ⟨rfl, rfl, trivial⟩
 case hbx => intro k id hi; simp at hi; subst hi; exact fun (h : Blk.box _ _ = Blk.none) => by cases h
 case hl => intro x hx; obtain ⟨y, _, rfl⟩ := List.mem_map.1 hx; rfl
 case hpn => intro p hp; simp at hp; subst hp; exact (lq rfl)
 case rd =>
  intro w1 Iall X C0 ρ0 defs l1 D lp1 lp2 hok k x hx
  rw [List.getElem?_map] at hx
  obtain ⟨v, hv, rfl⟩ := Option.map_eq_some_iff.1 hx
  have hlt := (List.getElem?_eq_some_iff.1 hv).1
  have happ : app (r.take k) [v] = some (r.take (k + 1)) := by
   unfold app
   rw [if_pos (by simp; omega), List.take_add_one, hv]
   rfl
  refine avc_sq <| q83 ?_
  refine q14 G123 ?_
  refine sq_nil <| avc_block <| avc_sq <| q33 O24 ?_
  refine sqa ((a_load_boxA (lq rfl) G123 rfl rfl rfl rfl).data rfl) ?_
  refine q31 S24 ?_
  refine sq_b rfl (m_append (en := eRange) (l := r.take k) (m := [v]) (lq rfl) S24 rfl rfl rfl happ (by decide) (by decide) rfl rfl) ?_
  refine q109 O24 ?_
  refine sq_nil ?_
  exact ⟨rfl, rfl, trivial⟩
 case hK =>
  rw [List.length_map, List.take_length]
  refine avc_sq2 <| avc_sq <| q33 O24 ?_
  refine q13 ?_
  refine sq_nil <| avc_ret ?_
  exact ret_1 rfl
theorem collect_c {f : FuncId} {caps : List DV} {r : List Range} (hit : IterC Tryz.prog f caps (r.map fun x => [eRange.dv x])) (hr : r.length ≤ LIM) : Contract Tryz.prog 106 [.fn f caps] [dsl eRange r] := by
 refine contract_of Tryz.func106 (by kernel_rfl) rfl (lq rfl) (lq rfl) fun w0 I0 hI0 hG0 => ?_
 refine avc_sq2 <| avc_sq <| q1 ?_
 refine sq_nil <| avc_sq2 <| avc_sq <| q0 ?_
 refine q6 (appendSeq_c hit hr) ?_
 refine q1 ?_
 refine sq_nil <| avc_ret ?_
 exact ret_1 rfl
theorem ordering_Runs_c {a0 : List Span} {a1 : List Int} {r : List Range} (h : ordering_Runs a0 a1 = some r) : Contract Tryz.prog 80 [(dsl eSpan a0), (dsl eI a1)] [dsl eRange r] := by
 unfold ordering_Runs at h
 obtain ⟨t6, ht6, h'⟩ := bE h; clear h
 obtain ⟨t8, ht8, h⟩ := bE h'; clear h'
 unfold lenM at h
 split at h
 case isFalse => cases h
 rename_i hlen
 cases h
 refine contract_of Tryz.func80 (by kernel_rfl) rfl (lq rfl) (lq rfl) fun w0 I0 hI0 hG0 => ?_
 refine avc_sq2 <| avc_sq <| q1 ?_
 refine sq_nil <| avc_sq2 <| avc_sq <| q0 ?_
 refine q6 (ordering_usable_c ht6) ?_
 refine q0 ?_
 refine q6 ordering_runs_c ?_
 refine q6 (collect_c (ordering_runs_1_i ht8) hlen) ?_
 refine q1 ?_
 refine sq_nil <| avc_ret ?_
 exact ret_1 rfl
theorem hangul_parts_c  {a0}  {r} (h : hangul_parts a0 = some r) : Contract Tryz.prog 108 [(di a0)] [(eA3Int.dv r)] := by
 refine contract_of Tryz.func108 (by kernel_rfl) rfl (lq rfl) (lq rfl) fun w0 I0 hI0 hG0 => ?_
 unfold hangul_parts at h
 refine avc_sq2 <| avc_sq <| q92 ?_
 refine sq_nil <| avc_sq2 <| avc_sq2 <| avc_sq <| q0 ?_
 obtain ⟨t6, ht6, h⟩ := bE h
 refine q6 (hangul_Kind_c ht6) ?_
 refine q3 ?_
 refine sq_nil ?_
 refine ifM rfl h (fun _ h => ?_) (fun _ h => ?_)
 ·
  refine avc_sq2 <| avc_sq <| q102 A132 ?_
  refine q14 G132 ?_
  refine sq_nil ?_
  cases h
  refine avc_ret ?_
  exact ret_cellA rfl rfl G132 rfl
 ·
  refine avc_skip <| avc_sq2 <| avc_sq <| q0 ?_
  refine q25 ?_
  refine q1 ?_
  refine sq_nil <| avc_sq2 <| avc_sq <| q0 ?_
  obtain ⟨t12, ht12, h⟩ := bE h
  refine q87 ht12 ?_
  obtain ⟨t13, ht13, h⟩ := bE h
  refine q87 ht13 ?_
  refine q2 ?_
  refine q0 ?_
  obtain ⟨t16, ht16, h⟩ := bE h
  refine q87 ht16 ?_
  obtain ⟨t17, ht17, h⟩ := bE h
  refine q67 ht17 ?_
  refine q2 ?_
  refine q102 A132 ?_
  refine q92 ?_
  refine q14 G132 ?_
  refine sq_nil <| avc_sq2 <| avc_sq2 <| avc_sq <| q0 ?_
  obtain ⟨t21, ht21, h⟩ := bE h
  refine q67 ht21 ?_
  refine q37 ?_
  refine sq_nil ?_
  obtain ⟨y1, hy1, h⟩ := bE h
  refine avc_tail (e := .normal) (S2 := ⟨[(2, .ptr 2 0), (4, .ptr 4 0)], [(2, .box 132 [.d (di 0), .d (di 0), .d (di 0)]), (4, .box 132 [.d (di (({ x0 := wi (4352 + t13), x1 := wi (4449 + t17), x2 := 0 } : A3Int).x0)), .d (di (({ x0 := wi (4352 + t13), x1 := wi (4449 + t17), x2 := 0 } : A3Int).x1)), .d (di y1)])]⟩) ?_ ?_
  ·
   refine ifM rfl hy1 (fun _ hy1 => ?_) (fun _ hy1 => ?_)
   ·
    refine avc_sq <| q0 ?_
    obtain ⟨t24, ht24, hy1⟩ := bE hy1
    refine q67 ht24 ?_
    refine q2 ?_
    refine q25 ?_
    refine sqa (a_indexAddr_ptr (k := 2) (lq rfl) A132 rfl rfl (by decide)) ?_
    refine q82 O3 ?_
    refine sq_nil ?_
    cases hy1
    exact out_mk (wc)
   ·
    refine avc_skip ?_
    cases hy1
    exact out_mk (wc)
  ·
   refine avc_sq2 <| avc_sq ?_
   refine sqa ((a_load_boxA (lq rfl) G132 rfl rfl rfl rfl).data rfl) ?_
   refine q14 G132 ?_
   refine sq_nil ?_
   cases h
   refine avc_ret ?_
   exact ret_cellA rfl rfl G132 rfl
theorem hangul_Decompose_c  {a0}  {r} (h : hangul_Decompose a0 = some r) : Contract Tryz.prog 84 [(di a0)] [(dsl eI r)] := by
 refine contract_of Tryz.func84 (by kernel_rfl) rfl (lq rfl) (lq rfl) fun w0 I0 hI0 hG0 => ?_
 unfold hangul_Decompose at h
 refine avc_sq2 <| avc_sq <| q1 ?_
 refine sq_nil <| avc_sq2 <| avc_sq <| q0 ?_
 obtain ⟨t5, ht5, h⟩ := bE h
 refine q6 (hangul_parts_c ht5) ?_
 refine q92 ?_
 refine q14 G132 ?_
 refine sq_nil ?_
 refine avc_weak (weak_freeze (t := 3) (lq rfl) rfl rfl rfl) ?_
 refine avc_sq2 <| avc_block <| avc_sq2 <| avc_sq <| q16 G132 ?_
 refine q102 A132 ?_
 refine sqa (m_steql (en := eA3Int) (a := t5) (b := ({ x0 := 0, x1 := 0, x2 := 0 } : A3Int)) (lq rfl) E132 rfl rfl) ?_
 refine q1 ?_
 refine sq_nil ?_
 refine ifM rfl h (fun _ h => ?_) (fun _ h => ?_)
 ·
  refine avc_sq2 <| avc_sq <| q0 ?_
  refine q31 S33 ?_
  refine q1 ?_
  refine sq_nil ?_
  cases h
  refine avc_ret ?_
  exact ret_1 rfl
 ·
  refine avc_sq2 <| avc_sq <| q94 A132 ?_
  refine q8 O3 ?_
  refine q39 ?_
  refine q1 ?_
  refine sq_nil ?_
  refine ifM rfl h (fun _ h => ?_) (fun _ h => ?_)
  ·
   refine avc_sq2 <| avc_sq <| q94 A132 ?_
   refine q8 O3 ?_
   refine q94 A132 ?_
   refine q8 O3 ?_
   refine q31 S33 ?_
   refine q1 ?_
   refine sq_nil ?_
   cases h
   refine avc_ret ?_
   exact ret_1 rfl
  ·
   refine avc_skip <| avc_sq2 <| avc_sq <| q94 A132 ?_
   refine q8 O3 ?_
   refine q94 A132 ?_
   refine q8 O3 ?_
   refine q94 A132 ?_
   refine q8 O3 ?_
   refine q31 S33 ?_
   refine q1 ?_
   refine sq_nil ?_
   cases h
   refine avc_ret ?_
   exact ret_1 rfl
theorem slices_BinarySearchFunc_api_Mapping_api_Mapping_int_c {fv2 : DV} {a0 : (List Mapping)} {a1 : Int} {a2 : Mapping → Int → Option (Int)} (hf2 : ∀ x0 x1 y, a2 x0 x1 = some y → FnC Tryz.prog fv2 [(eMapping.dv x0), (di x1)] [(di y)]) {r : Int × Bool} (h : slices_BinarySearchFunc_api_Mapping_api_Mapping_int a0 a1 a2 = some r) : Contract Tryz.prog 85 [(dsl eMapping a0), (di a1), fv2] [(di r.1), (db r.2)] := by
 refine contract_of Tryz.func85 (by kernel_rfl) rfl (lq rfl) (lq rfl) fun w0 I0 hI0 hG0 => ?_
 unfold slices_BinarySearchFunc_api_Mapping_api_Mapping_int at h
 refine avc_sq2 <| avc_sq <| q1 ?_
 refine q1 ?_
 refine sq_nil <| avc_sq2 <| avc_sq <| q0 ?_
 refine q5 S23 ?_
 refine q1 ?_
 refine sq_nil <| avc_sq2 <| avc_sq <| q0 ?_
 refine q1 ?_
 refine q1 ?_
 refine sq_nil <| avc_sq2 <| avc_block ?_
 obtain ⟨y1, hy1, h⟩ := bE h
 refine avc_tail (e := (.exit 0)) (S2 := ⟨[(0, .d (dsl eMapping a0)), (1, .d (di a1)), (2, .d fv2), (8, .d (di (a0.length : Int))), (9, .d (di y1))], []⟩) ?_ ?_
 ·
  refine avc_loopM (fun x => ⟨[(0, .d (dsl eMapping a0)), (1, .d (di a1)), (2, .d fv2), (8, .d (di (a0.length : Int))), (9, .d (di x.1)), (10, .d (di x.2))], []⟩) hy1 (wc) ?_
  rintro ⟨v9, v10⟩ sy1 hsy1
  replace hsy1 : slices_BinarySearchFunc_api_Mapping_api_Mapping_int_L0 a0 a2 a1 v9 v10 = some sy1 := hsy1
  unfold slices_BinarySearchFunc_api_Mapping_api_Mapping_int_L0 at hsy1
  refine avc_sq2 <| avc_sq2 <| avc_sq <| q0 ?_
  refine q0 ?_
  refine q3 ?_
  refine sq_nil ?_
  refine ifM rfl hsy1 (fun _ hsy1 => ?_) (fun _ hsy1 => ?_)
  ·
   refine avc_skip ?_
   obtain ⟨y2, hy2, hsy1⟩ := bE hsy1
   refine avc_tail (e := .normal) (S2 := ⟨[(0, .d (dsl eMapping a0)), (1, .d (di a1)), (2, .d fv2), (8, .d (di (a0.length : Int))), (9, .d (di y2.1)), (10, .d (di y2.2))], []⟩) ?_ ?_
   ·
    refine avc_block <| avc_sq2 <| avc_sq <| q0 ?_
    refine q0 ?_
    refine q2 ?_
    refine q45 Tryz.underlying3 Tryz.underlying141 ?_
    refine q63 ?_
    refine q45 Tryz.underlying141 Tryz.underlying3 ?_
    refine q1 ?_
    refine sq_nil <| avc_sq2 <| avc_sq <| q0 ?_
    refine q0 ?_
    refine q0 ?_
    obtain ⟨t27, ht27, hy2⟩ := bE hy2
    refine q11 S23 ht27 ?_
    refine q66 G103 ht27 ?_
    refine q0 ?_
    obtain ⟨t30, ht30, hy2⟩ := bE hy2
    refine sqa (a_callF (lq rfl) rfl rfl (hf2 _ _ _ ht30)) ?_
    refine q3 ?_
    refine sq_nil ?_
    refine ifM rfl hy2 (fun _ hy2 => ?_) (fun _ hy2 => ?_)
    ·
     refine avc_sq <| q0 ?_
     refine q2 ?_
     refine q1 ?_
     refine sq_nil ?_
     cases hy2
     exact out_mk (wc)
    ·
     refine avc_sq <| q0 ?_
     refine q1 ?_
     refine sq_nil ?_
     cases hy2
     exact out_mk (wc)
   ·
    cases hsy1
    exact wc
  ·
   refine avc_exit ?_
   cases hsy1
   intro q; cases q
   exact out_mk (wc)
 ·
  refine avc_sq2 <| avc_sq <| q0 ?_
  refine q0 ?_
  refine q0 ?_
  refine q3 ?_
  obtain ⟨b39, hb39, h⟩ := bE h
  refine sqa ((a_move_d (lq rfl) rfl).bool (Option.some.inj hb39)) ?_
  refine q10 (.d fv2) ?_
  refine q10 (.d (dsl eMapping a0)) ?_
  refine q10 (.d (di y1)) ?_
  obtain ⟨t43, ht43, h⟩ := bE h
  refine q64 (.ip (eMapping.all a0) (y1.toNat * eMapping.size)) S23 ht43 ?_
  refine sqt (.d (eMapping.dv t43)) rfl (fun hb => by subst hb; exact m_loadEA (en := eMapping) (l := a0) (i := y1) (v := t43) (off := 0) (lq rfl) G103 rfl ht43 rfl rfl (by decide)) ?_
  refine q10 (.d (di a1)) ?_
  obtain ⟨t46, ht46, h⟩ := bE h
  refine sqt (.d (di t46)) rfl (fun hb => by subst hb; exact a_callF (lq rfl) rfl rfl (hf2 _ _ _ ht46)) ?_
  refine q81 (.d (db (decide (t46 = 0)))) ?_
  refine q12 ?_
  refine q1 ?_
  refine q1 ?_
  refine sq_nil ?_
  cases h
  refine avc_ret ?_
  exact ret_two rfl rfl
theorem decompose_once_1_c  {a0} {a1}  {r} (h : decompose_once_1 a0 a1 = some r) : Contract Tryz.prog 86 [(eMapping.dv a0), (di a1)] [(di r)] := by
 refine contract_of Tryz.func86 (by kernel_rfl) rfl (lq rfl) (lq rfl) fun w0 I0 hI0 hG0 => ?_
 unfold decompose_once_1 at h
 refine avc_sq2 <| avc_sq <| q28 ?_
 refine q1 ?_
 refine sq_nil <| avc_sq2 <| avc_sq <| q7 L103_0 ?_
 refine q8 O3 ?_
 refine q0 ?_
 obtain ⟨t8, ht8, h⟩ := bE h
 refine q6 (cmp_Compare_int_c ht8) ?_
 refine q1 ?_
 refine sq_nil ?_
 cases h
 refine avc_ret ?_
 exact ret_1 rfl
theorem decompose_once_c  {a0} {a1} {a2}  {r} (h : decompose_once a0 a1 a2 = some r) : Contract Tryz.prog 60 [(eNorm.dv a0), (di a1), (db a2)] [(dsl eI r.1), (db r.2)] := by
 refine contract_of Tryz.func60 (by kernel_rfl) rfl (lq rfl) (lq rfl) fun w0 I0 hI0 hG0 => ?_
 unfold decompose_once at h
 refine avc_sq2 <| avc_sq <| q28 ?_
 refine q1 ?_
 refine q1 ?_
 refine sq_nil <| avc_sq2 <| avc_sq2 <| avc_sq <| q0 ?_
 obtain ⟨t11, ht11, h⟩ := bE h
 refine q6 (hangul_Kind_c ht11) ?_
 refine q30 ?_
 refine sq_nil ?_
 refine ifM rfl h (fun _ h => ?_) (fun _ h => ?_)
 ·
  refine avc_sq2 <| avc_sq <| q0 ?_
  obtain ⟨t14, ht14, h⟩ := bE h
  refine q6 (hangul_Decompose_c ht14) ?_
  refine q1 ?_
  refine q1 ?_
  refine sq_nil ?_
  cases h
  refine avc_ret ?_
  exact ret_two rfl rfl
 ·
  refine avc_skip <| avc_sq2 <| avc_sq <| q7 L28_1 ?_
  refine q8 O23 ?_
  refine q0 ?_
  obtain ⟨t19, ht19, h⟩ := bE h
  refine q6 (slices_BinarySearchFunc_api_Mapping_api_Mapping_int_c (fun _ _ _ q => .inr ⟨_, rfl, decompose_once_1_c q⟩) ht19) ?_
  refine q43 ?_
  refine q18 ?_
  refine q18 ?_
  refine q1 ?_
  refine q1 ?_
  refine sq_nil <| avc_sq2 <| avc_sq2 <| avc_sq <| q0 ?_
  refine q22 ?_
  obtain ⟨b24, hb24, h⟩ := bE h
  refine sqa ((a_move_d (lq rfl) rfl).bool (Option.some.inj hb24)) ?_
  refine q23 (.ip (eNorm.cells a0) (0 + 1)) L28_1 ?_
  refine q24 (.d (dsl eMapping a0.Decomp)) O23 ?_
  refine q32 (.d (di t19.1)) ?_
  obtain ⟨t28, ht28, h⟩ := bE h
  refine q100 (.ip (eMapping.all a0.Decomp) (t19.1.toNat * eMapping.size)) S23 ht28 ?_
  refine q116 (.ip (eMapping.all a0.Decomp) (t19.1.toNat * eMapping.size + 2)) L103_2 ?_
  refine sqf (.d (ds t28.Tag)) rfl (fun hb => by subst hb; exact m_loadE (en := eMapping) (l := a0.Decomp) (i := t19.1) (v := t28) (off := 2) (lq rfl) O9 rfl ht28 rfl) ?_
  refine sqf (.d (db (!(t28.Tag == [])))) rfl (fun hb => by subst hb; exact m_sneq (a := t28.Tag) (b := []) (lq rfl) rfl rfl) ?_
  obtain ⟨b32, hb32, h⟩ := bE h
  refine sqf (.d (db b32)) rfl (fun hb => by subst hb; exact (a_move_d (lq rfl) rfl).bool (Option.some.inj hb32)) ?_
  refine sq_g2 (x := .d (db a2)) rfl rfl rfl (lq rfl) (lq rfl) rfl (fun hb => by obtain ⟨hb, hb1⟩ := and_split hb; obtain rfl := gF hb; obtain rfl : b32 = true := hb1; exact a_move_d (lq rfl) rfl) ?_
  refine sq_g2 (x := .d (db (!a2))) rfl rfl rfl (lq rfl) (lq rfl) rfl (fun hb => by obtain ⟨hb, hb1⟩ := and_split hb; obtain rfl := gF hb; obtain rfl : b32 = true := hb1; exact a_not (lq rfl) rfl) ?_
  refine q62 (.d (db (b32 && (!a2)))) ?_
  refine q15 ?_
  refine sq_nil ?_
  refine ifM rfl h (fun _ h => ?_) (fun _ h => ?_)
  ·
   refine avc_sq2 <| avc_sq <| q1 ?_
   refine q1 ?_
   refine sq_nil ?_
   refine avc_weak (weak_nil_d (t := 6) eI.size (lq rfl) rfl) ?_
   cases h
   refine avc_ret ?_
   exact ret_two rfl rfl
  ·
   refine avc_skip <| avc_sq2 <| avc_sq <| q7 L28_1 ?_
   refine q8 O23 ?_
   refine q0 ?_
   obtain ⟨t40, ht40, h⟩ := bE h
   refine q11 S23 ht40 ?_
   refine q34 L103_1 ?_
   refine q65 O33 ht40 ?_
   refine q1 ?_
   refine q1 ?_
   refine sq_nil ?_
   cases h
   refine avc_ret ?_
   exact ret_two rfl rfl
theorem decompose_measure_1_g : ∀ (n : Nat) {a0 : Int} {a1 : Norm} {a2 : (List (Int × Int))} {a3 : Bool} {a5 : Bool} {r : Int × Bool × Bool × (List (Int × Int))}, decompose_measure_1 n a0 a1 a2 a3 a5 = some r → GC Tryz.prog 107 [.d (di a0), .d (.pt (eNorm.cells a1)), .ptr 3002 0, .ptr 3003 0, .ptr 3004 0, .ptr 3005 0] [(3002, .box 140 [.row 3140]), (3003, .box 4 [.d (db a3)]), (3004, .box 94 [.clo 107 [.d (.pt (eNorm.cells a1)), .ptr 3002 0, .ptr 3003 0, .ptr 3004 0, .ptr 3005 0]]), (3005, .box 4 [.d (db a5)]), (3140, .map (mapE kI eI a2))] [3002, 3003, 3004, 3005, 3140] [.d (di r.1)] [(3002, .box 140 [.row 3140]), (3003, .box 4 [.d (db r.2.1)]), (3004, .box 94 [.clo 107 [.d (.pt (eNorm.cells a1)), .ptr 3002 0, .ptr 3003 0, .ptr 3004 0, .ptr 3005 0]]), (3005, .box 4 [.d (db r.2.2.1)]), (3140, .map (mapE kI eI r.2.2.2))] := by
 intro n
 induction n with
 | zero => intro a0 a1 a2 a3 a5 r h; cases h
 | succ n ih =>
 intro a0 a1 a2 a3 a5 r h
 replace h : decompose_measure_1_B (decompose_measure_1 n) a0 a1 a2 a3 a5 = some r := h
 generalize decompose_measure_1 n = rec at h ih
 refine gc_of Tryz.func107 (by kernel_rfl) rfl (lq rfl) (lq rfl) fun w0 I0 hG0 p0 => ?_
 unfold decompose_measure_1_B at h
 refine avc_sq2 <| avc_sq <| q1 ?_
 refine sq_nil <| avc_sq2 <| avc_sq <| q16 G28 ?_
 refine q0 ?_
 obtain ⟨t18, ht18, h⟩ := bE h
 refine q6 (decompose_once_c ht18) ?_
 refine q43 ?_
 refine q18 ?_
 refine q18 ?_
 refine q1 ?_
 refine q1 ?_
 refine sq_nil <| avc_sq2 <| avc_sq2 <| avc_sq <| q0 ?_
 refine q22 ?_
 obtain ⟨b23, hb23, h⟩ := bE h
 refine sqa ((a_move_d (lq rfl) rfl).bool (Option.some.inj hb23)) ?_
 refine q32 (.d (dsl eI t18.1)) ?_
 refine q69 (.d (di (t18.1.length : Int))) S33 ?_
 refine q79 (.d (db (decide ((t18.1.length : Int) = 0)))) ?_
 refine q15 ?_
 refine sq_nil ?_
 refine ifM rfl h (fun _ h => ?_) (fun _ h => ?_)
 ·
  refine avc_sq2 <| avc_sq <| q1 ?_
  refine sq_nil ?_
  cases h
  refine avc_ret ?_
  exact ⟨⟨_, _, rfl, rfl, rfl⟩, ⟨rfl, rfl, rfl, rfl, rfl, trivial⟩⟩
 ·
  refine avc_skip <| avc_sq2 <| avc_sq2 <| avc_sq <| q33 O140 ?_
  refine q0 ?_
  refine sqa (m_lookup2 (kv := kI) (ev := eI) (mp := a2) (k := a0) (zero := 0) (lq rfl) M140 K3 rfl rfl rfl (fun _ _ => .v _)) ?_
  refine q43 ?_
  refine q18 ?_
  refine q18 ?_
  refine q1 ?_
  refine q1 ?_
  refine sq_nil <| avc_sq2 <| avc_sq <| q0 ?_
  refine sq_nil ?_
  refine ifM rfl h (fun _ h => ?_) (fun _ h => ?_)
  ·
   refine avc_sq2 <| avc_sq <| q33 O4 ?_
   obtain ⟨b36, hb36, h⟩ := bE h
   refine sqa ((a_move_d (lq rfl) rfl).bool (Option.some.inj hb36)) ?_
   refine q32 (.d (di (mgetD a2 a0 0))) ?_
   refine q79 (.d (db (decide ((mgetD a2 a0 0) = (-1))))) ?_
   refine q15 ?_
   refine q82 O4 ?_
   refine sq_nil <| avc_sq2 <| avc_sq <| q0 ?_
   refine q129 ?_
   refine q1 ?_
   refine sq_nil ?_
   cases h
   refine avc_ret ?_
   exact ⟨⟨_, _, rfl, rfl, rfl⟩, ⟨rfl, rfl, rfl, rfl, rfl, trivial⟩⟩
  ·
   refine avc_skip <| avc_sq2 <| avc_sq <| q33 O140 ?_
   refine q0 ?_
   refine q122 M140 K3 ?_
   refine sq_nil <| avc_sq2 <| avc_sq <| q1 ?_
   refine sq_nil <| avc_sq2 <| avc_sq2 <| avc_sq <| q0 ?_
   refine q5 S33 ?_
   refine q0 ?_
   refine sq_nil <| avc_block ?_
   obtain ⟨y1, hy1, h⟩ := bE h
   refine avc_tail (e := (.exit 0)) (S2 := ⟨[(0, .d (di a0)), (2, .ptr 3002 0), (3, .ptr 3003 0), (4, .ptr 3004 0), (5, .ptr 3005 0), (12, .d (di y1.1))], [(3002, .box 140 [.row 3140]), (3003, .box 4 [.d (db y1.2.1)]), (3004, .box 94 [.clo 107 [.d (.pt (eNorm.cells a1)), .ptr 3002 0, .ptr 3003 0, .ptr 3004 0, .ptr 3005 0]]), (3005, .box 4 [.d (db y1.2.2.1)]), (3140, .map (mapE kI eI y1.2.2.2))]⟩) ?_ ?_
   ·
    refine avc_loopM (fun x => ⟨[(0, .d (di a0)), (2, .ptr 3002 0), (3, .ptr 3003 0), (4, .ptr 3004 0), (5, .ptr 3005 0), (12, .d (di x.1)), (44, .d (dsl eI t18.1)), (45, .d (di (t18.1.length : Int))), (46, .d (di x.2.1))], [(3002, .box 140 [.row 3140]), (3003, .box 4 [.d (db x.2.2.1)]), (3004, .box 94 [.clo 107 [.d (.pt (eNorm.cells a1)), .ptr 3002 0, .ptr 3003 0, .ptr 3004 0, .ptr 3005 0]]), (3005, .box 4 [.d (db x.2.2.2.1)]), (3140, .map (mapE kI eI x.2.2.2.2))]⟩) hy1 (wc) ?_
    rintro ⟨v12, v46, k3003_0, k3005_0, r3140⟩ sy1 hsy1
    replace hsy1 : decompose_measure_1_L0 t18 rec a1 v12 v46 k3003_0 k3005_0 r3140 = some sy1 := hsy1
    unfold decompose_measure_1_L0 at hsy1
    refine avc_sq2 <| avc_sq <| q3 ?_
    refine sq_nil <| avc_sq2 ?_
    refine ifM rfl hsy1 (fun _ hsy1 => ?_) (fun _ hsy1 => ?_)
    ·
     refine avc_skip <| avc_sq2 <| avc_block <| avc_sq2 <| avc_sq ?_
     obtain ⟨t48, ht48, hsy1⟩ := bE hsy1
     refine q11 S33 ht48 ?_
     refine q29 O3 ht48 ?_
     refine q1 ?_
     refine sq_nil <| avc_sq <| q0 ?_
     refine q33 O94 ?_
     refine q0 ?_
     obtain ⟨t53, ht53, hsy1⟩ := bE hsy1
     refine sq_b rfl (g_callCN [(3002, 3002), (3003, 3003), (3004, 3004), (3005, 3005), (3140, 3140)] (ih ht53) (lq rfl) (by decide) rfl ⟨rfl, rfl, rfl, rfl, rfl, rfl, trivial⟩ rfl rfl ⟨rfl, rfl, rfl, rfl, rfl, trivial⟩ rfl rfl rfl rfl) ?_
     refine q2 ?_
     refine q103 ?_
     refine q1 ?_
     refine sq_nil <| avc_sq <| q2 ?_
     refine q0 ?_
     refine sq_nil ?_
     cases hsy1
     exact wc
    ·
     refine avc_exit ?_
     cases hsy1
     intro q; cases q
     exact out_mk (wc)
   ·
    refine avc_sq2 <| avc_sq <| q33 O140 ?_
    refine q0 ?_
    refine q0 ?_
    refine q122 M140 K3 ?_
    refine sq_nil <| avc_sq2 <| avc_sq <| q33 O4 ?_
    obtain ⟨b61, hb61, h⟩ := bE h
    refine sqa ((a_move_d (lq rfl) rfl).bool (Option.some.inj hb61)) ?_
    refine q32 (.d (di y1.1)) ?_
    refine q46 (.d (db (decide (64 < y1.1)))) ?_
    refine q15 ?_
    refine q82 O4 ?_
    refine sq_nil <| avc_sq2 <| avc_sq <| q0 ?_
    refine q1 ?_
    refine sq_nil ?_
    cases h
    refine avc_ret ?_
    exact ⟨⟨_, _, rfl, rfl, rfl⟩, ⟨rfl, rfl, rfl, rfl, rfl, trivial⟩⟩
set_option maxHeartbeats 8000000 in
theorem decompose_measure_c  {a0}  {r} (h : decompose_measure a0 = some r) : Contract Tryz.prog 81 [(eNorm.dv a0)] [(db r.1), (db r.2)] := by
 refine contract_of Tryz.func81 (by kernel_rfl) rfl (lq rfl) (lq rfl) fun w0 I0 hI0 hG0 => ?_
 unfold decompose_measure at h
 refine avc_sq2 <| avc_sq <| q28 ?_
 refine sq_b rfl (step_alloc (zs := [(.bool false)]) (lq rfl) (by kernel_rfl) rfl rfl) ?_
 refine sq_b rfl (step_alloc (zs := [(.bool false)]) (lq rfl) (by kernel_rfl) rfl rfl) ?_
 refine sq_nil <| avc_sq2 <| avc_sq <| q101 ?_
 refine sq_b rfl (step_alloc (zs := [(.map none)]) (lq rfl) (by kernel_rfl) rfl rfl) ?_
 refine q109 O140 ?_
 refine sq_nil <| avc_sq2 <| avc_sq ?_
 refine sq_b rfl (step_alloc (zs := [.nilFunc]) (lq rfl) (by kernel_rfl) rfl rfl) ?_
 refine sq_nil <| avc_sq2 <| avc_sq ?_
 refine sqa (a_makeClo (cs := [.d (.pt (eNorm.cells a0)), .ptr 4 0, .ptr 2 0, .ptr 5 0, .ptr 3 0]) (lq rfl) ⟨_, _, rfl, rfl, ⟨_, _, rfl, rfl, ⟨_, _, rfl, rfl, ⟨_, _, rfl, rfl, ⟨_, _, rfl, rfl, rfl⟩⟩⟩⟩⟩) ?_
 refine sq_b rfl (s_store_box_av O94 rfl rfl (lq rfl) rfl rfl rfl rfl) ?_
 refine sq_nil <| avc_sq2 <| avc_sq2 <| avc_sq <| q7 L28_1 ?_
 refine q8 O23 ?_
 refine q5 S23 ?_
 refine q0 ?_
 refine sq_nil <| avc_block ?_
 obtain ⟨y1, hy1, h⟩ := bE h
 refine avc_tail (e := (.exit 0)) (S2 := ⟨[(2, .ptr 2 0), (3, .ptr 3 0)], [(2, .box 4 [.d (db y1.1)]), (3, .box 4 [.d (db y1.2)])]⟩) ?_ ?_
 ·
  refine avc_loopM (fun x => ⟨[(2, .ptr 2 0), (3, .ptr 3 0), (5, .ptr 5 0), (11, .d (dsl eMapping a0.Decomp)), (12, .d (di (a0.Decomp.length : Int))), (13, .d (di x.1))], [(2, .box 4 [.d (db x.2.1)]), (3, .box 4 [.d (db x.2.2.1)]), (4, .box 140 [.row 8]), (5, .box 94 [.clo 107 [.d (.pt (eNorm.cells a0)), .ptr 4 0, .ptr 2 0, .ptr 5 0, .ptr 3 0]]), (8, .map (mapE kI eI x.2.2.2))]⟩) hy1 (wc) ?_
  rintro ⟨v13, k2_0, k3_0, r8⟩ sy1 hsy1
  replace hsy1 : decompose_measure_L0 a0 v13 k2_0 k3_0 r8 = some sy1 := hsy1
  unfold decompose_measure_L0 at hsy1
  refine avc_sq2 <| avc_sq <| q3 ?_
  refine sq_nil <| avc_sq2 ?_
  refine ifM rfl hsy1 (fun _ hsy1 => ?_) (fun _ hsy1 => ?_)
  ·
   refine avc_skip <| avc_sq2 <| avc_block <| avc_sq2 <| avc_sq ?_
   obtain ⟨t15, ht15, hsy1⟩ := bE hsy1
   refine q11 S23 ht15 ?_
   refine q66 G103 ht15 ?_
   refine q85 ?_
   refine q14 G103 ?_
   refine sq_nil ?_
   refine avc_weak (weak_freeze (t := 7) (lq rfl) rfl rfl rfl) ?_
   refine avc_sq <| q33 O94 ?_
   refine q7 L103_0 ?_
   refine q8 O3 ?_
   obtain ⟨t20, ht20, hsy1⟩ := bE hsy1
   refine sq_b rfl (g_callC [(3002, 4), (3003, 2), (3004, 5), (3005, 3), (3140, 8)] (decompose_measure_1_g _ ht20) (lq rfl) (by decide) rfl ⟨rfl, rfl, rfl, rfl, rfl, rfl, trivial⟩ rfl rfl ⟨rfl, rfl, rfl, rfl, rfl, trivial⟩ rfl rfl rfl (fun _ => rfl) rfl) ?_
   refine sq_nil <| avc_sq <| q2 ?_
   refine q0 ?_
   refine sq_nil ?_
   cases hsy1
   exact wc
  ·
   refine avc_exit ?_
   cases hsy1
   intro q; cases q
   exact out_mk (wc)
 ·
  refine avc_sq2 ?_
  refine avc_tail (e := .normal) (S2 := ⟨[(2, .ptr 2 0), (3, .ptr 3 0)], [(2, .box 4 [.d (db y1.1)]), (3, .box 4 [.d (db y1.2)])]⟩) ?_ ?_
  ·
   refine avc_any MX ?_
   refine xn [0,1] ?_
   refine xa rfl (a_load_box (lq rfl) O4 rfl rfl rfl) ?_ ?_
   ·
    refine xn [1,2] ?_
    refine xa rfl (a_load_box (lq rfl) O4 rfl rfl rfl) ?_ ?_
    ·
     refine xn [2] ?_
     refine xd rfl (s_store_box_d O4 rfl rfl (lq rfl) rfl rfl rfl) ?_
     refine xn [3] ?_
     refine xd rfl (s_store_box_d O4 rfl rfl (lq rfl) rfl rfl rfl) ?_
     exact any_end rfl (out_mk (wc))
    refine xd rfl (s_store_box_d O4 rfl rfl (lq rfl) rfl rfl rfl) ?_
    refine xn [1] ?_
    refine xc rfl (a_load_box (lq rfl) O4 rfl rfl rfl) ?_
    refine xn [3] ?_
    refine xd rfl (s_store_box_d O4 rfl rfl (lq rfl) rfl rfl rfl) ?_
    exact any_end rfl (out_mk (wc))
   refine xc rfl (a_load_box (lq rfl) O4 rfl rfl rfl) ?_
   refine xn [0] ?_
   refine xc rfl (a_load_box (lq rfl) O4 rfl rfl rfl) ?_
   refine xn [2] ?_
   refine xd rfl (s_store_box_d O4 rfl rfl (lq rfl) rfl rfl rfl) ?_
   refine xn [3] ?_
   refine xd rfl (s_store_box_d O4 rfl rfl (lq rfl) rfl rfl rfl) ?_
   exact any_end rfl (out_mk (wc))
  cases h
  refine avc_ret ?_
  exact ret_cells2 rfl rfl O4 rfl rfl O4
theorem decompose_Check_c  {a0}  {r} (h : decompose_Check a0 = some r) : Contract Tryz.prog 55 [(eNorm.dv a0)] [(di r)] := by
 refine contract_of Tryz.func55 (by kernel_rfl) rfl (lq rfl) (lq rfl) fun w0 I0 hI0 hG0 => ?_
 unfold decompose_Check at h
 refine avc_sq2 <| avc_sq <| q28 ?_
 refine q1 ?_
 refine sq_nil <| avc_sq2 <| avc_sq2 <| avc_sq <| q7 L28_0 ?_
 refine q8 O22 ?_
 obtain ⟨t15, ht15, h⟩ := bE h
 refine q6 (ordering_Check_c ht15) ?_
 refine q1 ?_
 refine sq_nil <| avc_sq2 <| avc_sq <| q0 ?_
 refine q27 ?_
 refine sq_nil ?_
 refine ifM rfl h (fun _ h => ?_) (fun _ h => ?_)
 ·
  refine avc_sq2 <| avc_sq <| q0 ?_
  refine q1 ?_
  refine sq_nil ?_
  cases h
  refine avc_ret ?_
  exact ret_1 rfl
 ·
  refine avc_skip <| avc_sq2 <| avc_sq2 <| avc_sq <| q7 L28_1 ?_
  refine q8 O23 ?_
  obtain ⟨t21, ht21, h⟩ := bE h
  refine q6 (mapping_Check_c ht21) ?_
  refine q1 ?_
  refine sq_nil <| avc_sq2 <| avc_sq <| q0 ?_
  refine q27 ?_
  refine sq_nil ?_
  refine ifM rfl h (fun _ h => ?_) (fun _ h => ?_)
  ·
   refine avc_sq2 <| avc_sq <| q0 ?_
   refine q1 ?_
   refine sq_nil ?_
   cases h
   refine avc_ret ?_
   exact ret_1 rfl
  ·
   refine avc_skip <| avc_sq2 <| avc_sq2 <| avc_sq <| q7 L28_2 ?_
   refine q70 G26 ?_
   obtain ⟨t27, ht27, h⟩ := bE h
   refine q6 (cpset_Valid_c ht27) ?_
   refine q22 ?_
   refine sq_nil ?_
   refine ifM rfl h (fun _ h => ?_) (fun _ h => ?_)
   ·
    refine avc_sq2 <| avc_sq <| q1 ?_
    refine sq_nil ?_
    cases h
    refine avc_ret ?_
    exact ret_1 rfl
   ·
    refine avc_skip <| avc_sq2 <| avc_sq2 <| avc_sq <| q1 ?_
    refine sq_nil <| avc_block ?_
    obtain ⟨y1, hy1, h⟩ := bE h
    refine avc_tail2 y1 (.exit 0) (fun y1 => ⟨[(1, .d (.pt (eNorm.cells a0)))], []⟩) .ret (fun y1 => ⟨[(2, .d (di y1))], []⟩) ?_ ?_ ?_
    ·
     refine avc_loopM (fun x => ⟨[(1, .d (.pt (eNorm.cells a0))), (5, .d (di x))], []⟩) hy1 (wc) ?_
     rintro v5 sy1 hsy1
     replace hsy1 : decompose_Check_L0 a0 v5 = some sy1 := hsy1
     unfold decompose_Check_L0 at hsy1
     refine avc_sq2 <| avc_sq2 <| avc_sq <| q0 ?_
     refine q7 L28_1 ?_
     refine q8 O23 ?_
     refine q5 S23 ?_
     refine q3 ?_
     refine sq_nil ?_
     refine ifM rfl hsy1 (fun _ hsy1 => ?_) (fun _ hsy1 => ?_)
     ·
      refine avc_skip <| avc_sq2 <| avc_block <| avc_sq2 ?_
      refine avc_drawA MX rfl ?_
      refine q19 L28_1 ?_
      refine q21 O23 ?_
      refine q4 ?_
      obtain ⟨t39, ht39, hsy1⟩ := bE hsy1
      refine q17 S23 ht39 ?_
      refine q35 L103_0 ?_
      refine q110 O3 ht39 ?_
      refine q19 L28_1 ?_
      refine q21 O23 ?_
      refine q4 ?_
      refine q74 ?_
      obtain ⟨t46, ht46, hsy1⟩ := bE hsy1
      refine q17 S23 ht46 ?_
      refine q35 L103_0 ?_
      refine q110 O3 ht46 ?_
      refine daa (a_eql (lq rfl) rfl rfl) ?_
      refine da_nil ?_
      refine ifM rfl hsy1 (fun _ hsy1 => ?_) (fun _ hsy1 => ?_)
      ·
       refine avc_sq2 <| avc_sq <| q1 ?_
       refine sq_nil <| avc_ret ?_
       cases hsy1
       intro q; cases q
       exact ⟨rfl, wc⟩
      ·
       refine avc_skip <| avc_sq <| q0 ?_
       refine q2 ?_
       refine q1 ?_
       refine sq_nil ?_
       cases hsy1
       exact wc
     ·
      refine avc_exit ?_
      cases hsy1
      intro q; cases q
      exact ⟨rfl, wc⟩
    ·
     rintro y1 rfl
     replace h := eL h
     refine avc_sq2 <| avc_sq2 <| avc_sq <| q7 L28_1 ?_
     refine q8 O23 ?_
     refine q5 S23 ?_
     refine q0 ?_
     refine sq_nil <| avc_block ?_
     obtain ⟨y2, hy2, h⟩ := bE h
     refine avc_tail2 y2 (.exit 2) (fun y2 => ⟨[(1, .d (.pt (eNorm.cells a0)))], []⟩) .ret (fun y2 => ⟨[(2, .d (di y2))], []⟩) ?_ ?_ ?_
     ·
      refine avc_loopM (fun x => ⟨[(1, .d (.pt (eNorm.cells a0))), (51, .d (dsl eMapping a0.Decomp)), (52, .d (di (a0.Decomp.length : Int))), (53, .d (di x))], []⟩) hy2 (wc) ?_
      rintro v53 sy2 hsy2
      replace hsy2 : decompose_Check_L1 a0 v53 = some sy2 := hsy2
      unfold decompose_Check_L1 at hsy2
      refine avc_sq2 <| avc_sq <| q3 ?_
      refine sq_nil <| avc_sq2 ?_
      refine ifM rfl hsy2 (fun _ hsy2 => ?_) (fun _ hsy2 => ?_)
      ·
       refine avc_skip <| avc_sq2 <| avc_block <| avc_sq2 <| avc_sq ?_
       obtain ⟨t55, ht55, hsy2⟩ := bE hsy2
       refine q11 S23 ht55 ?_
       refine q66 G103 ht55 ?_
       refine q85 ?_
       refine q14 G103 ?_
       refine sq_nil ?_
       refine avc_weak (weak_freeze (t := 7) (lq rfl) rfl rfl rfl) ?_
       refine avc_sq2 <| avc_sq <| q7 L103_2 ?_
       refine q8 O9 ?_
       refine sqa (m_seql (a := t55.Tag) (b := []) (lq rfl) rfl rfl) ?_
       obtain ⟨b60, hb60, hsy2⟩ := bE hsy2
       refine sqa ((a_move_d (lq rfl) rfl).bool (Option.some.inj hb60)) ?_
       refine q47 (.ip (eMapping.cells t55) (0 + 1)) L103_1 ?_
       refine q49 (.d (dsl eI t55.To)) O33 ?_
       refine q88 (.d (di (t55.To.length : Int))) S33 ?_
       refine q106 (.d (db (!decide ((t55.To.length : Int) = 1)))) ?_
       refine q12 ?_
       obtain ⟨b66, hb66, hsy2⟩ := bE hsy2
       refine sqa ((a_move_d (lq rfl) rfl).bool (Option.some.inj hb66)) ?_
       refine q47 (.ip (eMapping.cells t55) (0 + 1)) L103_1 ?_
       refine q49 (.d (dsl eI t55.To)) O33 ?_
       refine q88 (.d (di (t55.To.length : Int))) S33 ?_
       refine q106 (.d (db (!decide ((t55.To.length : Int) = 2)))) ?_
       refine q12 ?_
       refine sq_nil ?_
       refine ifM rfl hsy2 (fun _ hsy2 => ?_) (fun _ hsy2 => ?_)
       ·
        refine avc_sq2 <| avc_sq <| q1 ?_
        refine sq_nil <| avc_ret ?_
        cases hsy2
        intro q; cases q
        exact ⟨rfl, wc⟩
       ·
        refine avc_skip <| avc_sq <| q2 ?_
        refine q0 ?_
        refine sq_nil ?_
        cases hsy2
        exact wc
      ·
       refine avc_exit ?_
       cases hsy2
       intro q; cases q
       exact ⟨rfl, wc⟩
     ·
      rintro y2 rfl
      replace h := eL h
      refine avc_sq2 <| avc_sq <| q1 ?_
      refine sq_nil ?_
      refine avc_weak (weak_nil (t := 8) 1008 3 eI.size (lq rfl) (lq rfl) rfl rfl) ?_
      refine avc_sq2 <| avc_sq2 <| avc_sq <| q7 L28_1 ?_
      refine q8 O23 ?_
      refine q5 S23 ?_
      refine q0 ?_
      refine sq_nil <| avc_block ?_
      obtain ⟨y3, hy3, h⟩ := bE h
      refine avc_tail2 y3 (.exit 4) (fun y3 => ⟨[(1, .d (.pt (eNorm.cells a0))), (8, .row 1008)], [(1008, .row 3 eI.size false (eI.all y3))]⟩) .ret (fun y3 => ⟨[(2, .d (di y3))], []⟩) ?_ ?_ ?_
      ·
       refine avc_loopM (fun x => ⟨[(1, .d (.pt (eNorm.cells a0))), (8, .row 1008), (74, .d (dsl eMapping a0.Decomp)), (75, .d (di (a0.Decomp.length : Int))), (76, .d (di x.1))], [(1008, .row 3 eI.size false (eI.all x.2))]⟩) hy3 (wc) ?_
       rintro ⟨v76, r1008⟩ sy3 hsy3
       replace hsy3 : decompose_Check_L2 a0 v76 r1008 = some sy3 := hsy3
       unfold decompose_Check_L2 at hsy3
       refine avc_sq2 <| avc_sq <| q3 ?_
       refine sq_nil <| avc_sq2 ?_
       refine ifM rfl hsy3 (fun _ hsy3 => ?_) (fun _ hsy3 => ?_)
       ·
        refine avc_skip <| avc_sq2 ?_
        obtain ⟨y4, hy4, hsy3⟩ := bE hsy3
        refine avc_tail2 y4 .normal (fun y4 => ⟨[(1, .d (.pt (eNorm.cells a0))), (8, .row 1008), (74, .d (dsl eMapping a0.Decomp)), (75, .d (di (a0.Decomp.length : Int))), (76, .d (di v76))], [(1008, .row 3 eI.size false (eI.all y4))]⟩) .ret (fun y4 => ⟨[(2, .d (di 11))], []⟩) ?_ ?_ ?_
        ·
         refine avc_block <| avc_sq2 <| avc_sq ?_
         obtain ⟨t78, ht78, hy4⟩ := bE hy4
         refine q11 S23 ht78 ?_
         refine q66 G103 ht78 ?_
         refine q85 ?_
         refine q14 G103 ?_
         refine sq_nil ?_
         refine avc_weak (weak_freeze (t := 10) (lq rfl) rfl rfl rfl) ?_
         refine avc_sq2 <| avc_sq2 <| avc_sq <| q7 L103_0 ?_
         refine q8 O3 ?_
         obtain ⟨t82, ht82, hy4⟩ := bE hy4
         refine q6 (hangul_Kind_c ht82) ?_
         refine q27 ?_
         refine sq_nil ?_
         refine ifM rfl hy4 (fun _ hy4 => ?_) (fun _ hy4 => ?_)
         ·
          refine avc_sq2 <| avc_sq <| q1 ?_
          refine sq_nil <| avc_ret ?_
          cases hy4
          exact ⟨rfl, wc⟩
         ·
          refine avc_skip <| avc_sq2 <| avc_sq <| q7 L103_2 ?_
          refine q8 O9 ?_
          refine q89 ?_
          refine sq_nil ?_
          refine ifM rfl hy4 (fun _ hy4 => ?_) (fun _ hy4 => ?_)
          ·
           refine avc_sq <| q9 ?_
           refine q7 L103_0 ?_
           refine q8 O3 ?_
           refine q31 S33 ?_
           obtain ⟨r1008_5, hr1008_5, hy4⟩ := bE hy4
           refine sq_b rfl (m_append (en := eI) (l := r1008) (m := [t78.From]) (lq rfl) S33 rfl rfl rfl hr1008_5 (by decide) (by decide) rfl rfl) ?_
           refine q13 ?_
           refine sq_nil ?_
           cases hy4
           exact ⟨rfl, wc⟩
          ·
           refine avc_skip ?_
           cases hy4
           exact ⟨rfl, wc⟩
        ·
         rintro y4 rfl
         replace hsy3 := eL hsy3
         refine avc_sq <| q2 ?_
         refine q0 ?_
         refine sq_nil ?_
         cases hsy3
         exact wc
        ·
         rintro y4 rfl
         replace hsy3 := eR hsy3
         cases hsy3
         intro q; cases q
         exact ⟨rfl, wc⟩
       ·
        refine avc_exit ?_
        cases hsy3
        intro q; cases q
        exact ⟨rfl, wc⟩
      ·
       rintro y3 rfl
       replace h := eL h
       refine avc_sq2 <| avc_sq2 <| avc_sq <| q7 L28_0 ?_
       refine q8 O22 ?_
       refine q9 ?_
       obtain ⟨t96, ht96, h⟩ := bE h
       refine sq_b rfl (s_call (lq rfl) rfl rfl (ordering_Runs_c ht96)) ?_
       refine q5 S24 ?_
       refine q37 ?_
       refine sq_nil ?_
       refine ifM rfl h (fun _ h => ?_) (fun _ h => ?_)
       ·
        refine avc_sq2 <| avc_sq <| q1 ?_
        refine sq_nil ?_
        cases h
        refine avc_ret ?_
        exact ret_1 rfl
       ·
        refine avc_skip <| avc_sq2 <| avc_sq <| q16 G28 ?_
        obtain ⟨t101, ht101, h⟩ := bE h
        refine q6 (decompose_measure_c ht101) ?_
        refine q43 ?_
        refine q18 ?_
        refine q18 ?_
        refine q1 ?_
        refine q1 ?_
        refine sq_nil <| avc_sq2 <| avc_block <| avc_sq2 <| avc_sq <| q0 ?_
        refine q1 ?_
        refine sq_nil ?_
        refine ifM rfl h (fun _ h => ?_) (fun _ h => ?_)
        ·
         refine avc_sq2 <| avc_sq <| q1 ?_
         refine sq_nil ?_
         cases h
         refine avc_ret ?_
         exact ret_1 rfl
        ·
         refine avc_sq2 <| avc_sq <| q0 ?_
         refine q1 ?_
         refine sq_nil ?_
         refine ifM rfl h (fun _ h => ?_) (fun _ h => ?_)
         ·
          refine avc_sq2 <| avc_sq <| q1 ?_
          refine sq_nil ?_
          cases h
          refine avc_ret ?_
          exact ret_1 rfl
         ·
          refine avc_skip <| avc_sq2 <| avc_sq <| q1 ?_
          refine sq_nil ?_
          cases h
          refine avc_ret ?_
          exact ret_1 rfl
      ·
       rintro y3 rfl
       replace h := eR h
       cases h
       exact ret_1 rfl
     ·
      rintro y2 rfl
      replace h := eR h
      cases h
      exact ret_1 rfl
    ·
     rintro y1 rfl
     replace h := eR h
     cases h
     exact ret_1 rfl
theorem colltable_table_with_g  {a0} {a1}  {r : Colltable_table} (h : colltable_table_with a0 a1 = some r) : GC Tryz.prog 29 [.ptr 3000 0, .d (eNorm.dv a1)] [(3000, .box 90 [.d (dsl eEntry a0.c.Entries), .d (dsl eGroup a0.c.Groups), .d (di a0.c.Base), .d (di a0.c.Second), .d (di a0.c.Third), .row 3105, .d (di a0.longest), .d (dsl eSpan a0.classes), .d (di a0.top)]), (3105, .map (mapE kA9Int (eL eElement) a0.entries))] [3000, 3105] [.ptr 3000 0] [(3000, .box 90 [.d (dsl eEntry r.c.Entries), .d (dsl eGroup r.c.Groups), .d (di r.c.Base), .d (di r.c.Second), .d (di r.c.Third), .row 3105, .d (di r.longest), .d (dsl eSpan r.classes), .d (di r.top)]), (3105, .map (mapE kA9Int (eL eElement) r.entries))] := by
 refine gc_of Tryz.func29 (by kernel_rfl) rfl (lq rfl) (lq rfl) fun w0 I0 hG0 p0 => ?_
 unfold colltable_table_with at h
 refine avc_sq2 <| avc_sq <| q28 ?_
 refine q1 ?_
 refine sq_nil <| avc_sq2 <| avc_sq2 <| avc_sq <| q16 G28 ?_
 obtain ⟨t8, ht8, h⟩ := bE h
 refine q6 (decompose_Check_c ht8) ?_
 refine q39 ?_
 refine sq_nil ?_
 obtain ⟨y1, hy1, h⟩ := bE h
 refine avc_tail (e := .normal) (S2 := ⟨[(0, .ptr 3000 0)], [(3000, .box 90 [.d (dsl eEntry a0.c.Entries), .d (dsl eGroup a0.c.Groups), .d (di a0.c.Base), .d (di a0.c.Second), .d (di a0.c.Third), .row 3105, .d (di a0.longest), .d (dsl eSpan y1), .d (di a0.top)]), (3105, .map (mapE kA9Int (eL eElement) a0.entries))]⟩) ?_ ?_
 ·
  refine ifM rfl hy1 (fun _ hy1 => ?_) (fun _ hy1 => ?_)
  ·
   refine avc_sq <| q125 ?_
   refine q7 L28_0 ?_
   refine q8 O22 ?_
   refine sqa (a_nil_ptr (lq rfl) rfl) ?_
   refine q56 L90_3 ?_
   refine q82 O22 ?_
   refine sq_nil ?_
   cases hy1
   exact out_mk (wc)
  ·
   refine avc_skip ?_
   cases hy1
   exact out_mk (wc)
 ·
  refine avc_sq2 <| avc_sq2 <| avc_sq <| q125 ?_
  refine sqa (a_nil_ptr (lq rfl) rfl) ?_
  refine q56 L90_3 ?_
  refine q33 O22 ?_
  refine q5 S22 ?_
  refine q0 ?_
  refine sq_nil <| avc_block ?_
  obtain ⟨y2, hy2, h⟩ := bE h
  refine avc_tail (e := (.exit 0)) (S2 := ⟨[(0, .ptr 3000 0)], [(3000, .box 90 [.d (dsl eEntry a0.c.Entries), .d (dsl eGroup a0.c.Groups), .d (di a0.c.Base), .d (di a0.c.Second), .d (di a0.c.Third), .row 3105, .d (di a0.longest), .d (dsl eSpan y1), .d (di y2)]), (3105, .map (mapE kA9Int (eL eElement) a0.entries))]⟩) ?_ ?_
  ·
   refine avc_loopM (fun x => ⟨[(0, .ptr 3000 0), (18, .d (dsl eSpan y1)), (19, .d (di (y1.length : Int))), (20, .d (di x.1))], [(3000, .box 90 [.d (dsl eEntry a0.c.Entries), .d (dsl eGroup a0.c.Groups), .d (di a0.c.Base), .d (di a0.c.Second), .d (di a0.c.Third), .row 3105, .d (di a0.longest), .d (dsl eSpan y1), .d (di x.2)]), (3105, .map (mapE kA9Int (eL eElement) a0.entries))]⟩) hy2 (wc) ?_
   rintro ⟨v20, k3000_8⟩ sy2 hsy2
   replace hsy2 : colltable_table_with_L0 y1 v20 k3000_8 = some sy2 := hsy2
   unfold colltable_table_with_L0 at hsy2
   refine avc_sq2 <| avc_sq <| q3 ?_
   refine sq_nil <| avc_sq2 ?_
   refine ifM rfl hsy2 (fun _ hsy2 => ?_) (fun _ hsy2 => ?_)
   ·
    refine avc_skip <| avc_sq2 <| avc_block <| avc_sq2 <| avc_sq ?_
    obtain ⟨t22, ht22, hsy2⟩ := bE hsy2
    refine q11 S22 ht22 ?_
    refine q126 G61 ht22 ?_
    refine q92 ?_
    refine q14 G61 ?_
    refine sq_nil ?_
    refine avc_weak (weak_freeze (t := 6) (lq rfl) rfl rfl rfl) ?_
    refine avc_draw 10 MX rfl ?_
    refine q104 ?_
    refine q104 ?_
    refine q105 ?_
    refine q73 L90_4 ?_
    refine q124 O3 ?_
    refine q19 L61_2 ?_
    refine q21 O3 ?_
    refine daa (a_max (lq rfl) rfl rfl) ?_
    refine q105 ?_
    refine q73 L90_4 ?_
    refine da_nil <| q82 O3 ?_
    refine sq_nil <| avc_sq <| q2 ?_
    refine q0 ?_
    refine sq_nil ?_
    cases hsy2
    exact wc
   ·
    refine avc_exit ?_
    cases hsy2
    intro q; cases q
    exact out_mk (wc)
  ·
   refine avc_sq2 <| avc_sq <| q125 ?_
   refine sqa (a_assign_ptr (lq rfl) rfl) ?_
   refine sq_nil ?_
   cases h
   refine avc_ret ?_
   exact ⟨⟨_, _, rfl, rfl, rfl⟩, ⟨rfl, rfl, trivial⟩⟩
theorem colltable_table_find_c  {a0} {a1}  {r} (h : colltable_table_find a0 a1 = some r) : Contract Tryz.prog 44 [(.pt (eColltable_table.cells a0)), (dsl eI a1)] [(dsl eElement r.1), (db r.2)] := by
 refine contract_of Tryz.func44 (by kernel_rfl) rfl (lq rfl) (lq rfl) fun w0 I0 hI0 hG0 => ?_
 unfold colltable_table_find at h
 refine avc_sq2 <| avc_sq <| q1 ?_
 refine q1 ?_
 refine sq_nil <| avc_sq2 <| avc_sq2 <| avc_sq <| q0 ?_
 refine q5 S33 ?_
 refine q39 ?_
 obtain ⟨b11, hb11, h⟩ := bE h
 refine sqa ((a_move_d (lq rfl) rfl).bool (Option.some.inj hb11)) ?_
 refine q32 (.d (dsl eI a1)) ?_
 refine q69 (.d (di (a1.length : Int))) S33 ?_
 refine q32 (.d (.pt (eColltable_table.cells a0))) ?_
 refine sqf (.d (.pt (eColltable_table.cells a0))) rfl (fun hb => by subst hb; exact a_nil_pt (lq rfl) rfl) ?_
 refine q23 (.ip (eColltable_table.cells a0) (0 + 6)) L90_2 ?_
 refine q24 (.d (di a0.longest)) O3 ?_
 refine q46 (.d (db (decide (a0.longest < (a1.length : Int))))) ?_
 refine q15 ?_
 refine sq_nil ?_
 refine ifM rfl h (fun _ h => ?_) (fun _ h => ?_)
 ·
  refine avc_sq2 <| avc_sq <| q1 ?_
  refine q1 ?_
  refine sq_nil ?_
  refine avc_weak (weak_nil_d (t := 4) eElement.size (lq rfl) rfl) ?_
  cases h
  refine avc_ret ?_
  exact ret_two rfl rfl
 ·
  refine avc_skip <| avc_sq2 ?_
  refine avc_drawA MX rfl ?_
  refine q4 ?_
  refine q95 ?_
  refine q19 L90_1 ?_
  refine q21 O88 ?_
  refine q4 ?_
  obtain ⟨t26, ht26, h⟩ := bE h
  refine q20 (colltable_keyOf_c ht26) ?_
  refine daa (m_lookup2F (kv := kA9Int) (ev := (eL eElement)) (mp := a0.entries) (k := t26) (zero := []) (lq rfl) M88 K92 rfl rfl (kAgg rfl) (fun _ _ => .nil _ _ _)) ?_
  refine q130 ?_
  refine q68 ?_
  refine q68 ?_
  refine q26 ?_
  refine q26 ?_
  refine da_nil <| avc_sq2 <| avc_sq <| q0 ?_
  refine q0 ?_
  refine q1 ?_
  refine q1 ?_
  refine sq_nil ?_
  cases h
  refine avc_ret ?_
  exact ret_two rfl rfl
theorem colltable_table_implicit_c  {a0} {a1}  {r} (h : colltable_table_implicit a0 a1 = some r) : Contract Tryz.prog 45 [(.pt (eColltable_table.cells a0)), (di a1)] [(dsl eElement r)] := by
 refine contract_of Tryz.func45 (by kernel_rfl) rfl (lq rfl) (lq rfl) fun w0 I0 hI0 hG0 => ?_
 unfold colltable_table_implicit at h
 refine avc_sq2 <| avc_sq <| q1 ?_
 refine sq_nil <| avc_sq2 <| avc_sq2 <| avc_sq <| q0 ?_
 obtain ⟨t6, ht6, h⟩ := bE h
 refine q6 (codepoint_Valid_c ht6) ?_
 refine q22 ?_
 refine sq_nil ?_
 refine ifM rfl h (fun _ h => ?_) (fun _ h => ?_)
 ·
  refine avc_sq2 <| avc_sq <| q1 ?_
  refine sq_nil ?_
  refine avc_weak (weak_nil_d (t := 4) eElement.size (lq rfl) rfl) ?_
  cases h
  refine avc_ret ?_
  exact ret_1 rfl
 ·
  refine avc_skip <| avc_sq2 ?_
  refine avc_drawA MX rfl ?_
  refine q4 ?_
  refine q95 ?_
  refine q19 L90_0 ?_
  refine q35 L32_2 ?_
  refine q21 O3 ?_
  refine q4 ?_
  obtain ⟨t14, ht14, h⟩ := bE h
  refine daa (m_quo (lq rfl) rfl rfl ht14) ?_
  refine q111 ?_
  refine q4 ?_
  refine q95 ?_
  refine q19 L90_0 ?_
  refine q35 L32_3 ?_
  refine q21 O3 ?_
  refine q4 ?_
  refine q95 ?_
  refine q19 L90_0 ?_
  refine q35 L32_4 ?_
  refine q21 O3 ?_
  refine daa (m_build (lq rfl) B63 rfl rfl) ?_
  refine q4 ?_
  obtain ⟨t28, ht28, h⟩ := bE h
  refine daa (m_rem (lq rfl) rfl rfl ht28) ?_
  refine q111 ?_
  refine daa (m_build (lq rfl) B63 rfl rfl) ?_
  refine q127 S38 ?_
  refine q26 ?_
  refine da_nil ?_
  cases h
  refine avc_ret ?_
  exact ret_1 rfl
theorem colltable_table_class_1_c  {a0} {a1} {a2}  {r} (h : colltable_table_class_1 a0 a1 a2 = some r) : Contract Tryz.prog 83 [(di a0), (.pt [(.pt (eColltable_table.cells a1))]), (.pt [(di a2)])] [(db r)] := by
 refine contract_of Tryz.func83 (by kernel_rfl) rfl (lq rfl) (lq rfl) fun w0 I0 hI0 hG0 => ?_
 unfold colltable_table_class_1 at h
 refine avc_sq2 <| avc_sq <| q1 ?_
 refine sq_nil <| avc_sq2 ?_
 refine avc_drawA MX rfl ?_
 refine q112 O66 ?_
 refine q95 ?_
 refine q19 L90_3 ?_
 refine q21 O22 ?_
 refine q4 ?_
 obtain ⟨t10, ht10, h⟩ := bE h
 refine q17 S22 ht10 ?_
 refine q35 L61_1 ?_
 refine daa (m_loadE (en := eSpan) (l := a1.classes) (i := a0) (v := t10) (off := 1) (lq rfl) O3 rfl ht10 rfl) ?_
 refine q112 O3 ?_
 refine daa (a_geq (lq rfl) rfl rfl) ?_
 refine q26 ?_
 refine da_nil ?_
 cases h
 refine avc_ret ?_
 exact ret_1 rfl
theorem sort_Search_c {fv1 : DV} {a0 : Int} {a1 : Int → Option (Bool)} (hf1 : ∀ x0 y, a1 x0 = some y → FnC Tryz.prog fv1 [(di x0)] [(db y)]) {r : Int} (h : sort_Search a0 a1 = some r) : Contract Tryz.prog 82 [(di a0), fv1] [(di r)] := by
 refine contract_of Tryz.func82 (by kernel_rfl) rfl (lq rfl) (lq rfl) fun w0 I0 hI0 hG0 => ?_
 unfold sort_Search at h
 refine avc_sq2 <| avc_sq <| q1 ?_
 refine sq_nil <| avc_sq2 <| avc_sq <| q0 ?_
 refine q1 ?_
 refine q1 ?_
 refine sq_nil <| avc_sq2 <| avc_block ?_
 obtain ⟨y1, hy1, h⟩ := bE h
 refine avc_tail (e := (.exit 0)) (S2 := ⟨[(5, .d (di y1))], []⟩) ?_ ?_
 ·
  refine avc_loopM (fun x => ⟨[(1, .d fv1), (5, .d (di x.1)), (6, .d (di x.2))], []⟩) hy1 (wc) ?_
  rintro ⟨v5, v6⟩ sy1 hsy1
  replace hsy1 : sort_Search_L0 a1 v5 v6 = some sy1 := hsy1
  unfold sort_Search_L0 at hsy1
  refine avc_sq2 <| avc_sq2 <| avc_sq <| q0 ?_
  refine q0 ?_
  refine q3 ?_
  refine sq_nil ?_
  refine ifM rfl hsy1 (fun _ hsy1 => ?_) (fun _ hsy1 => ?_)
  ·
   refine avc_skip ?_
   obtain ⟨y2, hy2, hsy1⟩ := bE hsy1
   refine avc_tail (e := .normal) (S2 := ⟨[(1, .d fv1), (5, .d (di y2.1)), (6, .d (di y2.2))], []⟩) ?_ ?_
   ·
    refine avc_block <| avc_sq2 <| avc_sq <| q0 ?_
    refine q0 ?_
    refine q2 ?_
    refine q45 Tryz.underlying3 Tryz.underlying141 ?_
    refine q63 ?_
    refine q45 Tryz.underlying141 Tryz.underlying3 ?_
    refine q1 ?_
    refine sq_nil <| avc_sq2 <| avc_sq <| q0 ?_
    refine q0 ?_
    obtain ⟨t20, ht20, hy2⟩ := bE hy2
    refine sqa (a_callF (lq rfl) rfl rfl (hf1 _ _ ht20)) ?_
    refine q22 ?_
    refine sq_nil ?_
    refine ifM rfl hy2 (fun _ hy2 => ?_) (fun _ hy2 => ?_)
    ·
     refine avc_sq <| q0 ?_
     refine q2 ?_
     refine q1 ?_
     refine sq_nil ?_
     cases hy2
     exact out_mk (wc)
    ·
     refine avc_sq <| q0 ?_
     refine q1 ?_
     refine sq_nil ?_
     cases hy2
     exact out_mk (wc)
   ·
    cases hsy1
    exact wc
  ·
   refine avc_exit ?_
   cases hsy1
   intro q; cases q
   exact out_mk (wc)
 ·
  refine avc_sq2 <| avc_sq <| q0 ?_
  refine q1 ?_
  refine sq_nil ?_
  cases h
  refine avc_ret ?_
  exact ret_1 rfl
theorem colltable_table_class_c  {a0} {a1}  {r} (h : colltable_table_class a0 a1 = some r) : Contract Tryz.prog 56 [(.pt (eColltable_table.cells a0)), (di a1)] [(di r)] := by
 refine contract_of Tryz.func56 (by kernel_rfl) rfl (lq rfl) (lq rfl) fun w0 I0 hI0 hG0 => ?_
 unfold colltable_table_class at h
 refine avc_sq2 <| avc_sq <| q48 ?_
 refine q48 ?_
 refine q1 ?_
 refine sq_nil <| avc_sq2 <| avc_sq <| q86 O66 ?_
 refine sqa (a_nil_pt (lq rfl) rfl) ?_
 refine q7 L90_3 ?_
 refine q8 O22 ?_
 refine q5 S22 ?_
 refine sqa (a_makeFunc (lq rfl) rfl) ?_
 obtain ⟨t12, ht12, h⟩ := bE h
 refine q6 (sort_Search_c (fun _ _ q => .inl ⟨_, _, rfl, colltable_table_class_1_c q⟩) ht12) ?_
 refine q1 ?_
 refine sq_nil <| avc_sq2 <| avc_sq2 ?_
 refine avc_drawA MX rfl ?_
 refine q4 ?_
 refine q112 O66 ?_
 refine q95 ?_
 refine q19 L90_3 ?_
 refine q21 O22 ?_
 refine daa (m_len (en := eSpan) (l := a0.classes) (lq rfl) S22 rfl) ?_
 refine q96 ?_
 obtain ⟨b20, hb20, h⟩ := bE h
 refine daa ((a_move_d (lq rfl) rfl).bool (Option.some.inj hb20)) ?_
 refine dat (.d (.pt (eColltable_table.cells a0))) rfl (fun hb => by subst hb; exact m_loadPt1 (lq rfl) O66 rfl) ?_
 refine dat (.d (.pt (eColltable_table.cells a0))) rfl (fun hb => by subst hb; exact a_nil_pt (lq rfl) rfl) ?_
 refine q40 (.ip (eColltable_table.cells a0) (0 + 7)) L90_3 ?_
 refine q55 (.d (dsl eSpan a0.classes)) O22 ?_
 refine q38 (.d (di t12)) ?_
 obtain ⟨t26, ht26, h⟩ := bE h
 refine q71 (.ip (eSpan.all a0.classes) (t12.toNat * eSpan.size)) S22 ht26 ?_
 refine q72 (.ip (eSpan.all a0.classes) (t12.toNat * eSpan.size + 0)) L61_0 ?_
 refine dat (.d (di t26.Lo)) rfl (fun hb => by subst hb; exact m_loadE (en := eSpan) (l := a0.classes) (i := t12) (v := t26) (off := 0) (lq rfl) O3 rfl ht26 rfl) ?_
 refine dat (.d (di a1)) rfl (fun hb => by subst hb; exact m_loadPt1 (lq rfl) O3 rfl) ?_
 refine dat (.d (db (decide (t26.Lo ≤ a1)))) rfl (fun hb => by subst hb; exact a_leq (lq rfl) rfl rfl) ?_
 refine q50 ?_
 refine da_nil ?_
 refine ifM rfl h (fun _ h => ?_) (fun _ h => ?_)
 ·
  refine avc_sq2 <| avc_sq <| q86 O66 ?_
  refine sqa (a_nil_pt (lq rfl) rfl) ?_
  refine q7 L90_3 ?_
  refine q8 O22 ?_
  refine q0 ?_
  obtain ⟨t37, ht37, h⟩ := bE h
  refine q11 S22 ht37 ?_
  refine q34 L61_2 ?_
  refine sqa (m_loadE (en := eSpan) (l := a0.classes) (i := t12) (v := t37) (off := 2) (lq rfl) O3 rfl ht37 rfl) ?_
  refine q1 ?_
  refine sq_nil ?_
  cases h
  refine avc_ret ?_
  exact ret_1 rfl
 ·
  refine avc_skip <| avc_sq2 <| avc_sq <| q1 ?_
  refine sq_nil ?_
  cases h
  refine avc_ret ?_
  exact ret_1 rfl
theorem colltable_table_match_g  {a0} {a1}  {r : Int × (List Element) × Bool × (List Int)} (h : colltable_table_match a0 a1 = some r) : GC Tryz.prog 30 [.d (.pt (eColltable_table.cells a0)), .row 3001] [(3001, .win 3 eI.size 0 (eI.all a1))] [3001] [.d (di r.1), .d (dsl eElement r.2.1), .d (db r.2.2.1)] [(3001, .win 3 eI.size r.1.toNat (eI.all r.2.2.2))] := by
 refine gc_of Tryz.func30 (by kernel_rfl) rfl (lq rfl) (lq rfl) fun w0 I0 hG0 p0 => ?_
 unfold colltable_table_match at h
 refine avc_sq2 <| avc_sq <| q1 ?_
 refine q1 ?_
 refine q1 ?_
 refine sq_nil <| avc_sq2 <| avc_sq <| q0 ?_
 refine sqa (a_nil_pt (lq rfl) rfl) ?_
 refine q7 L90_2 ?_
 refine q8 O3 ?_
 refine q9 ?_
 refine q113 S33 ?_
 refine q103 ?_
 refine q1 ?_
 refine sq_nil <| avc_sq2 <| avc_block ?_
 obtain ⟨y1, hy1, h⟩ := bE h
 refine avc_tail (e := (.exit 0)) (S2 := ⟨[(0, .d (.pt (eColltable_table.cells a0))), (1, .row 3001), (7, .d (di y1))], [(3001, .win 3 eI.size 0 (eI.all a1))]⟩) ?_ ?_
 ·
  refine avc_loopM (fun x => ⟨[(0, .d (.pt (eColltable_table.cells a0))), (1, .row 3001), (7, .d (di x))], [(3001, .win 3 eI.size 0 (eI.all a1))]⟩) hy1 (wc) ?_
  rintro v7 sy1 hsy1
  replace hsy1 : colltable_table_match_L0 a1 a0 v7 = some sy1 := hsy1
  unfold colltable_table_match_L0 at hsy1
  refine avc_sq2 <| avc_sq2 <| avc_sq <| q0 ?_
  refine q37 ?_
  refine sq_nil ?_
  refine ifM rfl hsy1 (fun _ hsy1 => ?_) (fun _ hsy1 => ?_)
  ·
   refine avc_skip <| avc_block <| avc_sq2 <| avc_sq2 <| avc_sq <| q0 ?_
   refine q9 ?_
   refine q0 ?_
   obtain ⟨t31, ht31, hsy1⟩ := bE hsy1
   refine sqa (m_sliceHW (en := eI) (l := a1) (lq rfl) S33 rfl rfl rfl ht31) ?_
   obtain ⟨t32, ht32, hsy1⟩ := bE hsy1
   refine sq_b rfl (s_callT (lq rfl) ⟨_, _, rfl, .d _, ⟨_, _, rfl, .front rfl ht31, rfl⟩⟩ (colltable_table_find_c ht32)) ?_
   refine sqa (a_move_tupc (lq rfl) rfl) ?_
   refine q75 ?_
   refine q75 ?_
   refine sqa (a_assign_top (lq rfl)) ?_
   refine q1 ?_
   refine sq_nil <| avc_sq2 <| avc_sq <| q0 ?_
   refine sq_nil ?_
   refine ifM rfl hsy1 (fun _ hsy1 => ?_) (fun _ hsy1 => ?_)
   ·
    refine avc_exit ?_
    cases hsy1
    intro q; cases q
    exact out_mk (wc)
   ·
    refine avc_skip <| avc_sq <| q0 ?_
    refine q25 ?_
    refine q1 ?_
    refine sq_nil ?_
    cases hsy1
    exact wc
  ·
   refine avc_exit ?_
   cases hsy1
   intro q; cases q
   exact out_mk (wc)
 ·
  refine avc_sq2 <| avc_sq2 <| avc_sq <| q0 ?_
  refine q39 ?_
  refine sq_nil ?_
  refine ifM rfl h (fun _ h => ?_) (fun _ h => ?_)
  ·
   refine avc_sq2 <| avc_sq <| q0 ?_
   refine q9 ?_
   obtain ⟨t42, ht42, h⟩ := bE h
   refine sqa (m_indexW (en := eI) (l := a1) (lq rfl) S33 rfl rfl rfl ht42) ?_
   refine sqa (m_loadW (en := eI) (l := a1) (i := (0 : Int)) (v := t42) (lq rfl) O3 rfl rfl ht42 rfl) ?_
   obtain ⟨t44, ht44, h⟩ := bE h
   refine q6 (colltable_table_implicit_c ht44) ?_
   refine q1 ?_
   refine q1 ?_
   refine q1 ?_
   refine sq_nil ?_
   refine avc_weak (weak_win_k (id := 3001) ((1 : Int).toNat) rfl (Nat.zero_le _)) ?_
   cases h
   refine avc_ret ?_
   exact ⟨⟨_, _, rfl, rfl, ⟨_, _, rfl, rfl, ⟨_, _, rfl, rfl, rfl⟩⟩⟩, ⟨rfl, trivial⟩⟩
  ·
   refine avc_skip <| avc_sq2 <| avc_sq <| q1 ?_
   refine sq_nil <| avc_sq2 <| avc_sq2 <| avc_sq <| q0 ?_
   refine q1 ?_
   refine sq_nil <| avc_block ?_
   obtain ⟨y2, hy2, h⟩ := bE h
   refine avc_tail (e := (.exit 2)) (S2 := ⟨[(0, .d (.pt (eColltable_table.cells a0))), (1, .row 3001), (7, .d (di y2.1))], [(3001, .win 3 eI.size 0 (eI.all y2.2))]⟩) ?_ ?_
   ·
    refine avc_loopM (fun x => ⟨[(0, .d (.pt (eColltable_table.cells a0))), (1, .row 3001), (7, .d (di x.1)), (10, .d (di x.2.1)), (11, .d (di x.2.2.1))], [(3001, .win 3 eI.size 0 (eI.all x.2.2.2))]⟩) hy2 (wc) ?_
    rintro ⟨v7, v10, v11, r3001⟩ sy2 hsy2
    replace hsy2 : colltable_table_match_L1 a0 v7 v10 v11 r3001 = some sy2 := hsy2
    unfold colltable_table_match_L1 at hsy2
    refine avc_sq2 <| avc_sq2 <| avc_sq <| q0 ?_
    refine q9 ?_
    refine q113 S33 ?_
    refine q3 ?_
    obtain ⟨b50, hb50, hsy2⟩ := bE hsy2
    refine sqa ((a_move_d (lq rfl) rfl).bool (Option.some.inj hb50)) ?_
    refine q10 (.d (di v10)) ?_
    refine q10 (.d (.pt (eColltable_table.cells a0))) ?_
    refine sqt (.d (.pt (eColltable_table.cells a0))) rfl (fun hb => by subst hb; exact a_nil_pt (lq rfl) rfl) ?_
    refine q47 (.ip (eColltable_table.cells a0) (0 + 8)) L90_4 ?_
    refine q49 (.d (di a0.top)) O3 ?_
    refine q54 (.d (db (decide (v10 < a0.top)))) ?_
    refine q12 ?_
    refine sq_nil ?_
    refine ifM rfl hsy2 (fun _ hsy2 => ?_) (fun _ hsy2 => ?_)
    ·
     refine avc_skip <| avc_sq2 ?_
     obtain ⟨y3, hy3, hsy2⟩ := bE hsy2
     refine avc_tail2 y3 (.exit 2) (fun y3 => ⟨[(0, .d (.pt (eColltable_table.cells a0))), (1, .row 3001), (7, .d (di v7))], [(3001, .win 3 eI.size 0 (eI.all r3001))]⟩) .normal (fun y3 => ⟨[(0, .d (.pt (eColltable_table.cells a0))), (1, .row 3001), (7, .d (di y3.1)), (10, .d (di y3.2.1)), (11, .d (di v11))], [(3001, .win 3 eI.size 0 (eI.all y3.2.2))]⟩) ?_ ?_ ?_
     ·
      refine avc_block <| avc_sq2 <| avc_sq <| q9 ?_
      refine q0 ?_
      obtain ⟨t62, ht62, hy3⟩ := bE hy3
      refine sqa (m_indexW (en := eI) (l := r3001) (lq rfl) S33 rfl rfl rfl ht62) ?_
      refine sqa (m_loadW (en := eI) (l := r3001) (i := v11) (v := t62) (lq rfl) O3 rfl rfl ht62 rfl) ?_
      refine q1 ?_
      refine sq_nil <| avc_sq2 <| avc_sq <| q0 ?_
      refine q0 ?_
      obtain ⟨t66, ht66, hy3⟩ := bE hy3
      refine q6 (colltable_table_class_c ht66) ?_
      refine q1 ?_
      refine sq_nil <| avc_sq2 <| avc_sq2 <| avc_sq <| q0 ?_
      refine q39 ?_
      refine sq_nil ?_
      refine ifM rfl hy3 (fun _ hy3 => ?_) (fun _ hy3 => ?_)
      ·
       refine avc_exit ?_
       cases hy3
       exact ⟨rfl, wc⟩
      ·
       refine avc_skip <| avc_sq2 <| avc_sq2 <| avc_sq <| q0 ?_
       refine q0 ?_
       refine q53 ?_
       refine sq_nil ?_
       refine ifM rfl hy3 (fun _ hy3 => ?_) (fun _ hy3 => ?_)
       ·
        refine avc_exit ?_
        cases hy3
        exact ⟨rfl, wc⟩
       ·
        refine avc_skip <| avc_sq2 <| avc_sq2 <| avc_sq <| q0 ?_
        refine q9 ?_
        refine q0 ?_
        refine q0 ?_
        obtain ⟨t77, ht77, hy3⟩ := bE hy3
        refine sqa (m_slice3W (en := eI) (l := r3001) (lq rfl) S33 rfl rfl rfl rfl ht77) ?_
        refine q0 ?_
        refine q31 S33 ?_
        obtain ⟨r80_4, hr80_4, hy3⟩ := bE hy3
        refine sq_b rfl (m_appendW (en := eI) (l := r3001) (b := v7) (lq rfl) S33 rfl rfl ht77 rfl (by simp) hr80_4 (by decide) rfl) ?_
        obtain ⟨t81, ht81, hy3⟩ := bE hy3
        refine sq_b rfl (s_call (lq rfl) rfl rfl (colltable_table_find_c ht81)) ?_
        refine q43 ?_
        refine q18 ?_
        refine q18 ?_
        refine q1 ?_
        refine q1 ?_
        refine sq_nil <| avc_sq2 <| avc_sq <| q0 ?_
        refine q22 ?_
        refine sq_nil ?_
        refine ifM rfl hy3 (fun _ hy3 => ?_) (fun _ hy3 => ?_)
        ·
         refine avc_sq2 <| avc_sq <| q0 ?_
         refine q1 ?_
         refine sq_nil <| avc_exit ?_
         cases hy3
         exact ⟨rfl, wc⟩
        ·
         refine avc_skip <| avc_sq2 ?_
         refine avc_draw 10 MX rfl ?_
         refine q58 ?_
         refine q4 ?_
         refine q111 ?_
         refine q4 ?_
         refine q111 ?_
         obtain ⟨t92, ht92, hy3⟩ := bE hy3
         refine daa (m_sliceW (en := eI) (l := r3001) (lq rfl) S33 rfl rfl rfl rfl ht92) ?_
         refine q58 ?_
         refine q4 ?_
         refine q4 ?_
         obtain ⟨t96, ht96, hy3⟩ := bE hy3
         refine daa (m_sliceW (en := eI) (l := r3001) (lq rfl) S33 rfl rfl rfl rfl ht96) ?_
         refine da_nil ?_
         refine sq_b rfl (m_copyW (en := eI) (l := r3001) (a1 := (wi (v7 + 1))) (b1 := (wi (v11 + 1))) (a2 := v7) (b2 := v11) (lq rfl) S33 rfl rfl rfl ht92 ht96 rfl) ?_
         refine sq_nil <| avc_sq2 <| avc_sq <| q9 ?_
         refine q0 ?_
         refine q0 ?_
         obtain ⟨t101, ht101, hy3⟩ := bE hy3
         refine sqa (m_indexW (en := eI) (l := (cpM r3001 (wi (v7 + 1)) (wi (v11 + 1)) v7 v11)) (lq rfl) S33 rfl rfl rfl ht101) ?_
         obtain ⟨r3001_5, hr3001_5, hy3⟩ := bE hy3
         refine sq_b rfl (m_storeW (en := eI) (l := (cpM r3001 (wi (v7 + 1)) (wi (v11 + 1)) v7 v11)) (i := v7) (v := t62) O3 rfl rfl rfl ht101 hr3001_5 rfl rfl rfl rfl) ?_
         refine sq_nil <| avc_sq <| q0 ?_
         refine q2 ?_
         refine q1 ?_
         refine sq_nil ?_
         cases hy3
         exact ⟨rfl, wc⟩
     ·
      rintro y3 rfl
      replace hsy2 := eL hsy2
      cases hsy2
      intro q; cases q
      exact out_mk (wc)
     ·
      rintro y3 rfl
      replace hsy2 := eR hsy2
      refine avc_sq <| q0 ?_
      refine q2 ?_
      refine q1 ?_
      refine sq_nil ?_
      cases hsy2
      exact wc
    ·
     refine avc_exit ?_
     cases hsy2
     intro q; cases q
     exact out_mk (wc)
   ·
    refine avc_sq2 <| avc_sq <| q0 ?_
    refine q9 ?_
    refine q0 ?_
    obtain ⟨t108, ht108, h⟩ := bE h
    refine sqa (m_sliceHW (en := eI) (l := y2.2) (lq rfl) S33 rfl rfl rfl ht108) ?_
    refine sq_weak (weak_front (tm := 108) (en := eI) (l := y2.2) (b := y2.1) (lq rfl) rfl rfl ht108) ?_ (by simp)
    obtain ⟨t109, ht109, h⟩ := bE h
    refine sq_b rfl ((a_call (lq rfl) rfl (colltable_table_find_c ht109)).step) ?_
    refine q43 ?_
    refine q18 ?_
    refine q18 ?_
    refine q1 ?_
    refine q1 ?_
    refine sq_nil <| avc_sq2 <| avc_sq <| q0 ?_
    refine q0 ?_
    refine q1 ?_
    refine q1 ?_
    refine q1 ?_
    refine sq_nil ?_
    cases h
    refine avc_ret ?_
    exact ⟨⟨_, _, rfl, rfl, ⟨_, _, rfl, rfl, ⟨_, _, rfl, rfl, rfl⟩⟩⟩, ⟨rfl, trivial⟩⟩
theorem slices_Clone_api_Element_api_Element_g {a0 r : (List Element)} (h : slices_Clone_api_Element_api_Element a0 = some r) : GC Tryz.prog 31 [.d (dsl eElement a0)] [] [] [.row 5] [(5, .row 63 eElement.size false (eElement.all r))] := by
 unfold slices_Clone_api_Element_api_Element at h
 cases a0 with
 | nil =>
  refine gc_empty (by decide) fun B c => ?_
  refine gc_of Tryz.func31 (by kernel_rfl) rfl (lq rfl) (lq rfl) fun w0 I0 hG0 p0 => ?_
  refine avc_sq2 <| avc_sq <| q1 ?_
  refine sq_nil <| avc_sq2 <| avc_sq2 <| avc_sq <| q0 ?_
  refine sqa (a_eqnil_v (lq rfl) Tryz.underlying38 rfl) ?_
  refine sq_nil ?_
  refine avc_if rfl ⟨fun c1 => ?_, fun c1 => ?_⟩
  ·
   obtain ⟨rfl, _⟩ := app_some h
   refine avc_sq2 <| avc_sq <| q1 ?_
   refine sq_nil ?_
   refine avc_weak (weak_nil (t := 2) 5 63 eElement.size (lq rfl) (lq rfl) rfl rfl) ?_
   refine avc_ret ?_
   exact ⟨⟨_, _, rfl, rfl, rfl⟩, rfl, trivial⟩
  ·
   refine avc_skip ?_
   refine avc_sq2 <| avc_sq <| q61 S38 ?_
   refine q0 ?_
   refine sq_weak (weak_empty_d (t := 6) eElement.size (lq rfl) rfl) ?_ (by simp)
   refine sq_b rfl (m_append (en := eElement) (l := []) (m := []) (lq rfl) S38 rfl rfl rfl h (by decide) (by decide) rfl rfl) ?_
   refine q13 ?_
   refine sq_nil <| avc_ret ?_
   exact ⟨⟨_, _, rfl, rfl, rfl⟩, rfl, trivial⟩
 | cons x l =>
  refine gc_of Tryz.func31 (by kernel_rfl) rfl (lq rfl) (lq rfl) fun w0 I0 hG0 p0 => ?_
  refine avc_sq2 <| avc_sq <| q1 ?_
  refine sq_nil <| avc_sq2 <| avc_sq2 <| avc_sq <| q0 ?_
  refine sqa (a_eqnil (lq rfl) Tryz.underlying38 rfl (all_ne (by decide))) ?_
  refine sq_nil ?_
  refine avc_if rfl ⟨fun c1 => (by cases c1), fun c1 => ?_⟩
  refine avc_skip <| avc_sq2 <| avc_sq <| q61 S38 ?_
  refine q0 ?_
  refine sq_b rfl (m_append (en := eElement) (l := []) (m := x :: l) (lq rfl) S38 rfl rfl rfl h (by decide) (by decide) rfl rfl) ?_
  refine q13 ?_
  refine sq_nil <| avc_ret ?_
  exact ⟨⟨_, _, rfl, rfl, rfl⟩, rfl, trivial⟩
end Go.Proofs.YtgeaoceiacdadaaGreatDoor.Walk


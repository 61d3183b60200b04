/- Each function of the program answers as its plain counterpart does, where that answers. Conditions: none. -/
import Derived.Test.YtgeaoceiacdadaaGreatDoorMir
import Derived.Test.YtgeaoceiacdadaaGreatDoorProg
set_option linter.unusedSimpArgs false
set_option linter.unusedVariables false
set_option linter.unnecessarySimpa false
namespace Go.Proofs.YtgeaoceiacdadaaGreatDoor.Walk
open Go.AV Go.M Go.RowKit Go.Proofs
theorem zM7 : ArTy Tryz.prog 132 3 1 3 [(.int IntKind.i64 (0)), (.int IntKind.i64 (0)), (.int IntKind.i64 (0))] := ArTy.of Tryz.underlying132 (by kernel_rfl) (by decide) (by kernel_rfl) rfl
theorem yGT : ArTy Tryz.prog 133 4 2 123 [(.int IntKind.i64 (0)), (.int IntKind.i64 (0)), (.int IntKind.i64 (0)), (.int IntKind.i64 (0)), (.int IntKind.i64 (0)), (.int IntKind.i64 (0)), (.int IntKind.i64 (0)), (.int IntKind.i64 (0))] := ArTy.of Tryz.underlying133 (by kernel_rfl) (by decide) (by kernel_rfl) rfl
theorem A92 : ArTy Tryz.prog 92 9 1 3 [(.int IntKind.i64 (0)), (.int IntKind.i64 (0)), (.int IntKind.i64 (0)), (.int IntKind.i64 (0)), (.int IntKind.i64 (0)), (.int IntKind.i64 (0)), (.int IntKind.i64 (0)), (.int IntKind.i64 (0)), (.int IntKind.i64 (0))] := ArTy.of Tryz.underlying92 (by kernel_rfl) (by decide) (by kernel_rfl) rfl
theorem zWI : StTy Tryz.prog 123 [(0, 1), (1, 1)] [(.int IntKind.i64 (0)), (.int IntKind.i64 (0))] := fx Tryz.underlying123
theorem yGU : StTy Tryz.prog 137 [(0, 1), (1, 1)] [(.int IntKind.i64 (0)), (.string ⟨#[]⟩)] := fx Tryz.underlying137
theorem B26 : StTy Tryz.prog 26 [(0, 1)] [(.slice none 0 0)] := fx Tryz.underlying26
theorem B28 : StTy Tryz.prog 28 [(0, 1), (1, 1), (2, 1)] [(.slice none 0 0), (.slice none 0 0), (.slice none 0 0)] := fx Tryz.underlying28
theorem B32 : StTy Tryz.prog 32 [(0, 1), (1, 1), (2, 1), (3, 1), (4, 1)] [(.slice none 0 0), (.slice none 0 0), (.int IntKind.i64 (0)), (.int IntKind.i64 (0)), (.int IntKind.i64 (0))] := fx Tryz.underlying32
theorem B45 : StTy Tryz.prog 45 [(0, 1), (1, 1)] [(.slice none 0 0), (.slice none 0 0)] := fx Tryz.underlying45
theorem B61 : StTy Tryz.prog 61 [(0, 1), (1, 1), (2, 1)] [(.int IntKind.i64 (0)), (.int IntKind.i64 (0)), (.int IntKind.i64 (0))] := fx Tryz.underlying61
theorem B63 : StTy Tryz.prog 63 [(0, 1), (1, 1), (2, 1), (3, 1)] [(.int IntKind.i64 (0)), (.int IntKind.i64 (0)), (.int IntKind.i64 (0)), (.bool false)] := fx Tryz.underlying63
theorem B90 : StTy Tryz.prog 90 [(0, 5), (5, 1), (6, 1), (7, 1), (8, 1)] [(.slice none 0 0), (.slice none 0 0), (.int IntKind.i64 (0)), (.int IntKind.i64 (0)), (.int IntKind.i64 (0)), (.map none), (.int IntKind.i64 (0)), (.slice none 0 0), (.int IntKind.i64 (0))] := fx Tryz.underlying90
theorem zJI : AggTy Tryz.prog 103 3 := fx Tryz.underlying103
theorem zWJ : AggTy Tryz.prog 110 3 := fx Tryz.underlying110
theorem zBP : AggTy Tryz.prog 123 2 := fx Tryz.underlying123
theorem zWK : AggTy Tryz.prog 132 3 := fx Tryz.underlying132
theorem yGY : AggTy Tryz.prog 133 8 := fx Tryz.underlying133
theorem yFB : AggTy Tryz.prog 137 2 := fx Tryz.underlying137
theorem G26 : AggTy Tryz.prog 26 1 := fx Tryz.underlying26
theorem G28 : AggTy Tryz.prog 28 3 := fx Tryz.underlying28
theorem G32 : AggTy Tryz.prog 32 5 := fx Tryz.underlying32
theorem G35 : AggTy Tryz.prog 35 9 := fx Tryz.underlying35
theorem G45 : AggTy Tryz.prog 45 2 := fx Tryz.underlying45
theorem G61 : AggTy Tryz.prog 61 3 := fx Tryz.underlying61
theorem G63 : AggTy Tryz.prog 63 4 := fx Tryz.underlying63
theorem G92 : AggTy Tryz.prog 92 9 := fx Tryz.underlying92
theorem K3 : KeyTy Tryz.prog 3 kI := yC2 Tryz.underlying3
theorem K9 : KeyTy Tryz.prog 9 kS := yC3 Tryz.underlying9
theorem zED : FldTy Tryz.prog 103 0 0 1 3 := fx Tryz.underlying103
theorem zCE : FldTy Tryz.prog 103 1 1 1 33 := fx Tryz.underlying103
theorem zA7 : FldTy Tryz.prog 103 2 2 1 9 := fx Tryz.underlying103
theorem zM8 : FldTy Tryz.prog 110 0 0 1 9 := fx Tryz.underlying110
theorem zM9 : FldTy Tryz.prog 110 1 1 1 3 := fx Tryz.underlying110
theorem zNA : FldTy Tryz.prog 110 2 2 1 3 := fx Tryz.underlying110
theorem zG8 : FldTy Tryz.prog 123 0 0 1 3 := fx Tryz.underlying123
theorem zDP : FldTy Tryz.prog 123 1 1 1 3 := fx Tryz.underlying123
theorem zHI : FldTy Tryz.prog 26 0 0 1 24 := fx Tryz.underlying26
theorem uM : FldTy Tryz.prog 28 0 0 1 22 := fx Tryz.underlying28
theorem zP2 : FldTy Tryz.prog 28 1 1 1 23 := fx Tryz.underlying28
theorem z5T : FldTy Tryz.prog 28 2 2 1 26 := fx Tryz.underlying28
theorem zWL : FldTy Tryz.prog 32 0 0 1 29 := fx Tryz.underlying32
theorem zP3 : FldTy Tryz.prog 32 1 1 1 30 := fx Tryz.underlying32
theorem zKT : FldTy Tryz.prog 32 2 2 1 3 := fx Tryz.underlying32
theorem z0E : FldTy Tryz.prog 32 3 3 1 3 := fx Tryz.underlying32
theorem z0F : FldTy Tryz.prog 32 4 4 1 3 := fx Tryz.underlying32
theorem zWM : FldTy Tryz.prog 35 0 0 3 28 := fx Tryz.underlying35
theorem zWN : FldTy Tryz.prog 35 1 3 5 32 := fx Tryz.underlying35
theorem zWO : FldTy Tryz.prog 35 2 8 1 33 := fx Tryz.underlying35
theorem zF5 : FldTy Tryz.prog 45 0 0 1 33 := fx Tryz.underlying45
theorem zJJ : FldTy Tryz.prog 45 1 1 1 38 := fx Tryz.underlying45
theorem zHJ : FldTy Tryz.prog 61 0 0 1 3 := fx Tryz.underlying61
theorem zHK : FldTy Tryz.prog 61 1 1 1 3 := fx Tryz.underlying61
theorem zIK : FldTy Tryz.prog 61 2 2 1 3 := fx Tryz.underlying61
theorem zN1 : FldTy Tryz.prog 63 0 0 1 3 := fx Tryz.underlying63
theorem zSS : FldTy Tryz.prog 63 1 1 1 3 := fx Tryz.underlying63
theorem zST : FldTy Tryz.prog 63 2 2 1 3 := fx Tryz.underlying63
theorem yBV : FldTy Tryz.prog 63 3 3 1 4 := fx Tryz.underlying63
theorem z5U : FldTy Tryz.prog 90 0 0 5 32 := fx Tryz.underlying90
theorem yBW : FldTy Tryz.prog 90 1 5 1 88 := fx Tryz.underlying90
theorem z0G : FldTy Tryz.prog 90 2 6 1 3 := fx Tryz.underlying90
theorem zP4 : FldTy Tryz.prog 90 3 7 1 22 := fx Tryz.underlying90
theorem z5V : FldTy Tryz.prog 90 4 8 1 3 := fx Tryz.underlying90
theorem yFC : MapTy Tryz.prog 112 9 4 (.bool false) := MapTy.of Tryz.underlying112 (by kernel_rfl)
theorem yFD : MapTy Tryz.prog 135 137 4 (.bool false) := MapTy.of Tryz.underlying135 (by kernel_rfl)
theorem yDB : MapTy Tryz.prog 140 3 3 (.int IntKind.i64 (0)) := MapTy.of Tryz.underlying140 (by kernel_rfl)
theorem M88 : MapTy Tryz.prog 88 92 38 (.slice none 0 0) := MapTy.of Tryz.underlying88 (by kernel_rfl)
theorem M96 : MapTy Tryz.prog 96 3 33 (.slice none 0 0) := MapTy.of Tryz.underlying96 (by kernel_rfl)
theorem z9A : OneTy Tryz.prog 140 := fx Tryz.underlying140
theorem O22 : OneTy Tryz.prog 22 := fx Tryz.underlying22
theorem O23 : OneTy Tryz.prog 23 := fx Tryz.underlying23
theorem O24 : OneTy Tryz.prog 24 := fx Tryz.underlying24
theorem O29 : OneTy Tryz.prog 29 := fx Tryz.underlying29
theorem O3 : OneTy Tryz.prog 3 := fx Tryz.underlying3
theorem O30 : OneTy Tryz.prog 30 := fx Tryz.underlying30
theorem O33 : OneTy Tryz.prog 33 := fx Tryz.underlying33
theorem O38 : OneTy Tryz.prog 38 := fx Tryz.underlying38
theorem O4 : OneTy Tryz.prog 4 := fx Tryz.underlying4
theorem O66 : OneTy Tryz.prog 66 := fx Tryz.underlying66
theorem O74 : OneTy Tryz.prog 74 := fx Tryz.underlying74
theorem O88 : OneTy Tryz.prog 88 := fx Tryz.underlying88
theorem O9 : OneTy Tryz.prog 9 := fx Tryz.underlying9
theorem O94 : OneTy Tryz.prog 94 := fx Tryz.underlying94
theorem O96 : OneTy Tryz.prog 96 := fx Tryz.underlying96
theorem z9B : SlTy Tryz.prog 104 4 1 1 (.bool false) := fx Tryz.underlying104
theorem z9C : SlTy Tryz.prog 150 33 1 24 (.slice none 0 0) := fx Tryz.underlying150
theorem S22 : SlTy Tryz.prog 22 61 3 24 (.agg #[(.int IntKind.i64 (0)), (.int IntKind.i64 (0)), (.int IntKind.i64 (0))]) := fx Tryz.underlying22
theorem S23 : SlTy Tryz.prog 23 103 3 48 (.agg #[(.int IntKind.i64 (0)), (.slice none 0 0), (.string ⟨#[]⟩)]) := fx Tryz.underlying23
theorem S24 : SlTy Tryz.prog 24 123 2 16 (.agg #[(.int IntKind.i64 (0)), (.int IntKind.i64 (0))]) := fx Tryz.underlying24
theorem S29 : SlTy Tryz.prog 29 45 2 48 (.agg #[(.slice none 0 0), (.slice none 0 0)]) := fx Tryz.underlying29
theorem S30 : SlTy Tryz.prog 30 110 3 32 (.agg #[(.string ⟨#[]⟩), (.int IntKind.i64 (0)), (.int IntKind.i64 (0))]) := fx Tryz.underlying30
theorem yF : SlTy Tryz.prog 33 3 1 8 (.int IntKind.i64 (0)) := fx Tryz.underlying33
theorem S38 : SlTy Tryz.prog 38 63 4 32 (.agg #[(.int IntKind.i64 (0)), (.int IntKind.i64 (0)), (.int IntKind.i64 (0)), (.bool false)]) := fx Tryz.underlying38
theorem Z0 : zBA Tryz.prog 0 = some [.int .i64 4352, .int .i64 4370, .int .i64 4449, .int .i64 4469, .int .i64 4520, .int .i64 4546, .int .i64 44032, .int .i64 55203] := by kernel_rfl
set_option maxRecDepth 10000 in
theorem yFG : EqTy Tryz.prog 123 eRange := EqTy.of (vals := fun (x : Range) => [.int IntKind.i64 x.Lo, .int IntKind.i64 x.Hi]) (cs := fun (a b : Range) => [decide (a.Lo = b.Lo), decide (a.Hi = b.Hi)]) Tryz.underlying123 (by kernel_rfl) (by kernel_rfl) (fun _ => rfl) (fun a b w => (zJ2 (d := 9998) rfl O3 (zJ2 (d := 9998) rfl O3 zTK Tryz.underlying3 rfl rfl) Tryz.underlying3 rfl rfl)) (fun a b => by cases a; cases b; simp)
theorem yG2 : EqTy Tryz.prog 132 eA3Int := EqTy.ofA (vals := fun (x : A3Int) => [.int IntKind.i64 x.x0, .int IntKind.i64 x.x1, .int IntKind.i64 x.x2]) (cs := fun (a b : A3Int) => [decide (a.x0 = b.x0), decide (a.x1 = b.x1), decide (a.x2 = b.x2)]) zM7 O3 (by kernel_rfl) (fun _ => rfl) (fun a b w => (Pw.cons ⟨_, _, rfl, rfl, Go.AV.run_equalIn_int Tryz.underlying3 _ _ _ _⟩ (Pw.cons ⟨_, _, rfl, rfl, Go.AV.run_equalIn_int Tryz.underlying3 _ _ _ _⟩ (Pw.cons ⟨_, _, rfl, rfl, Go.AV.run_equalIn_int Tryz.underlying3 _ _ _ _⟩ Pw.nil)))) (fun a b => by cases a; cases b; simp)
set_option maxRecDepth 10000 in
theorem yG3 : EqTy Tryz.prog 137 eMapping_key := EqTy.of (vals := fun (x : Mapping_key) => [.int IntKind.i64 x.from_, .string ⟨x.tag.toArray⟩]) (cs := fun (a b : Mapping_key) => [decide (a.from_ = b.from_), decide (a.tag = b.tag)]) Tryz.underlying137 (by kernel_rfl) (by kernel_rfl) (fun _ => rfl) (fun a b w => (zJ2 (d := 9998) rfl O3 (z8V (d := 9998) rfl O9 zTK Tryz.underlying9 rfl rfl) Tryz.underlying3 rfl rfl)) (fun a b => by cases a; cases b; simp)
set_option maxRecDepth 10000 in
theorem E63 : EqTy Tryz.prog 63 eElement := EqTy.of (vals := fun (x : Element) => [.int IntKind.i64 x.Primary, .int IntKind.i64 x.Secondary, .int IntKind.i64 x.Tertiary, .bool x.Variable]) (cs := fun (a b : Element) => [decide (a.Primary = b.Primary), decide (a.Secondary = b.Secondary), decide (a.Tertiary = b.Tertiary), decide (a.Variable = b.Variable)]) Tryz.underlying63 (by kernel_rfl) (by kernel_rfl) (fun _ => rfl) (fun a b w => (zJ2 (d := 9998) rfl O3 (zJ2 (d := 9998) rfl O3 (zJ2 (d := 9998) rfl O3 (z5C (d := 9998) rfl O4 zTK Tryz.underlying4 rfl rfl) Tryz.underlying3 rfl rfl) Tryz.underlying3 rfl rfl) Tryz.underlying3 rfl rfl)) (fun a b => by cases a; cases b; simp)
theorem E92 : EqTy Tryz.prog 92 eA9Int := EqTy.ofA (vals := fun (x : A9Int) => [.int IntKind.i64 x.x0, .int IntKind.i64 x.x1, .int IntKind.i64 x.x2, .int IntKind.i64 x.x3, .int IntKind.i64 x.x4, .int IntKind.i64 x.x5, .int IntKind.i64 x.x6, .int IntKind.i64 x.x7, .int IntKind.i64 x.x8]) (cs := fun (a b : A9Int) => [decide (a.x0 = b.x0), decide (a.x1 = b.x1), decide (a.x2 = b.x2), decide (a.x3 = b.x3), decide (a.x4 = b.x4), decide (a.x5 = b.x5), decide (a.x6 = b.x6), decide (a.x7 = b.x7), decide (a.x8 = b.x8)]) A92 O3 (by kernel_rfl) (fun _ => rfl) (fun a b w => (Pw.cons ⟨_, _, rfl, rfl, Go.AV.run_equalIn_int Tryz.underlying3 _ _ _ _⟩ (Pw.cons ⟨_, _, rfl, rfl, Go.AV.run_equalIn_int Tryz.underlying3 _ _ _ _⟩ (Pw.cons ⟨_, _, rfl, rfl, Go.AV.run_equalIn_int Tryz.underlying3 _ _ _ _⟩ (Pw.cons ⟨_, _, rfl, rfl, Go.AV.run_equalIn_int Tryz.underlying3 _ _ _ _⟩ (Pw.cons ⟨_, _, rfl, rfl, Go.AV.run_equalIn_int Tryz.underlying3 _ _ _ _⟩ (Pw.cons ⟨_, _, rfl, rfl, Go.AV.run_equalIn_int Tryz.underlying3 _ _ _ _⟩ (Pw.cons ⟨_, _, rfl, rfl, Go.AV.run_equalIn_int Tryz.underlying3 _ _ _ _⟩ (Pw.cons ⟨_, _, rfl, rfl, Go.AV.run_equalIn_int Tryz.underlying3 _ _ _ _⟩ (Pw.cons ⟨_, _, rfl, rfl, Go.AV.run_equalIn_int Tryz.underlying3 _ _ _ _⟩ Pw.nil)))))))))) (fun a b => by cases a; cases b; simp)
theorem yFH : KeyTy Tryz.prog 137 zFG := z5H (vals := fun (x : Mapping_key) => [.int IntKind.i64 x.from_, .string ⟨x.tag.toArray⟩]) Tryz.underlying137 yG3 (fun _ => rfl) (fun _ => rfl) (fun _ => rfl) (fun _ => by simp [Instr.sameBits, zPU]) (fun a b w => zYQ Tryz.underlying137 (List.forall_mem_cons.2 ⟨⟨O3, ⟨_, Tryz.underlying3, rfl⟩, lq rfl⟩, (List.forall_mem_cons.2 ⟨⟨O9, ⟨_, Tryz.underlying9, rfl⟩, lq rfl⟩, (fun _ h => by cases h)⟩)⟩) b w)
theorem K92 : KeyTy Tryz.prog 92 zDJ := z5H (vals := fun (x : A9Int) => [.int IntKind.i64 x.x0, .int IntKind.i64 x.x1, .int IntKind.i64 x.x2, .int IntKind.i64 x.x3, .int IntKind.i64 x.x4, .int IntKind.i64 x.x5, .int IntKind.i64 x.x6, .int IntKind.i64 x.x7, .int IntKind.i64 x.x8]) Tryz.underlying92 E92 (fun _ => rfl) (fun _ => rfl) (fun _ => rfl) (fun _ => by simp [Instr.sameBits, zPU]) (fun a b w => z2K A92 O3 Tryz.underlying3 rfl rfl b w)
theorem MX : Tryz.prog.follows .mixedOrders = true := by kernel_rfl
section
variable {P : Program} {r : Option Nat} {E : Env} {S S' : AState} {ops : Array Oper} {o : Oper} {rest : List Oper} {J : AState → Prop} {d j t : Nat} {x : AV} {b : Bool} {G H I : Prop}
theorem q0 (k : H) (h : H → G := by exact fun k => yH (zC (lq rfl) rfl) k) : G := h k
theorem q1 (k : H) (h : H → G := by exact fun k => yH (zKZ (lq rfl) rfl) k) : G := h k
theorem q2 (k : H) (h : H → G := by exact fun k => yH (zSF (lq rfl) rfl rfl) k) : G := h k
theorem q3 (k : H) (h : H → G := by exact fun k => yH (zLP (lq rfl) rfl rfl) k) : G := h k
theorem q4 (k : H) (h : H → G := by exact fun k => w8 (zC (lq rfl) rfl) k) : G := h k
theorem q5 {F0 : Prop} (f0 : F0) (k : H) (h : F0 → H → G := by exact fun f0 k => yH (zPR (lq rfl) f0 rfl) k) : G := h f0 k
theorem q6 {F0 : Prop} (f0 : F0) (k : H) (h : F0 → H → G := by exact fun f0 k => yH (wA (lq rfl) rfl f0) k) : G := h f0 k
theorem q7 {F0 : Prop} (f0 : F0) (k : H) (h : F0 → H → G := by exact fun f0 k => yH (wD (lq rfl) f0 rfl) k) : G := h f0 k
theorem q8 {F0 : Prop} (f0 : F0) (k : H) (h : F0 → H → G := by exact fun f0 k => yH (xU (lq rfl) f0 rfl rfl) k) : G := h f0 k
theorem q9 {F0 : Prop} (f0 : F0) (k : H) (h : F0 → H → G := by exact fun f0 k => xd rfl (zL1 f0 rfl rfl rfl rfl rfl rfl) k) : G := h f0 k
theorem q10 (k : H) (h : H → G := by exact fun k => xc rfl (zKZ (lq rfl) rfl) k) : G := h k
theorem q11 (k : H) (h : H → G := by exact fun k => yH (zFV (lq rfl) rfl) k) : G := h k
theorem q12 (x : AV) (k : Sq P r E ops rest (S.put d (.cond (gd true b) x)) J) (ha : GdO o ops S E j t d b true := by exact rfl) (h : b = true → AOp P r E S o d x := by exact fun hb => by subst hb; exact zC (lq rfl) rfl) : Sq P r E ops (o :: rest) S J := sqt x ha h k
theorem q13 {F0 : Prop} (f0 : F0) {F1 : Prop} (f1 : F1) (k : H) (h : F0 → F1 → H → G := by exact fun f0 f1 k => yH (kJ (lq rfl) f0 rfl rfl f1) k) : G := h f0 f1 k
theorem q14 (k : H) (h : H → G := by exact fun k => yH (zD0 (lq rfl) rfl rfl) k) : G := h k
theorem q15 {F0 : Prop} (f0 : F0) {F1 : Prop} (f1 : F1) (k : H) (h : F0 → F1 → H → G := by exact fun f0 f1 k => xc rfl (zEQ (lq rfl) f0 rfl rfl rfl f1) k) : G := h f0 f1 k
theorem q16 (k : H) (h : H → G := by exact fun k => yH (zLS (lq rfl) rfl) k) : G := h k
theorem q17 {F0 : Prop} (f0 : F0) (k : H) (h : F0 → H → G := by exact fun f0 k => yW rfl (zL1 f0 rfl rfl rfl rfl rfl rfl) k) : G := h f0 k
theorem q18 {F0 : Prop} (f0 : F0) {F1 : Prop} (f1 : F1) {F2 : Prop} (f2 : F2) (k : H) (h : F0 → F1 → F2 → H → G := by exact fun f0 f1 f2 k => xd rfl (zWC f0 rfl rfl rfl f1 f2 rfl rfl rfl rfl) k) : G := h f0 f1 f2 k
theorem q19 (k : H) (h : H → G := by exact fun k => yH (zM0 (lq rfl) rfl rfl) k) : G := h k
theorem q20 {F0 : Prop} (f0 : F0) (k : H) (h : F0 → H → G := by exact fun f0 k => yH (zLW (lq rfl) f0 rfl rfl) k) : G := h f0 k
theorem q21 {F0 : Prop} (f0 : F0) {F1 : Prop} (f1 : F1) (k : H) (h : F0 → F1 → H → G := by exact fun f0 f1 k => w8 (kJ (lq rfl) f0 rfl rfl f1) k) : G := h f0 f1 k
theorem q22 (k : H) (h : H → G := by exact fun k => yH (zR2 (lq rfl) rfl rfl) k) : G := h k
theorem q23 {F0 : Prop} (f0 : F0) (k : H) (h : F0 → H → G := by exact fun f0 k => w8 (wD (lq rfl) f0 rfl) k) : G := h f0 k
theorem q24 {F0 : Prop} (f0 : F0) (k : H) (h : F0 → H → G := by exact fun f0 k => xc rfl (wA (lq rfl) rfl f0) k) : G := h f0 k
theorem q25 {F0 : Prop} (f0 : F0) (k : H) (h : F0 → H → G := by exact fun f0 k => w8 (wA (lq rfl) rfl f0) k) : G := h f0 k
theorem q26 {F0 : Prop} (f0 : F0) {F1 : Prop} (f1 : F1) (k : H) (h : F0 → F1 → H → G := by exact fun f0 f1 k => xc rfl (zH7 (lq rfl) f0 rfl rfl f1 rfl) k) : G := h f0 f1 k
theorem q27 {F0 : Prop} (f0 : F0) (k : H) (h : F0 → H → G := by exact fun f0 k => w8 (xU (lq rfl) f0 rfl rfl) k) : G := h f0 k
theorem q28 (k : H) (h : H → G := by exact fun k => yH (zR1 (lq rfl) rfl) k) : G := h k
theorem q29 (x : AV) {F0 : Prop} (f0 : F0) (k : Sq P r E ops rest (S.put d (.cond (gd false b) x)) J) (ha : GdO o ops S E j t d b false := by exact rfl) (h : F0 → b = false → AOp P r E S o d x := by exact fun f0 hb => by subst hb; exact wD (lq rfl) f0 rfl) : Sq P r E ops (o :: rest) S J := sqf x ha (h f0) k
theorem q30 (x : AV) {F0 : Prop} (f0 : F0) (k : Sq P r E ops rest (S.put d (.cond (gd false b) x)) J) (ha : GdO o ops S E j t d b false := by exact rfl) (h : F0 → b = false → AOp P r E S o d x := by exact fun f0 hb => by subst hb; exact xU (lq rfl) f0 rfl rfl) : Sq P r E ops (o :: rest) S J := sqf x ha (h f0) k
theorem q31 (k : H) (h : H → G := by exact fun k => yH (zSG (lq rfl) rfl rfl) k) : G := h k
theorem q32 (k : H) (h : H → G := by exact fun k => w8 (zKZ (lq rfl) rfl) k) : G := h k
theorem q33 (k : H) (h : H → G := by exact fun k => yH (zNV (lq rfl) rfl rfl) k) : G := h k
theorem q34 (k : H) (h : H → G := by exact fun k => yH (zLX (size := 3) (lq rfl) rfl rfl) k) : G := h k
theorem q35 {F0 : Prop} (f0 : F0) {F1 : Prop} (f1 : F1) (k : H) (h : F0 → F1 → H → G := by exact fun f0 f1 k => yH (z0 (en := eI) (off := 0) (lq rfl) f0 rfl f1 rfl) k) : G := h f0 f1 k
theorem q36 (k : H) (h : H → G := by exact fun k => xd rfl (kO (zs := [(.int IntKind.i64 (0)), (.int IntKind.i64 (0)), (.int IntKind.i64 (0))]) (lq rfl) (by kernel_rfl) rfl rfl) k) : G := h k
theorem q37 (k : H) (h : H → G := by exact fun k => yH (zI3 (lq rfl) rfl rfl) k) : G := h k
theorem q38 {F0 : Prop} (f0 : F0) (k : H) (h : F0 → H → G := by exact fun f0 k => yH (z4U (lq rfl) f0 rfl rfl rfl rfl (by decide) rfl) k) : G := h f0 k
theorem q39 (x : AV) (k : Sq P r E ops rest (S.put d (.cond (gd false b) x)) J) (ha : GdO o ops S E j t d b false := by exact rfl) (h : b = false → AOp P r E S o d x := by exact fun hb => by subst hb; exact zC (lq rfl) rfl) : Sq P r E ops (o :: rest) S J := sqf x ha h k
theorem q40 {F0 : Prop} (f0 : F0) (k : H) (h : F0 → H → G := by exact fun f0 k => yH (zC4 (lq rfl) f0 rfl rfl rfl) k) : G := h f0 k
theorem q41 {F0 : Prop} (f0 : F0) {F1 : Prop} (f1 : F1) (k : H) (m : I) (h : F0 → F1 → H → I → G := by exact fun f0 f1 k m => xa rfl (xE (en := eSpan) (off := 0) (lq rfl) f0 rfl f1 rfl rfl (by decide)) k m) : G := h f0 f1 k m
theorem q42 {F0 : Prop} (f0 : F0) (k : H) (h : F0 → H → G := by exact fun f0 k => xc rfl (zLW (lq rfl) f0 rfl rfl) k) : G := h f0 k
theorem q43 (k : H) (h : H → G := by exact fun k => xd rfl (kO (zs := [(.slice none 0 0), (.slice none 0 0), (.int IntKind.i64 (0)), (.int IntKind.i64 (0)), (.int IntKind.i64 (0))]) (lq rfl) (by kernel_rfl) rfl rfl) k) : G := h k
theorem q44 {F0 : Prop} (f0 : F0) (k : H) (h : F0 → H → G := by exact fun f0 k => yH (xD (lq rfl) f0 rfl) k) : G := h f0 k
theorem q45 {F0 : Prop} (f0 : F0) (k : H) (h : F0 → H → G := by exact fun f0 k => w8 (xD (lq rfl) f0 rfl) k) : G := h f0 k
theorem q46 (x : AV) (k : DA P r E ops rest (S.put d (.cond (gd false b) x)) J) (ha : GdO o ops S E j t d b false := by exact rfl) (h : b = false → AOp P r E S o d x := by exact fun hb => by subst hb; exact zC (lq rfl) rfl) : DA P r E ops (o :: rest) S J := daf x ha h k
theorem q47 {F0 : Prop} (f0 : F0) {F1 : Prop} (f1 : F1) (k : H) (m : I) (h : F0 → F1 → H → I → G := by exact fun f0 f1 k m => xa rfl (zZ3 (lq rfl) f0 f1 rfl rfl) k m) : G := h f0 f1 k m
theorem q48 (k : H) (h : H → G := by exact fun k => yH (zNU (lq rfl) rfl rfl) k) : G := h k
theorem q49 (x : AV) (k : DA P r E ops rest (S.put d (.cond (gd true b) x)) J) (ha : GdO o ops S E j t d b true := by exact rfl) (h : b = true → AOp P r E S o d x := by exact fun hb => by subst hb; exact zC (lq rfl) rfl) : DA P r E ops (o :: rest) S J := dat x ha h k
theorem q50 (k : H) (h : H → G := by exact fun k => yH (zIH (lq rfl) rfl rfl) k) : G := h k
theorem q51 (x : AV) {F0 : Prop} (f0 : F0) (k : DA P r E ops rest (S.put d (.cond (gd true b) x)) J) (ha : GdO o ops S E j t d b true := by exact rfl) (h : F0 → b = true → AOp P r E S o d x := by exact fun f0 hb => by subst hb; exact wD (lq rfl) f0 rfl) : DA P r E ops (o :: rest) S J := dat x ha (h f0) k
theorem q52 (k : H) (h : H → G := by exact fun k => xc rfl (zLS (lq rfl) rfl) k) : G := h k
theorem q53 (k : H) (h : H → G := by exact fun k => yH (zLX (size := 5) (lq rfl) rfl rfl) k) : G := h k
theorem q54 (x : AV) (k : Sq P r E ops rest (S.put d (.cond (gd true b) x)) J) (ha : GdO o ops S E j t d b true := by exact rfl) (h : b = true → AOp P r E S o d x := by exact fun hb => by subst hb; exact zHE (lq rfl) rfl rfl) : Sq P r E ops (o :: rest) S J := sqt x ha h k
theorem q55 (k : H) (h : H → G := by exact fun k => yH (zPL (lq rfl) rfl) k) : G := h k
theorem q56 {F0 : Prop} (f0 : F0) (k : H) (h : F0 → H → G := by exact fun f0 k => yH (zDF (lq rfl) f0 rfl rfl) k) : G := h f0 k
theorem q57 {F0 : Prop} (f0 : F0) {F1 : Prop} (f1 : F1) (k : H) (h : F0 → F1 → H → G := by exact fun f0 f1 k => yH (yCZ (lq rfl) f0 f1 rfl) k) : G := h f0 f1 k
theorem q58 (x : AV) (k : Sq P r E ops rest (S.put d (.cond (gd false b) x)) J) (ha : GdO o ops S E j t d b false := by exact rfl) (h : b = false → AOp P r E S o d x := by exact fun hb => by subst hb; exact zNU (lq rfl) rfl rfl) : Sq P r E ops (o :: rest) S J := sqf x ha h k
theorem q59 (x : AV) {F0 : Prop} (f0 : F0) (k : Sq P r E ops rest (S.put d (.cond (gd true b) x)) J) (ha : GdO o ops S E j t d b true := by exact rfl) (h : F0 → b = true → AOp P r E S o d x := by exact fun f0 hb => by subst hb; exact wD (lq rfl) f0 rfl) : Sq P r E ops (o :: rest) S J := sqt x ha (h f0) k
theorem q60 {F0 : Prop} (f0 : F0) {F1 : Prop} (f1 : F1) (k : H) (h : F0 → F1 → H → G := by exact fun f0 f1 k => xc rfl (zB4 (lq rfl) f0 rfl rfl rfl f1) k) : G := h f0 f1 k
theorem q61 {F0 : Prop} (f0 : F0) {F1 : Prop} (f1 : F1) (k : H) (h : F0 → F1 → H → G := by exact fun f0 f1 k => xc rfl (zZ3 (lq rfl) f0 f1 rfl rfl) k) : G := h f0 f1 k
theorem q62 (k : H) (h : H → G := by exact fun k => yH (zLX (size := 1) (lq rfl) rfl rfl) k) : G := h k
theorem q63 (x : AV) {F0 : Prop} (f0 : F0) (k : Sq P r E ops rest (S.put d (.cond (gd true b) x)) J) (ha : GdO o ops S E j t d b true := by exact rfl) (h : F0 → b = true → AOp P r E S o d x := by exact fun f0 hb => by subst hb; exact xU (lq rfl) f0 rfl rfl) : Sq P r E ops (o :: rest) S J := sqt x ha (h f0) k
theorem q64 (k : H) (h : H → G := by exact fun k => w8 (zD0 (lq rfl) rfl rfl) k) : G := h k
theorem q65 {F0 : Prop} (f0 : F0) {F1 : Prop} (f1 : F1) (k : H) (h : F0 → F1 → H → G := by exact fun f0 f1 k => w8 (z0 (en := eI) (off := 0) (lq rfl) f0 rfl f1 rfl) k) : G := h f0 f1 k
theorem q66 {F0 : Prop} (f0 : F0) {F1 : Prop} (f1 : F1) (k : H) (h : F0 → F1 → H → G := by exact fun f0 f1 k => xc rfl (xE (en := eSpan) (off := 0) (lq rfl) f0 rfl f1 rfl rfl (by decide)) k) : G := h f0 f1 k
theorem q67 {F0 : Prop} (f0 : F0) (k : H) (h : F0 → H → G := by exact fun f0 k => w8 (zLW (lq rfl) f0 rfl rfl) k) : G := h f0 k
theorem q68 (k : H) (h : H → G := by exact fun k => yH (zHE (lq rfl) rfl rfl) k) : G := h k
theorem q69 (x : AV) (k : Sq P r E ops rest (S.put d (.cond (gd true b) x)) J) (ha : GdO o ops S E j t d b true := by exact rfl) (h : b = true → AOp P r E S o d x := by exact fun hb => by subst hb; exact zLP (lq rfl) rfl rfl) : Sq P r E ops (o :: rest) S J := sqt x ha h k
theorem q70 (x : AV) {F0 : Prop} (f0 : F0) (k : DA P r E ops rest (S.put d (.cond (gd true b) x)) J) (ha : GdO o ops S E j t d b true := by exact rfl) (h : F0 → b = true → AOp P r E S o d x := by exact fun f0 hb => by subst hb; exact xU (lq rfl) f0 rfl rfl) : DA P r E ops (o :: rest) S J := dat x ha (h f0) k
theorem q71 {F0 : Prop} (f0 : F0) {F1 : Prop} (f1 : F1) (k : H) (h : F0 → F1 → H → G := by exact fun f0 f1 k => xd rfl (z5O f0 rfl rfl rfl rfl f1 rfl) k) : G := h f0 f1 k
theorem q72 {F0 : Prop} (f0 : F0) {F1 : Prop} (f1 : F1) (k : H) (h : F0 → F1 → H → G := by exact fun f0 f1 k => xc rfl (zWB (lq rfl) f0 rfl rfl rfl rfl f1) k) : G := h f0 f1 k
theorem q73 {F0 : Prop} (f0 : F0) {F1 : Prop} (f1 : F1) (k : H) (m : I) (h : F0 → F1 → H → I → G := by exact fun f0 f1 k m => xa rfl (zH7 (lq rfl) f0 rfl rfl f1 rfl) k m) : G := h f0 f1 k m
theorem q74 {F0 : Prop} (f0 : F0) (k : H) (m : I) (h : F0 → H → I → G := by exact fun f0 k m => xa rfl (wA (lq rfl) rfl f0) k m) : G := h f0 k m
theorem q75 {F0 : Prop} (f0 : F0) (k : H) (h : F0 → H → G := by exact fun f0 k => yH (zFA (lq rfl) f0 rfl) k) : G := h f0 k
theorem q76 {F0 : Prop} (f0 : F0) {F1 : Prop} (f1 : F1) (k : H) (h : F0 → F1 → H → G := by exact fun f0 f1 k => yH (zB4 (lq rfl) f0 rfl rfl rfl f1) k) : G := h f0 f1 k
theorem q77 (k : H) (h : H → G := by exact fun k => w8 (zFV (lq rfl) rfl) k) : G := h k
theorem q78 {F0 : Prop} (f0 : F0) (k : H) (m : I) (h : F0 → H → I → G := by exact fun f0 k m => xa rfl (zPR (lq rfl) f0 rfl) k m) : G := h f0 k m
theorem q79 (x : AV) {F0 : Prop} (f0 : F0) (k : DA P r E ops rest (S.put d (.cond (gd false b) x)) J) (ha : GdO o ops S E j t d b false := by exact rfl) (h : F0 → b = false → AOp P r E S o d x := by exact fun f0 hb => by subst hb; exact xD (lq rfl) f0 rfl) : DA P r E ops (o :: rest) S J := daf x ha (h f0) k
theorem q80 {F0 : Prop} (f0 : F0) (k : H) (h : F0 → H → G := by exact fun f0 k => yW rfl (zN8 (lq rfl) f0 rfl rfl rfl rfl (by decide) rfl) k) : G := h f0 k
theorem q81 (x : AV) (k : Sq P r E ops rest (S.put d (.cond (gd false b) x)) J) (ha : GdO o ops S E j t d b false := by exact rfl) (h : b = false → AOp P r E S o d x := by exact fun hb => by subst hb; exact zD0 (lq rfl) rfl rfl) : Sq P r E ops (o :: rest) S J := sqf x ha h k
theorem q82 (k : H) (h : H → G := by exact fun k => yH (yE2 (lq rfl) rfl rfl (by decide)) k) : G := h k
theorem q83 {F0 : Prop} (f0 : F0) (k : H) (m : I) (h : F0 → H → I → G := by exact fun f0 k m => xa rfl (zLW (lq rfl) f0 rfl rfl) k m) : G := h f0 k m
theorem q84 {F0 : Prop} (f0 : F0) {F1 : Prop} (f1 : F1) (k : H) (h : F0 → F1 → H → G := by exact fun f0 f1 k => yH (z0 (en := eMapping) (off := 1) (lq rfl) f0 rfl f1 rfl) k) : G := h f0 f1 k
theorem q85 {F0 : Prop} (f0 : F0) {F1 : Prop} (f1 : F1) (k : H) (h : F0 → F1 → H → G := by exact fun f0 f1 k => yH (xE (en := eMapping) (off := 0) (lq rfl) f0 rfl f1 rfl rfl (by decide)) k) : G := h f0 f1 k
theorem q86 {F0 : Prop} (f0 : F0) (k : H) (h : F0 → H → G := by exact fun f0 k => yH (yBQ (lq rfl) rfl rfl f0) k) : G := h f0 k
theorem q87 (k : H) (h : H → G := by exact fun k => w8 (zR2 (lq rfl) rfl rfl) k) : G := h k
theorem q88 (x : AV) {F0 : Prop} (f0 : F0) (k : Sq P r E ops rest (S.put d (.cond (gd false b) x)) J) (ha : GdO o ops S E j t d b false := by exact rfl) (h : F0 → b = false → AOp P r E S o d x := by exact fun f0 hb => by subst hb; exact zPR (lq rfl) f0 rfl) : Sq P r E ops (o :: rest) S J := sqf x ha (h f0) k
theorem q89 {F0 : Prop} (f0 : F0) (k : H) (h : F0 → H → G := by exact fun f0 k => yH (zD1 (lq rfl) f0 rfl rfl rfl) k) : G := h f0 k
theorem q90 (x : AV) {F0 : Prop} (f0 : F0) (k : DA P r E ops rest (S.put d (.cond (gd true b) x)) J) (ha : GdO o ops S E j t d b true := by exact rfl) (h : F0 → b = true → AOp P r E S o d x := by exact fun f0 hb => by subst hb; exact xD (lq rfl) f0 rfl) : DA P r E ops (o :: rest) S J := dat x ha (h f0) k
theorem q91 {F0 : Prop} (f0 : F0) (k : H) (h : F0 → H → G := by exact fun f0 k => w8 (zFA (lq rfl) f0 rfl) k) : G := h f0 k
theorem q92 (k : H) (h : H → G := by exact fun k => w8 (zSG (lq rfl) rfl rfl) k) : G := h k
theorem q93 (k : H) (h : H → G := by exact fun k => yH (zYG (lq rfl) rfl rfl) k) : G := h k
theorem q94 {F0 : Prop} (f0 : F0) {F1 : Prop} (f1 : F1) (k : H) (m : I) (h : F0 → F1 → H → I → G := by exact fun f0 f1 k m => xa rfl (zWB (lq rfl) f0 rfl rfl rfl rfl f1) k m) : G := h f0 f1 k m
theorem q95 (k : H) (h : H → G := by exact fun k => w8 (zM0 (lq rfl) rfl rfl) k) : G := h k
theorem q96 {F0 : Prop} (f0 : F0) {F1 : Prop} (f1 : F1) (k : H) (m : I) (h : F0 → F1 → H → I → G := by exact fun f0 f1 k m => xa rfl (zEQ (lq rfl) f0 rfl rfl rfl f1) k m) : G := h f0 f1 k m
theorem q97 (x : AV) {F0 : Prop} (f0 : F0) (k : DA P r E ops rest (S.put d (.cond (gd true b) x)) J) (ha : GdO o ops S E j t d b true := by exact rfl) (h : F0 → b = true → AOp P r E S o d x := by exact fun f0 hb => by subst hb; exact zD1 (lq rfl) f0 rfl rfl rfl) : DA P r E ops (o :: rest) S J := dat x ha (h f0) k
theorem q98 (x : AV) (k : Sq P r E ops rest (S.put d (.cond (gd false b) x)) J) (ha : GdO o ops S E j t d b false := by exact rfl) (h : b = false → AOp P r E S o d x := by exact fun hb => by subst hb; exact zI3 (lq rfl) rfl rfl) : Sq P r E ops (o :: rest) S J := sqf x ha h k
theorem q99 (x : AV) (k : Sq P r E ops rest (S.put d (.cond (gd false b) x)) J) (ha : GdO o ops S E j t d b false := by exact rfl) (h : b = false → AOp P r E S o d x := by exact fun hb => by subst hb; exact zIH (lq rfl) rfl rfl) : Sq P r E ops (o :: rest) S J := sqf x ha h k
theorem zYW (k : H) (h : H → G := by exact fun k => w8 (zNU (lq rfl) rfl rfl) k) : G := h k
theorem zYX (x : AV) (k : Sq P r E ops rest (S.put d (.cond (gd true b) x)) J) (ha : GdO o ops S E j t d b true := by exact rfl) (h : b = true → AOp P r E S o d x := by exact fun hb => by subst hb; exact zIH (lq rfl) rfl rfl) : Sq P r E ops (o :: rest) S J := sqt x ha h k
theorem zYY {F0 : Prop} (f0 : F0) (k : H) (h : F0 → H → G := by exact fun f0 k => yW rfl (zKO f0 rfl rfl (lq rfl) rfl rfl rfl) k) : G := h f0 k
theorem zYZ (k : H) (h : H → G := by exact fun k => yW rfl (kO (zs := [(.int IntKind.i64 (0)), (.int IntKind.i64 (0))]) (lq rfl) (by kernel_rfl) rfl rfl) k) : G := h k
theorem zY0 (x : AV) (k : Sq P r E ops rest (S.put d (.cond (gd true b) x)) J) (ha : GdO o ops S E j t d b true := by exact rfl) (h : b = true → AOp P r E S o d x := by exact fun hb => by subst hb; exact zR1 (lq rfl) rfl) : Sq P r E ops (o :: rest) S J := sqt x ha h k
theorem yG8 (k : H) (h : H → G := by exact fun k => yW rfl (kO (zs := [(.int IntKind.i64 (0)), (.slice none 0 0), (.string ⟨#[]⟩)]) (lq rfl) (by kernel_rfl) rfl rfl) k) : G := h k
theorem zY1 {F0 : Prop} (f0 : F0) (k : H) (h : F0 → H → G := by exact fun f0 k => yH (zJY (lq rfl) f0 rfl) k) : G := h f0 k
theorem zY2 {F0 : Prop} (f0 : F0) (k : H) (h : F0 → H → G := by exact fun f0 k => yH (yBP (lq rfl) rfl rfl f0) k) : G := h f0 k
theorem zY3 {F0 : Prop} (f0 : F0) (k : H) (h : F0 → H → G := by exact fun f0 k => xc rfl (zPR (lq rfl) f0 rfl) k) : G := h f0 k
theorem z2O (x : AV) {F0 : Prop} (f0 : F0) (k : Sq P r E ops rest (S.put d (.cond (gd true b) x)) J) (ha : GdO o ops S E j t d b true := by exact rfl) (h : F0 → b = true → AOp P r E S o d x := by exact fun f0 hb => by subst hb; exact zPR (lq rfl) f0 rfl) : Sq P r E ops (o :: rest) S J := sqt x ha (h f0) k
theorem z2P (k : H) (h : H → G := by exact fun k => yH (zYF (lq rfl) rfl rfl) k) : G := h k
theorem z2Q (x : AV) (k : DA P r E ops rest (S.put d (.cond (gd true b) x)) J) (ha : GdO o ops S E j t d b true := by exact rfl) (h : b = true → AOp P r E S o d x := by exact fun hb => by subst hb; exact zSG (lq rfl) rfl rfl) : DA P r E ops (o :: rest) S J := dat x ha h k
theorem z2R (x : AV) (k : Sq P r E ops rest (S.put d (.cond (gd false b) x)) J) (ha : GdO o ops S E j t d b false := by exact rfl) (h : b = false → AOp P r E S o d x := by exact fun hb => by subst hb; exact zR1 (lq rfl) rfl) : Sq P r E ops (o :: rest) S J := sqf x ha h k
theorem z2S (k : H) (h : H → G := by exact fun k => yW rfl (kO (zs := [(.int IntKind.i64 (0)), (.int IntKind.i64 (0)), (.int IntKind.i64 (0))]) (lq rfl) (by kernel_rfl) rfl rfl) k) : G := h k
theorem z2T (k : H) (h : H → G := by exact fun k => yW rfl (kO (zs := [(.slice none 0 0)]) (lq rfl) (by kernel_rfl) rfl rfl) k) : G := h k
theorem z2U {F0 : Prop} (f0 : F0) (k : H) (h : F0 → H → G := by exact fun f0 k => yH (z2C (lq rfl) f0 rfl rfl (by decide)) k) : G := h f0 k
theorem z2V {F0 : Prop} (f0 : F0) (k : H) (h : F0 → H → G := by exact fun f0 k => xd rfl (zKO f0 rfl rfl (lq rfl) rfl rfl rfl) k) : G := h f0 k
theorem z2W (k : H) (h : H → G := by exact fun k => w8 (zFY (lq rfl) rfl) k) : G := h k
theorem z2X (k : H) (h : H → G := by exact fun k => w8 (zLP (lq rfl) rfl rfl) k) : G := h k
theorem z2Y (x : AV) {F0 : Prop} (f0 : F0) (k : Sq P r E ops rest (S.put d (.cond (gd true b) x)) J) (ha : GdO o ops S E j t d b true := by exact rfl) (h : F0 → b = true → AOp P r E S o d x := by exact fun f0 hb => by subst hb; exact xD (lq rfl) f0 rfl) : Sq P r E ops (o :: rest) S J := sqt x ha (h f0) k
theorem z2Z {F0 : Prop} (f0 : F0) {F1 : Prop} (f1 : F1) (k : H) (h : F0 → F1 → H → G := by exact fun f0 f1 k => w8 (zEQ (lq rfl) f0 rfl rfl rfl f1) k) : G := h f0 f1 k
theorem z20 {F0 : Prop} (f0 : F0) {F1 : Prop} (f1 : F1) (k : H) (h : F0 → F1 → H → G := by exact fun f0 f1 k => w8 (zH7 (lq rfl) f0 rfl rfl f1 rfl) k) : G := h f0 f1 k
theorem z21 (k : H) (h : H → G := by exact fun k => xc rfl (zFD (lq rfl) rfl) k) : G := h k
theorem z51 (k : H) (h : H → G := by exact fun k => yW rfl (z19 (lq rfl) rfl) k) : G := h k
theorem z52 {F0 : Prop} (f0 : F0) (k : H) (h : F0 → H → G := by exact fun f0 k => yH (z5E (lq rfl) f0 rfl rfl) k) : G := h f0 k
theorem z53 (k : H) (h : H → G := by exact fun k => yH (yE6 (lq rfl) rfl rfl) k) : G := h k
theorem z54 (k : H) (h : H → G := by exact fun k => w8 (zPK (lq rfl) rfl) k) : G := h k
theorem z55 (k : H) (h : H → G := by exact fun k => w8 (zM6 (lq rfl) rfl) k) : G := h k
theorem z56 (k : H) (m : I) (h : H → I → G := by exact fun k m => xb rfl (kO (zs := [(.int IntKind.i64 (0)), (.int IntKind.i64 (0)), (.int IntKind.i64 (0))]) (lq rfl) (by kernel_rfl) rfl rfl) k m) : G := h k m
theorem z57 (x : AV) (k : Sq P r E ops rest (S.put d (.cond (gd true b) x)) J) (ha : GdO o ops S E j t d b true := by exact rfl) (h : b = true → AOp P r E S o d x := by exact fun hb => by subst hb; exact zNV (lq rfl) rfl rfl) : Sq P r E ops (o :: rest) S J := sqt x ha h k
theorem z58 (x : AV) (k : DA P r E ops rest (S.put d (.cond (gd true b) x)) J) (ha : GdO o ops S E j t d b true := by exact rfl) (h : b = true → AOp P r E S o d x := by exact fun hb => by subst hb; exact zFV (lq rfl) rfl) : DA P r E ops (o :: rest) S J := dat x ha h k
theorem z59 {F0 : Prop} (f0 : F0) (k : H) (h : F0 → H → G := by exact fun f0 k => yH (yC1 (lq rfl) f0 rfl rfl) k) : G := h f0 k
theorem z6A {F0 : Prop} (f0 : F0) (k : H) (h : F0 → H → G := by exact fun f0 k => yW rfl (zN9 f0 rfl rfl (lq rfl) rfl rfl rfl) k) : G := h f0 k
theorem z6B {F0 : Prop} (f0 : F0) {F1 : Prop} (f1 : F1) (k : H) (h : F0 → F1 → H → G := by exact fun f0 f1 k => w8 (z0 (en := eMapping) (off := 0) (lq rfl) f0 rfl f1 rfl) k) : G := h f0 f1 k
theorem z6C (k : H) (h : H → G := by exact fun k => w8 (zSF (lq rfl) rfl rfl) k) : G := h k
theorem z6D {F0 : Prop} (f0 : F0) (k : H) (h : F0 → H → G := by exact fun f0 k => w8 (zJY (lq rfl) f0 rfl) k) : G := h f0 k
theorem z6E {F0 : Prop} (f0 : F0) (k : H) (h : F0 → H → G := by exact fun f0 k => yH (yC6 (lq rfl) f0 rfl rfl) k) : G := h f0 k
theorem yDI (k : H) (h : H → G := by exact fun k => yW rfl (kO (zs := [(.slice none 0 0), (.slice none 0 0), (.int IntKind.i64 (0)), (.int IntKind.i64 (0)), (.int IntKind.i64 (0))]) (lq rfl) (by kernel_rfl) rfl rfl) k) : G := h k
theorem z9H (k : H) (h : H → G := by exact fun k => w8 (zR1 (lq rfl) rfl) k) : G := h k
theorem z9I (x : AV) {F0 : Prop} (f0 : F0) (k : Sq P r E ops rest (S.put d (.cond (gd false b) x)) J) (ha : GdO o ops S E j t d b false := by exact rfl) (h : F0 → b = false → AOp P r E S o d x := by exact fun f0 hb => by subst hb; exact xD (lq rfl) f0 rfl) : Sq P r E ops (o :: rest) S J := sqf x ha (h f0) k
theorem yFK (k : H) (h : H → G := by exact fun k => yH (zLX (size := 9) (lq rfl) rfl rfl) k) : G := h k
theorem z9J {F0 : Prop} (f0 : F0) (k : H) (h : F0 → H → G := by exact fun f0 k => yH (zPQ (lq rfl) f0 rfl) k) : G := h f0 k
theorem z9K {F0 : Prop} (f0 : F0) {F1 : Prop} (f1 : F1) (k : H) (h : F0 → F1 → H → G := by exact fun f0 f1 k => yH (z47 (lq rfl) f0 rfl rfl f1) k) : G := h f0 f1 k
theorem z9L {F0 : Prop} (f0 : F0) {F1 : Prop} (f1 : F1) (k : H) (h : F0 → F1 → H → G := by exact fun f0 f1 k => yH (xE (en := eGroup) (off := 0) (lq rfl) f0 rfl f1 rfl rfl (by decide)) k) : G := h f0 f1 k
theorem z9M (k : H) (h : H → G := by exact fun k => yW rfl (kO (zs := [(.string ⟨#[]⟩), (.int IntKind.i64 (0)), (.int IntKind.i64 (0))]) (lq rfl) (by kernel_rfl) rfl rfl) k) : G := h k
theorem z9N {F0 : Prop} (f0 : F0) {F1 : Prop} (f1 : F1) (k : H) (h : F0 → F1 → H → G := by exact fun f0 f1 k => yW rfl (zV0 f0 f1 rfl rfl rfl rfl rfl rfl) k) : G := h f0 f1 k
theorem z9O (x : AV) (k : Sq P r E ops rest (S.put d (.cond (gd true b) x)) J) (ha : GdO o ops S E j t d b true := by exact rfl) (h : b = true → AOp P r E S o d x := by exact fun hb => by subst hb; exact zM0 (lq rfl) rfl rfl) : Sq P r E ops (o :: rest) S J := sqt x ha h k
theorem z9P {F0 : Prop} (f0 : F0) (k : H) (h : F0 → H → G := by exact fun f0 k => w8 (zC4 (lq rfl) f0 rfl rfl rfl) k) : G := h f0 k
theorem z9Q (k : H) (h : H → G := by exact fun k => yH (zPK (lq rfl) rfl) k) : G := h k
theorem z9R {F0 : Prop} (f0 : F0) {F1 : Prop} (f1 : F1) (k : H) (h : F0 → F1 → H → G := by exact fun f0 f1 k => yH (xE (en := eSpan) (off := 0) (lq rfl) f0 rfl f1 rfl rfl (by decide)) k) : G := h f0 f1 k
theorem z9S {F0 : Prop} (f0 : F0) (k : H) (h : F0 → H → G := by exact fun f0 k => w8 (z4U (lq rfl) f0 rfl rfl rfl rfl (by decide) rfl) k) : G := h f0 k
theorem z9T {F0 : Prop} (f0 : F0) {F1 : Prop} (f1 : F1) (k : H) (h : F0 → F1 → H → G := by exact fun f0 f1 k => w8 (xE (en := eMapping) (off := 0) (lq rfl) f0 rfl f1 rfl rfl (by decide)) k) : G := h f0 f1 k
theorem z9U (k : H) (h : H → G := by exact fun k => yH (zZZ (lq rfl) rfl rfl) k) : G := h k
theorem yDJ (k : H) (h : H → G := by exact fun k => w8 (zPL (lq rfl) rfl) k) : G := h k
theorem z9V (k : H) (h : H → G := by exact fun k => yW rfl (kO (zs := [(.slice none 0 0), (.slice none 0 0), (.slice none 0 0)]) (lq rfl) (by kernel_rfl) rfl rfl) k) : G := h k
theorem z9W {F0 : Prop} (f0 : F0) (k : H) (h : F0 → H → G := by exact fun f0 k => w8 (zD1 (lq rfl) f0 rfl rfl rfl) k) : G := h f0 k
end
section
variable {G H : Prop}
theorem Q0 (k : H) (h : H → G := by intro k; refine kP ?_; exact zBC k) : G := h k
theorem Q1 (k : H) (h : H → G := by intro k; refine q1 ?_; exact zJ k) : G := h k
theorem Q2 (k : H) (h : H → G := by intro k; refine Q0 ?_; exact q0 k) : G := h k
theorem Q3 (k : H) (h : H → G := by intro k; refine Q0 ?_; exact Q1 k) : G := h k
theorem Q4 (k : H) (h : H → G := by intro k; refine kP ?_; exact Q2 k) : G := h k
theorem Q5 (k : H) (h : H → G := by intro k; refine zP ?_; exact kP k) : G := h k
theorem Q6 (k : H) (h : H → G := by intro k; refine q3 ?_; exact zJ k) : G := h k
theorem Q7 (k : H) (h : H → G := by intro k; refine zBC ?_; exact q0 k) : G := h k
theorem Q8 (k : H) (h : H → G := by intro k; refine Q5 ?_; exact kB k) : G := h k
theorem Q9 (k : H) (h : H → G := by intro k; refine q2 ?_; exact Q1 k) : G := h k
theorem Q10 (k : H) (h : H → G := by intro k; refine Q4 ?_; exact q0 k) : G := h k
theorem Q11 (k : H) (h : H → G := by intro k; refine Q7 ?_; exact Q9 k) : G := h k
theorem Q12 (k : H) (h : H → G := by intro k; refine q0 ?_; exact zJ k) : G := h k
theorem Q13 (k : H) (h : H → G := by intro k; refine Q2 ?_; exact q0 k) : G := h k
theorem Q14 (k : H) (h : H → G := by intro k; refine Q3 ?_; exact kB k) : G := h k
theorem Q15 (k : H) (h : H → G := by intro k; refine Q1 ?_; exact kP k) : G := h k
theorem Q16 (k : H) (h : H → G := by intro k; refine Q3 ?_; exact zB k) : G := h k
theorem Q17 (k : H) (h : H → G := by intro k; refine q16 ?_; exact zJ k) : G := h k
theorem Q18 (k : H) (h : H → G := by intro k; refine q10 ?_; exact xn [7] k) : G := h k
theorem Q19 (k : H) (h : H → G := by intro k; refine q11 ?_; exact q0 k) : G := h k
theorem Q20 (k : H) (h : H → G := by intro k; refine xn [6] ?_; exact Q18 k) : G := h k
theorem Q21 (k : H) (h : H → G := by intro k; refine Q20 ?_; exact q9 G32 k) : G := h k
theorem Q22 (k : H) (h : H → G := by intro k; refine Q1 ?_; exact Q2 k) : G := h k
theorem Q23 (k : H) (h : H → G := by intro k; refine q4 ?_; exact q4 k) : G := h k
theorem Q24 (k : H) (h : H → G := by intro k; refine zP ?_; exact Q11 k) : G := h k
theorem Q25 (k : H) (h : H → G := by intro k; refine Q12 ?_; exact kB k) : G := h k
theorem Q26 (k : H) (h : H → G := by intro k; refine Q0 ?_; exact Q6 k) : G := h k
theorem Q27 (k : H) (h : H → G := by intro k; refine Q26 ?_; exact kP k) : G := h k
theorem Q28 (k : H) (h : H → G := by intro k; refine zBC ?_; exact q2 k) : G := h k
theorem Q29 (k : H) (h : H → G := by intro k; refine Q28 ?_; exact Q12 k) : G := h k
theorem Q30 (k : H) (h : H → G := by intro k; refine Q8 ?_; exact Q0 k) : G := h k
theorem Q31 (k : H) (h : H → G := by intro k; refine kP ?_; exact Q14 k) : G := h k
theorem Q32 (k : H) (h : H → G := by intro k; refine kP ?_; exact Q0 k) : G := h k
theorem Q33 (k : H) (h : H → G := by intro k; refine xn [12] ?_; exact q9 G61 k) : G := h k
theorem Q34 (k : H) (h : H → G := by intro k; refine q1 ?_; exact Q1 k) : G := h k
theorem Q35 (k : H) (h : H → G := by intro k; refine Q2 ?_; exact Q1 k) : G := h k
theorem Q36 (k : H) (h : H → G := by intro k; refine Q19 ?_; exact q0 k) : G := h k
theorem Q37 (k : H) (h : H → G := by intro k; refine q14 ?_; exact zJ k) : G := h k
theorem Q38 (k : H) (h : H → G := by intro k; refine q28 ?_; exact zJ k) : G := h k
theorem Q39 (k : H) (h : H → G := by intro k; refine Q0 ?_; exact q34 k) : G := h k
theorem Q40 (k : H) (h : H → G := by intro k; refine q33 ?_; exact zJ k) : G := h k
theorem Q41 (k : H) (h : H → G := by intro k; refine xn [11] ?_; exact q9 G61 k) : G := h k
theorem Q42 (k : H) (h : H → G := by intro k; refine Q41 ?_; exact Q33 k) : G := h k
theorem Q43 (k : H) (h : H → G := by intro k; refine q14 ?_; exact Q1 k) : G := h k
theorem Q44 (k : H) (h : H → G := by intro k; refine Q3 ?_; exact Q4 k) : G := h k
theorem Q45 (k : H) (h : H → G := by intro k; refine xn [11] ?_; exact q10 k) : G := h k
theorem Q46 (k : H) (h : H → G := by intro k; refine Q45 ?_; exact xn [12] k) : G := h k
theorem Q47 (k : H) (h : H → G := by intro k; refine Q1 ?_; exact Q0 k) : G := h k
theorem Q48 (k : H) (h : H → G := by intro k; refine zP ?_; exact Q0 k) : G := h k
theorem Q49 (k : H) (h : H → G := by intro k; refine q32 ?_; exact wB k) : G := h k
theorem Q50 (k : H) (h : H → G := by intro k; refine q19 ?_; exact zJ k) : G := h k
theorem Q51 (k : H) (h : H → G := by intro k; refine Q46 ?_; exact q52 k) : G := h k
theorem Q52 (k : H) (h : H → G := by intro k; refine Q10 ?_; exact q5 S23 k) : G := h k
theorem Q53 (k : H) (h : H → G := by intro k; refine zP ?_; exact Q29 k) : G := h k
theorem Q54 (k : H) (h : H → G := by intro k; refine q55 ?_; exact q22 k) : G := h k
theorem Q55 (k : H) (h : H → G := by intro k; refine Q54 ?_; exact q22 k) : G := h k
theorem Q56 (k : H) (h : H → G := by intro k; refine Q52 ?_; exact Q6 k) : G := h k
theorem Q57 (k : H) (h : H → G := by intro k; refine Q3 ?_; exact Q2 k) : G := h k
theorem Q58 (k : H) (h : H → G := by intro k; refine zP ?_; exact Q3 k) : G := h k
theorem Q59 (k : H) (h : H → G := by intro k; refine Q15 ?_; exact Q0 k) : G := h k
theorem Q60 (k : H) (h : H → G := by intro k; refine q48 ?_; exact zJ k) : G := h k
theorem Q61 (k : H) (h : H → G := by intro k; refine Q8 ?_; exact kP k) : G := h k
theorem Q62 (k : H) (h : H → G := by intro k; refine xn [2] ?_; exact q61 uM O22 k) : G := h k
theorem Q63 (k : H) (h : H → G := by intro k; refine Q62 ?_; exact Q21 k) : G := h k
theorem Q64 (k : H) (h : H → G := by intro k; refine zJ ?_; exact Q0 k) : G := h k
theorem Q65 (k : H) (h : H → G := by intro k; refine q0 ?_; exact q0 k) : G := h k
theorem Q66 (k : H) (h : H → G := by intro k; refine Q8 ?_; exact Q13 k) : G := h k
theorem Q67 (k : H) (h : H → G := by intro k; refine Q10 ?_; exact Q6 k) : G := h k
theorem Q68 (k : H) (h : H → G := by intro k; refine q31 ?_; exact Q1 k) : G := h k
theorem Q69 (k : H) (h : H → G := by intro k; refine Q15 ?_; exact kB k) : G := h k
theorem Q70 (k : H) (h : H → G := by intro k; refine Q3 ?_; exact Q31 k) : G := h k
theorem Q71 (k : H) (h : H → G := by intro k; refine Q0 ?_; exact q53 k) : G := h k
theorem Q72 (k : H) (h : H → G := by intro k; refine Q22 ?_; exact Q40 k) : G := h k
theorem Q73 (k : H) (h : H → G := by intro k; refine q36 ?_; exact Q42 k) : G := h k
theorem Q74 (k : H) (h : H → G := by intro k; refine kB ?_; exact Q13 k) : G := h k
theorem Q75 (k : H) (h : H → G := by intro k; refine Q0 ?_; exact q11 k) : G := h k
theorem Q76 (k : H) (h : H → G := by intro k; refine zBC ?_; exact Q36 k) : G := h k
theorem Q77 (k : H) (h : H → G := by intro k; refine Q7 ?_; exact Q1 k) : G := h k
theorem Q78 (k : H) (h : H → G := by intro k; refine q1 ?_; exact Q34 k) : G := h k
theorem Q79 (k : H) (h : H → G := by intro k; refine Q5 ?_; exact Q0 k) : G := h k
theorem Q80 (k : H) (h : H → G := by intro k; refine Q0 ?_; exact Q36 k) : G := h k
theorem Q81 (k : H) (h : H → G := by intro k; refine xn [10] ?_; exact q10 k) : G := h k
theorem Q82 (k : H) (h : H → G := by intro k; refine q5 yF ?_; exact Q6 k) : G := h k
theorem Q83 (k : H) (h : H → G := by intro k; refine q7 zHI ?_; exact q8 O24 k) : G := h k
theorem Q84 (k : H) (h : H → G := by intro k; refine zBC ?_; exact q11 k) : G := h k
theorem Q85 (k : H) (h : H → G := by intro k; refine zP ?_; exact Q4 k) : G := h k
theorem Q86 (k : H) (h : H → G := by intro k; refine q50 ?_; exact zJ k) : G := h k
theorem Q87 (k : H) (h : H → G := by intro k; refine q1 ?_; exact Q22 k) : G := h k
theorem Q88 (k : H) (h : H → G := by intro k; refine Q0 ?_; exact q62 k) : G := h k
theorem Q89 (k : H) (h : H → G := by intro k; refine Q83 ?_; exact q5 S24 k) : G := h k
theorem Q90 (k : H) (h : H → G := by intro k; refine q7 zWL ?_; exact q8 O29 k) : G := h k
theorem Q91 (k : H) (h : H → G := by intro k; refine q64 ?_; exact wB k) : G := h k
theorem Q92 (k : H) (h : H → G := by intro k; refine q37 ?_; exact zJ k) : G := h k
theorem Q93 (k : H) (h : H → G := by intro k; refine q7 zED ?_; exact q8 O3 k) : G := h k
theorem Q94 (k : H) (h : H → G := by intro k; refine Q7 ?_; exact q0 k) : G := h k
theorem Q95 (k : H) (h : H → G := by intro k; refine q7 zP2 ?_; exact q8 O23 k) : G := h k
theorem Q96 (k : H) (h : H → G := by intro k; refine Q15 ?_; exact Q14 k) : G := h k
theorem Q97 (k : H) (h : H → G := by intro k; refine Q75 ?_; exact Q17 k) : G := h k
theorem Q98 (k : H) (h : H → G := by intro k; refine Q5 ?_; exact Q14 k) : G := h k
theorem Q99 (k : H) (h : H → G := by intro k; refine q5 yF ?_; exact Q25 k) : G := h k
theorem zWU (k : H) (h : H → G := by intro k; refine q77 ?_; exact q4 k) : G := h k
theorem zWV (k : H) (h : H → G := by intro k; refine kB ?_; exact Q2 k) : G := h k
theorem zWW (k : H) (h : H → G := by intro k; refine Q81 ?_; exact Q51 k) : G := h k
theorem zY8 (k : H) (h : H → G := by intro k; refine kB ?_; exact Q0 k) : G := h k
theorem zY9 (k : H) (h : H → G := by intro k; refine Q4 ?_; exact zJ k) : G := h k
theorem z6I (k : H) (h : H → G := by intro k; refine q17 G32 ?_; exact zJ k) : G := h k
theorem zZA (k : H) (h : H → G := by intro k; refine xm 0 ?_; exact xm 1 k) : G := h k
theorem zZB (k : H) (h : H → G := by intro k; refine q17 zBP ?_; exact zJ k) : G := h k
theorem zZC (k : H) (h : H → G := by intro k; refine q5 S23 ?_; exact Q25 k) : G := h k
theorem yG9 (k : H) (h : H → G := by intro k; refine yG8 ?_; exact q17 zJI k) : G := h k
theorem zZD (k : H) (h : H → G := by intro k; refine yG9 ?_; exact zJ k) : G := h k
theorem zZE (k : H) (h : H → G := by intro k; refine Q80 ?_; exact q0 k) : G := h k
theorem zZF (k : H) (h : H → G := by intro k; refine q50 ?_; exact Q1 k) : G := h k
theorem yHA (k : H) (h : H → G := by intro k; refine q2 ?_; exact q57 Tryz.underlying3 Tryz.underlying141 k) : G := h k
theorem yHB (k : H) (h : H → G := by intro k; refine yHA ?_; exact q82 k) : G := h k
theorem zZG (k : H) (h : H → G := by intro k; refine yHB ?_; exact q57 Tryz.underlying141 Tryz.underlying3 k) : G := h k
theorem z6J (k : H) (h : H → G := by intro k; refine Q55 ?_; exact Q87 k) : G := h k
theorem z3B (k : H) (h : H → G := by intro k; refine Q39 ?_; exact q53 k) : G := h k
theorem zZH (k : H) (h : H → G := by intro k; refine zBC ?_; exact Q19 k) : G := h k
theorem yHC (k : H) (h : H → G := by intro k; refine xn [5] ?_; exact q43 k) : G := h k
theorem zZI (k : H) (h : H → G := by intro k; refine yHC ?_; exact Q21 k) : G := h k
end
theorem zQ7 {a0 r} (h : zGT a0 = some r) : zF Tryz.prog 47 [(zR eSpan a0)] [(db r)] := by
 refine co Tryz.func47 ?_; intro _ _ _ _
 unfold zGT at h
 refine Q57 ?_
 refine q5 S22 ?_
 refine q68 ?_
 refine Q1 ?_
 cases h
 refine zB ?_
 exact zH rfl
theorem zQ8 {a0 r} (h : zES a0 = some r) : zF Tryz.prog 48 [(zR eMapping a0)] [(db r)] := by
 refine co Tryz.func48 ?_; intro _ _ _ _
 unfold zES at h
 refine Q70 ?_
 have ⟨y1, hy1, h⟩ := bE h
 refine zN y1 (.exit 0) (fun y1 => ⟨[(0, .d (zR eMapping a0))], []⟩) .ret (fun y1 => ⟨[(2, .d (db y1))], []⟩) ?_ ?_ ?_
 ·
  refine zD (fun x => ⟨[(0, .d (zR eMapping a0)), (3, .d (di x))], []⟩) hy1 (wc) ?_
  rintro v3 sy1 p1
  replace p1 : zAL a0 v3 = some sy1 := p1
  unfold zAL at p1
  refine Q52 ?_
  refine q3 ?_
  have ⟨b8, hb8, p1⟩ := bE p1
  refine yH ((zC (lq rfl) rfl).bool (oi hb8)) ?_
  refine q12 (.d (di v3)) ?_
  refine q69 (.d (db (decide (v3 < 30)))) ?_
  refine Q37 ?_
  refine z6 p1 (fun p1 => ?_) (fun p1 => ?_)
  ·
   refine Q66 ?_
   have ⟨t16, ht16, p1⟩ := bE p1
   refine q13 S23 ht16 ?_
   refine q44 zCE ?_
   refine q84 O33 ht16 ?_
   refine q5 yF ?_
   refine q48 ?_
   have ⟨b21, hb21, p1⟩ := bE p1
   refine yH ((zC (lq rfl) rfl).bool (oi hb21)) ?_
   refine q39 (.d (zR eMapping a0)) ?_
   refine q39 (.d (di v3)) ?_
   have ⟨t24, ht24, p1⟩ := bE p1
   refine sqf (.ip (eMapping.all a0) (v3.toNat * eMapping.size)) rfl (fun hb => by subst hb; exact kJ (en := eMapping) (lq rfl) S23 rfl rfl ht24) ?_
   refine z9I (.ip (eMapping.all a0) (v3.toNat * eMapping.size + 2)) zA7 ?_
   refine sqf (.d (ds t24.Tag)) rfl (fun hb => by subst hb; exact z0 (en := eMapping) (l := a0) (i := v3) (v := t24) (off := 2) (lq rfl) O9 rfl ht24 rfl) ?_
   refine sqf (.d (di (t24.Tag.length : Int))) rfl (fun hb => by subst hb; exact zPQ (s := t24.Tag) (lq rfl) Tryz.underlying9 rfl) ?_
   refine q58 (.d (db (decide (40 < (t24.Tag.length : Int))))) ?_
   refine Q50 ?_
   refine z6 p1 (fun p1 => ?_) (fun p1 => ?_)
   ·
    refine Q16 ?_
    cases p1
    intro q; cases q
    exact ⟨rfl, wc⟩
   ·
    refine Q24 ?_
    cases p1
    exact wc
  ·
   refine zG ?_
   cases p1
   intro q; cases q
   exact ⟨rfl, wc⟩
 ·
  rintro y1 rfl
  replace h := eL h
  refine Q2 ?_
  refine q5 S23 ?_
  refine q68 ?_
  refine Q1 ?_
  cases h
  refine zB ?_
  exact zH rfl
 ·
  rintro y1 rfl
  replace h := eR h
  cases h
  exact zH rfl
theorem zQ9 {a0 r} (h : zGU a0 = some r) : zF Tryz.prog 49 [(eSet.dv a0)] [(db r)] := by
 refine co Tryz.func49 ?_; intro _ _ _ _
 unfold zGU at h
 refine Q88 ?_
 refine Q47 ?_
 refine Q89 ?_
 refine q68 ?_
 refine Q1 ?_
 cases h
 refine zB ?_
 exact zH rfl
theorem zRA {a0 r} (h : zET a0 = some r) : zF Tryz.prog 24 [(eNorm.dv a0)] [(db r)] := by
 refine co Tryz.func24 ?_; intro _ _ _ _
 unfold zET at h
 refine Q39 ?_
 refine Q47 ?_
 refine q7 uM ?_
 refine q8 O22 ?_
 have ⟨t5, ht5, h⟩ := bE h
 refine q6 (zQ7 ht5) ?_
 have ⟨b6, hb6, h⟩ := bE h
 refine yH ((zC (lq rfl) rfl).bool (oi hb6)) ?_
 refine q59 (.ip (eNorm.cells a0) (0 + 1)) zP2 ?_
 refine q63 (.d (zR eMapping a0.Decomp)) O23 ?_
 have ⟨t9, ht9, h⟩ := bE h
 refine sqt (.d (db t9)) rfl (fun hb => by subst hb; exact wA (lq rfl) rfl (zQ8 ht9)) ?_
 refine q14 ?_
 have ⟨b11, hb11, h⟩ := bE h
 refine yH ((zC (lq rfl) rfl).bool (oi hb11)) ?_
 refine q59 (.ip (eNorm.cells a0) (0 + 2)) z5T ?_
 refine sqt (.d (eSet.dv a0.Excluded)) rfl (fun hb => by subst hb; exact zD1 (lq rfl) G26 rfl rfl rfl) ?_
 have ⟨t14, ht14, h⟩ := bE h
 refine sqt (.d (db t14)) rfl (fun hb => by subst hb; exact wA (lq rfl) rfl (zQ9 ht14)) ?_
 refine Q43 ?_
 cases h
 refine zB ?_
 exact zH rfl
theorem zRB {a0 r} (h : zEU a0 = some r) : zF Tryz.prog 25 [(eCollation.dv a0)] [(db r)] := by
 refine co Tryz.func25 ?_; intro _ _ _ _
 unfold zEU at h
 refine Q71 ?_
 refine Q59 ?_
 refine Q90 ?_
 refine q5 S29 ?_
 refine q48 ?_
 have ⟨b8, hb8, h⟩ := bE h
 refine yH ((zC (lq rfl) rfl).bool (oi hb8)) ?_
 refine q29 (.ip (eCollation.cells a0) (0 + 1)) zP3 ?_
 refine q30 (.d (zR eGroup a0.Groups)) O30 ?_
 refine q88 (.d (di (a0.Groups.length : Int))) S30 ?_
 refine q58 (.d (db (decide (8 < (a0.Groups.length : Int))))) ?_
 refine Q50 ?_
 refine z6 h (fun h => ?_) (fun h => ?_)
 ·
  refine Q3 ?_
  cases h
  refine zB ?_
  exact zH rfl
 ·
  refine Q98 ?_
  have ⟨y1, hy1, h⟩ := bE h
  refine zN y1 (.exit 0) (fun y1 => ⟨[], []⟩) .ret (fun y1 => ⟨[(2, .d (db y1))], []⟩) ?_ ?_ ?_
  ·
   refine zD (fun x => ⟨[(1, .d (.pt (eCollation.cells a0))), (3, .d (di x))], []⟩) hy1 (wc) ?_
   rintro v3 sy1 p1
   replace p1 : zAM a0 v3 = some sy1 := p1
   unfold zAM at p1
   refine Q4 ?_
   refine Q90 ?_
   refine q5 S29 ?_
   refine Q6 ?_
   refine z6 p1 (fun p1 => ?_) (fun p1 => ?_)
   ·
    refine Q30 ?_
    refine Q90 ?_
    refine q0 ?_
    have ⟨t24, ht24, p1⟩ := bE p1
    refine q13 S29 ht24 ?_
    refine q44 zF5 ?_
    refine yH (z0 (en := eEntry) (l := a0.Entries) (i := v3) (v := t24) (off := 0) (lq rfl) O33 rfl ht24 rfl) ?_
    refine q5 yF ?_
    refine q48 ?_
    have ⟨b29, hb29, p1⟩ := bE p1
    refine yH ((zC (lq rfl) rfl).bool (oi hb29)) ?_
    refine q29 (.ip (eCollation.cells a0) (0 + 0)) zWL ?_
    refine q30 (.d (zR eEntry a0.Entries)) O29 ?_
    refine q39 (.d (di v3)) ?_
    have ⟨t33, ht33, p1⟩ := bE p1
    refine sqf (.ip (eEntry.all a0.Entries) (v3.toNat * eEntry.size)) rfl (fun hb => by subst hb; exact kJ (en := eEntry) (lq rfl) S29 rfl rfl ht33) ?_
    refine z9I (.ip (eEntry.all a0.Entries) (v3.toNat * eEntry.size + 1)) zJJ ?_
    refine sqf (.d (zR eElement t33.Elements)) rfl (fun hb => by subst hb; exact z0 (en := eEntry) (l := a0.Entries) (i := v3) (v := t33) (off := 1) (lq rfl) O38 rfl ht33 rfl) ?_
    refine q88 (.d (di (t33.Elements.length : Int))) S38 ?_
    refine q58 (.d (db (decide (20 < (t33.Elements.length : Int))))) ?_
    refine Q50 ?_
    refine z6 p1 (fun p1 => ?_) (fun p1 => ?_)
    ·
     refine Q16 ?_
     cases p1
     intro q; cases q
     exact ⟨rfl, wc⟩
    ·
     refine Q24 ?_
     cases p1
     exact wc
   ·
    refine zG ?_
    cases p1
    intro q; cases q
    exact ⟨rfl, wc⟩
  ·
   rintro y1 rfl
   replace h := eL h
   refine Q3 ?_
   cases h
   refine zB ?_
   exact zH rfl
  ·
   rintro y1 rfl
   replace h := eR h
   cases h
   exact zH rfl
theorem zWX {a0 r} (h : zHH a0 = some r) : zF Tryz.prog 7 [(eUnicodetextlaw43_Case.dv a0)] [(db r)] := by
 refine co Tryz.func7 ?_; intro _ _ _ _
 unfold zHH at h
 refine Q0 ?_
 refine yFK ?_
 refine Q47 ?_
 refine q7 zWM ?_
 refine q89 G28 ?_
 have ⟨t5, ht5, h⟩ := bE h
 refine q6 (zRA ht5) ?_
 have ⟨b6, hb6, h⟩ := bE h
 refine yH ((zC (lq rfl) rfl).bool (oi hb6)) ?_
 refine q59 (.ip (eUnicodetextlaw43_Case.cells a0) (0 + 3)) zWN ?_
 refine sqt (.d (eCollation.dv a0.C)) rfl (fun hb => by subst hb; exact zD1 (lq rfl) G32 rfl rfl rfl) ?_
 have ⟨t9, ht9, h⟩ := bE h
 refine sqt (.d (db t9)) rfl (fun hb => by subst hb; exact wA (lq rfl) rfl (zRB ht9)) ?_
 refine q14 ?_
 have ⟨b11, hb11, h⟩ := bE h
 refine yH ((zC (lq rfl) rfl).bool (oi hb11)) ?_
 refine q59 (.ip (eUnicodetextlaw43_Case.cells a0) (0 + 8)) zWO ?_
 refine q63 (.d (zR eI a0.Text)) O33 ?_
 refine z2O (.d (di (a0.Text.length : Int))) yF ?_
 refine q54 (.d (db (decide ((a0.Text.length : Int) ≤ 12)))) ?_
 refine Q43 ?_
 cases h
 refine zB ?_
 exact zH rfl
theorem zDQ {a0 r : (List Int)} (h : xJ a0 = some r) : GC Tryz.prog 27 [.d (zR eI a0)] [] [] [.row 5] [(5, .row 3 eI.size false (eI.all r))] := by
 unfold xJ at h
 cases a0 with
 | nil =>
  refine zV9 (by decide) fun B c => ?_
  refine zCN Tryz.func27 (by kernel_rfl) rfl (lq rfl) (lq rfl) fun w0 I0 hG0 p0 => ?_
  refine Q44 ?_
  refine yH (zSL (lq rfl) Tryz.underlying33 rfl) ?_
  refine zJ ?_
  refine zPM rfl ⟨fun c1 => ?_, fun c1 => ?_⟩
  ·
   obtain ⟨rfl, _⟩ := zLZ h
   refine Q3 ?_
   refine zQ (uD (t := 2) 5 3 eI.size (lq rfl) (lq rfl) rfl rfl) ?_
   refine zB ?_
   exact ⟨⟨_, _, rfl, rfl, rfl⟩, rfl, trivial⟩
  ·
   refine zP ?_
   refine Q0 ?_
   refine q80 yF ?_
   refine q0 ?_
   refine zHY (zL4 (t := 6) eI.size (lq rfl) rfl) ?_ (by simp)
   refine yW rfl (k7 (en := eI) (l := []) (m := []) (lq rfl) yF rfl rfl rfl h (by decide) (by decide) rfl rfl) ?_
   refine Q17 ?_
   refine zB ?_
   exact ⟨⟨_, _, rfl, rfl, rfl⟩, rfl, trivial⟩
 | cons x l =>
  refine zCN Tryz.func27 (by kernel_rfl) rfl (lq rfl) (lq rfl) fun w0 I0 hG0 p0 => ?_
  refine Q44 ?_
  refine yH (zZ5 (lq rfl) Tryz.underlying33 rfl (z5L (by decide))) ?_
  refine zJ ?_
  refine zPM rfl ⟨fun c1 => (by cases c1), fun c1 => ?_⟩
  refine Q48 ?_
  refine q80 yF ?_
  refine q0 ?_
  refine yW rfl (k7 (en := eI) (l := []) (m := x :: l) (lq rfl) yF rfl rfl rfl h (by decide) (by decide) rfl rfl) ?_
  refine Q17 ?_
  refine zB ?_
  exact ⟨⟨_, _, rfl, rfl, rfl⟩, rfl, trivial⟩
theorem zE6 {a0 r} (h : uF a0 = some r) : zF Tryz.prog 50 [(di a0)] [(db r)] := by
 refine co Tryz.func50 ?_; intro _ _ _ _
 unfold uF at h
 refine Q57 ?_
 refine q37 ?_
 have ⟨b5, hb5, h⟩ := bE h
 refine yH ((zC (lq rfl) rfl).bool (oi hb5)) ?_
 refine q12 (.d (di a0)) ?_
 refine q54 (.d (db (decide (a0 ≤ 65535)))) ?_
 refine Q43 ?_
 cases h
 refine zB ?_
 exact zH rfl
theorem zK7 {a0 r} (h : zAN a0 = some r) : zF Tryz.prog 73 [(ds a0)] [(db r)] := by
 refine co Tryz.func73 ?_; intro _ _ _ _
 unfold zAN at h
 refine Q44 ?_
 refine z9J Tryz.underlying9 ?_
 refine Q25 ?_
 have ⟨y1, hy1, h⟩ := bE h
 refine zN y1 (.exit 0) (fun y1 => ⟨[(0, .d (ds a0))], []⟩) .ret (fun y1 => ⟨[(2, .d (db y1))], []⟩) ?_ ?_ ?_
 ·
  refine zD (fun x => ⟨[(0, .d (ds a0)), (6, .d (di (a0.length : Int))), (7, .d (di x))], []⟩) hy1 (wc) ?_
  rintro v7 sy1 p1
  replace p1 : j6 a0 v7 = some sy1 := p1
  unfold j6 at p1
  refine Q27 ?_
  refine z6 p1 (fun p1 => ?_) (fun p1 => ?_)
  ·
   refine Q8 ?_
   refine Q35 ?_
   refine Q13 ?_
   have ⟨t12, ht12, p1⟩ := bE p1
   refine z9K Tryz.underlying9 ht12 ?_
   refine Q22 ?_
   refine q37 ?_
   have ⟨b15, hb15, p1⟩ := bE p1
   refine yH ((zC (lq rfl) rfl).bool (oi hb15)) ?_
   refine q12 (.d (dby t12)) ?_
   refine q54 (.d (db (decide (t12 ≤ 90)))) ?_
   refine q14 ?_
   have ⟨b19, hb19, p1⟩ := bE p1
   refine yH ((zC (lq rfl) rfl).bool (oi hb19)) ?_
   refine q39 (.d (dby t12)) ?_
   refine q98 (.d (db (decide (97 ≤ t12)))) ?_
   have ⟨b22, hb22, p1⟩ := bE p1
   refine sqf (.d (db b22)) rfl (fun hb => by subst hb; exact (zC (lq rfl) rfl).bool (oi hb22)) ?_
   refine jW (x := .d (dby t12)) rfl rfl rfl (lq rfl) (lq rfl) rfl (fun hb => by obtain ⟨hb, hb1⟩ := zM hb; obtain rfl := gF hb; obtain rfl : b22 = true := hb1; exact zC (lq rfl) rfl) ?_
   refine jW (x := .d (db (decide (t12 ≤ 122)))) rfl rfl rfl (lq rfl) (lq rfl) rfl (fun hb => by obtain ⟨hb, hb1⟩ := zM hb; obtain rfl := gF hb; obtain rfl : b22 = true := hb1; exact zHE (lq rfl) rfl rfl) ?_
   refine q81 (.d (db (b22 && (decide (t12 ≤ 122))))) ?_
   refine q19 ?_
   have ⟨b27, hb27, p1⟩ := bE p1
   refine yH ((zC (lq rfl) rfl).bool (oi hb27)) ?_
   refine q39 (.d (dby t12)) ?_
   refine q98 (.d (db (decide (48 ≤ t12)))) ?_
   have ⟨b30, hb30, p1⟩ := bE p1
   refine sqf (.d (db b30)) rfl (fun hb => by subst hb; exact (zC (lq rfl) rfl).bool (oi hb30)) ?_
   refine jW (x := .d (dby t12)) rfl rfl rfl (lq rfl) (lq rfl) rfl (fun hb => by obtain ⟨hb, hb1⟩ := zM hb; obtain rfl := gF hb; obtain rfl : b30 = true := hb1; exact zC (lq rfl) rfl) ?_
   refine jW (x := .d (db (decide (t12 ≤ 57)))) rfl rfl rfl (lq rfl) (lq rfl) rfl (fun hb => by obtain ⟨hb, hb1⟩ := zM hb; obtain rfl := gF hb; obtain rfl : b30 = true := hb1; exact zHE (lq rfl) rfl rfl) ?_
   refine q81 (.d (db (b30 && (decide (t12 ≤ 57))))) ?_
   refine q19 ?_
   have ⟨b35, hb35, p1⟩ := bE p1
   refine yH ((zC (lq rfl) rfl).bool (oi hb35)) ?_
   refine q39 (.d (dby t12)) ?_
   refine q99 (.d (db (decide (t12 = 95)))) ?_
   refine q19 ?_
   refine Q38 ?_
   refine z6 p1 (fun p1 => ?_) (fun p1 => ?_)
   ·
    refine Q16 ?_
    cases p1
    intro q; cases q
    exact ⟨rfl, wc⟩
   ·
    refine Q53 ?_
    cases p1
    exact wc
  ·
   refine zG ?_
   cases p1
   intro q; cases q
   exact ⟨rfl, wc⟩
 ·
  rintro y1 rfl
  replace h := eL h
  refine Q2 ?_
  refine z2P ?_
  have ⟨b43, hb43, h⟩ := bE h
  refine yH ((zC (lq rfl) rfl).bool (oi hb43)) ?_
  refine q12 (.d (ds a0)) ?_
  refine sqt (.d (di (a0.length : Int))) rfl (fun hb => by subst hb; exact zPQ (s := a0) (lq rfl) Tryz.underlying9 rfl) ?_
  refine q54 (.d (db (decide ((a0.length : Int) ≤ 32)))) ?_
  refine Q43 ?_
  cases h
  refine zB ?_
  exact zH rfl
 ·
  rintro y1 rfl
  replace h := eR h
  cases h
  exact zH rfl
theorem zHN {a0 r} (h : xY a0 = some r) : zF Tryz.prog 51 [(eCollation.dv a0)] [(di r)] := by
 refine co Tryz.func51 ?_; intro _ _ _ _
 unfold xY at h
 refine Q71 ?_
 refine Q59 ?_
 refine q7 zP3 ?_
 refine q8 O30 ?_
 refine q5 S30 ?_
 refine Q25 ?_
 have ⟨y1, hy1, h⟩ := bE h
 refine zN y1 (.exit 0) (fun y1 => ⟨[(1, .d (.pt (eCollation.cells a0)))], []⟩) .ret (fun y1 => ⟨[(2, .d (di y1))], []⟩) ?_ ?_ ?_
 ·
  refine zD (fun x => ⟨[(1, .d (.pt (eCollation.cells a0))), (13, .d (zR eGroup a0.Groups)), (14, .d (di (a0.Groups.length : Int))), (15, .d (di x))], []⟩) hy1 (wc) ?_
  rintro v15 sy1 p1
  replace p1 : jJ a0 v15 = some sy1 := p1
  unfold jJ at p1
  refine Q27 ?_
  refine z6 p1 (fun p1 => ?_) (fun p1 => ?_)
  ·
   refine Q30 ?_
   have ⟨t17, ht17, p1⟩ := bE p1
   refine q13 S30 ht17 ?_
   refine z9L zWJ ht17 ?_
   refine z9M ?_
   refine q17 zWJ ?_
   refine zJ ?_
   refine zQ (zW (t := 4) (lq rfl) rfl rfl rfl) ?_
   refine Q0 ?_
   refine q7 zM8 ?_
   refine q8 O9 ?_
   have ⟨t21, ht21, p1⟩ := bE p1
   refine q6 (zK7 ht21) ?_
   refine Q38 ?_
   refine z6 p1 (fun p1 => ?_) (fun p1 => ?_)
   ·
    refine Q16 ?_
    cases p1
    intro q; cases q
    exact ⟨rfl, wc⟩
   ·
    refine Q53 ?_
    cases p1
    exact wc
  ·
   refine zG ?_
   cases p1
   intro q; cases q
   exact ⟨rfl, wc⟩
 ·
  rintro y1 rfl
  replace h := eL h
  refine Q0 ?_
  refine z51 ?_
  refine Q17 ?_
  refine Q32 ?_
  refine q7 zP3 ?_
  refine q8 O30 ?_
  refine q5 S30 ?_
  refine Q25 ?_
  have ⟨y2, hy2, h⟩ := bE h
  refine zN y2 (.exit 2) (fun y2 => ⟨[(1, .d (.pt (eCollation.cells a0)))], []⟩) .ret (fun y2 => ⟨[(2, .d (di y2))], []⟩) ?_ ?_ ?_
  ·
   refine zD (fun x => ⟨[(1, .d (.pt (eCollation.cells a0))), (5, .row 24), (26, .d (zR eGroup a0.Groups)), (27, .d (di (a0.Groups.length : Int))), (28, .d (di x.1))], [(24, .map (wU kS eB x.2))]⟩) hy2 (wc) ?_
   rintro ⟨v28, r24⟩ sy2 p2
   replace p2 : k6 a0 v28 r24 = some sy2 := p2
   unfold k6 at p2
   refine Q27 ?_
   refine z6 p2 (fun p2 => ?_) (fun p2 => ?_)
   ·
    refine Q30 ?_
    have ⟨t30, ht30, p2⟩ := bE p2
    refine q13 S30 ht30 ?_
    refine z9L zWJ ht30 ?_
    refine z9M ?_
    refine q17 zWJ ?_
    refine zJ ?_
    refine zQ (zW (t := 7) (lq rfl) rfl rfl rfl) ?_
    refine Q32 ?_
    refine q11 ?_
    refine q7 zM8 ?_
    refine q8 O9 ?_
    refine yH (z5B (kv := kS) (ev := eB) (mp := r24) (k := t30.Name) (zero := false) (lq rfl) yFC K9 rfl rfl rfl (fun _ _ => .v _)) ?_
    refine zJ ?_
    refine z6 p2 (fun p2 => ?_) (fun p2 => ?_)
    ·
     refine Q16 ?_
     cases p2
     intro q; cases q
     exact ⟨rfl, wc⟩
    ·
     refine zP <| Q84 ?_
     refine q7 zM8 ?_
     refine q8 O9 ?_
     refine z9N yFC K9 ?_
     refine zJ <| Q29 ?_
     cases p2
     exact wc
   ·
    refine zG ?_
    cases p2
    intro q; cases q
    exact ⟨rfl, wc⟩
  ·
   rintro y2 rfl
   replace h := eL h
   refine Q32 ?_
   refine q7 zP3 ?_
   refine q8 O30 ?_
   refine q5 S30 ?_
   refine Q25 ?_
   have ⟨y3, hy3, h⟩ := bE h
   refine zN y3 (.exit 4) (fun y3 => ⟨[(1, .d (.pt (eCollation.cells a0)))], []⟩) .ret (fun y3 => ⟨[(2, .d (di y3))], []⟩) ?_ ?_ ?_
   ·
    refine zD (fun x => ⟨[(1, .d (.pt (eCollation.cells a0))), (41, .d (zR eGroup a0.Groups)), (42, .d (di (a0.Groups.length : Int))), (43, .d (di x))], []⟩) hy3 (wc) ?_
    rintro v43 sy3 p3
    replace p3 : jK a0 v43 = some sy3 := p3
    unfold jK at p3
    refine Q27 ?_
    refine z6 p3 (fun p3 => ?_) (fun p3 => ?_)
    ·
     refine Q30 ?_
     have ⟨t45, ht45, p3⟩ := bE p3
     refine q13 S30 ht45 ?_
     refine z9L zWJ ht45 ?_
     refine z9M ?_
     refine q17 zWJ ?_
     refine zJ ?_
     refine zQ (zW (t := 9) (lq rfl) rfl rfl rfl) ?_
     refine Q0 ?_
     refine q7 zM9 ?_
     refine q8 O3 ?_
     refine q3 ?_
     have ⟨b50, hb50, p3⟩ := bE p3
     refine yH ((zC (lq rfl) rfl).bool (oi hb50)) ?_
     refine q29 (.ip (eGroup.cells t45) (0 + 2)) zNA ?_
     refine q30 (.d (di t45.Hi)) O3 ?_
     refine q29 (.ip (eGroup.cells t45) (0 + 1)) zM9 ?_
     refine q30 (.d (di t45.Lo)) O3 ?_
     refine sqf (.d (db (decide (t45.Hi < t45.Lo)))) rfl (fun hb => by subst hb; exact zLP (lq rfl) rfl rfl) ?_
     refine q19 ?_
     have ⟨b57, hb57, p3⟩ := bE p3
     refine yH ((zC (lq rfl) rfl).bool (oi hb57)) ?_
     refine q29 (.ip (eGroup.cells t45) (0 + 2)) zNA ?_
     refine q30 (.d (di t45.Hi)) O3 ?_
     refine q29 (.ip (eCollation.cells a0) (0 + 2)) zKT ?_
     refine q30 (.d (di a0.Base)) O3 ?_
     refine q98 (.d (db (decide (a0.Base ≤ t45.Hi)))) ?_
     refine Q50 ?_
     refine z6 p3 (fun p3 => ?_) (fun p3 => ?_)
     ·
      refine Q16 ?_
      cases p3
      intro q; cases q
      exact ⟨rfl, wc⟩
     ·
      refine Q53 ?_
      cases p3
      exact wc
    ·
     refine zG ?_
     cases p3
     intro q; cases q
     exact ⟨rfl, wc⟩
   ·
    rintro y3 rfl
    replace h := eL h
    refine Q32 ?_
    refine q7 zP3 ?_
    refine q8 O30 ?_
    refine q5 S30 ?_
    refine Q25 ?_
    have ⟨y4, hy4, h⟩ := bE h
    refine zN y4 (.exit 6) (fun y4 => ⟨[], []⟩) .ret (fun y4 => ⟨[(2, .d (di y4))], []⟩) ?_ ?_ ?_
    ·
     refine zD (fun x => ⟨[(1, .d (.pt (eCollation.cells a0))), (66, .d (zR eGroup a0.Groups)), (67, .d (di (a0.Groups.length : Int))), (68, .d (di x))], []⟩) hy4 (wc) ?_
     rintro v68 sy4 p4
     replace p4 : jL a0 v68 = some sy4 := p4
     unfold jL at p4
     refine Q27 ?_
     refine z6 p4 (fun p4 => ?_) (fun p4 => ?_)
     ·
      refine Q8 ?_
      refine Q2 ?_
      have ⟨t71, ht71, p4⟩ := bE p4
      refine q13 S30 ht71 ?_
      refine z9L zWJ ht71 ?_
      refine z9M ?_
      refine q1 ?_
      refine q17 zWJ ?_
      refine zJ ?_
      refine zQ (zW (t := 11) (lq rfl) rfl rfl rfl) ?_
      refine kP ?_
      refine z2 MX rfl ?_
      refine q4 ?_
      refine zYW ?_
      have ⟨b75, hb75, p4⟩ := bE p4
      refine w8 ((zC (lq rfl) rfl).bool (oi hb75)) ?_
      refine q51 (.ip (eGroup.cells t71) (0 + 1)) zM9 ?_
      refine q70 (.d (di t71.Lo)) O3 ?_
      refine q51 (.ip (eCollation.cells a0) (0 + 1)) zP3 ?_
      refine q70 (.d (zR eGroup a0.Groups)) O30 ?_
      refine q49 (.d (di v68)) ?_
      refine z2Q (.d (di (wi (v68 - 1)))) ?_
      have ⟨t82, ht82, p4⟩ := bE p4
      refine dat (.ip (eGroup.all a0.Groups) ((wi (v68 - 1)).toNat * eGroup.size)) rfl (fun hb => by subst hb; exact kJ (en := eGroup) (lq rfl) S30 rfl rfl ht82) ?_
      refine q90 (.ip (eGroup.all a0.Groups) ((wi (v68 - 1)).toNat * eGroup.size + 2)) zNA ?_
      refine dat (.d (di t82.Hi)) rfl (fun hb => by subst hb; exact z0 (en := eGroup) (l := a0.Groups) (i := (wi (v68 - 1))) (v := t82) (off := 2) (lq rfl) O3 rfl ht82 rfl) ?_
      refine dat (.d (di (wi (t82.Hi + 1)))) rfl (fun hb => by subst hb; exact zSF (lq rfl) rfl rfl) ?_
      refine dat (.d (db (!decide (t71.Lo = (wi (t82.Hi + 1)))))) rfl (fun hb => by subst hb; exact zNV (lq rfl) rfl rfl) ?_
      refine Q91 ?_
      refine z6 p4 (fun p4 => ?_) (fun p4 => ?_)
      ·
       refine Q16 ?_
       cases p4
       intro q; cases q
       exact ⟨rfl, wc⟩
      ·
       refine Q53 ?_
       cases p4
       exact wc
     ·
      refine zG ?_
      cases p4
      intro q; cases q
      exact ⟨rfl, wc⟩
    ·
     rintro y4 rfl
     replace h := eL h
     refine Q3 ?_
     cases h
     refine zB ?_
     exact zH rfl
    ·
     rintro y4 rfl
     replace h := eR h
     cases h
     exact zH rfl
   ·
    rintro y3 rfl
    replace h := eR h
    cases h
    exact zH rfl
  ·
   rintro y2 rfl
   replace h := eR h
   cases h
   exact zH rfl
 ·
  rintro y1 rfl
  replace h := eR h
  cases h
  exact zH rfl
theorem zBZ {a0 r} (h : vH a0 = some r) : zF Tryz.prog 71 [(di a0)] [(db r)] := by
 refine co Tryz.func71 ?_; intro _ _ _ _
 unfold vH at h
 refine Q57 ?_
 refine q37 ?_
 have ⟨b5, hb5, h⟩ := bE h
 refine yH ((zC (lq rfl) rfl).bool (oi hb5)) ?_
 refine q12 (.d (di a0)) ?_
 refine q54 (.d (db (decide (a0 ≤ 1114111)))) ?_
 refine Q43 ?_
 cases h
 refine zB ?_
 exact zH rfl
theorem zOF {a0 r} (h : zCP a0 = some r) : zF Tryz.prog 74 [(eElement.dv a0)] [(di r)] := by
 refine co Tryz.func74 ?_; intro _ _ _ _
 unfold zCP at h
 refine Q0 ?_
 refine yH (zLX (size := 4) (lq rfl) rfl rfl) ?_
 refine Q59 ?_
 refine q7 zN1 ?_
 refine q8 O3 ?_
 refine q7 zSS ?_
 refine q8 O3 ?_
 refine q7 zST ?_
 refine q8 O3 ?_
 refine z52 zM7 ?_
 refine Q25 ?_
 have ⟨y1, hy1, h⟩ := bE h
 refine zN y1 (.exit 0) (fun y1 => ⟨[(1, .d (.pt (eElement.cells a0)))], []⟩) .ret (fun y1 => ⟨[(2, .d (di y1))], []⟩) ?_ ?_ ?_
 ·
  refine zD (fun x => ⟨[(1, .d (.pt (eElement.cells a0))), (11, .d (eA3Int.dv ({ x0 := a0.Primary, x1 := a0.Secondary, x2 := a0.Tertiary } : A3Int))), (12, .d (di x))], []⟩) hy1 (wc) ?_
  rintro v12 sy1 p1
  replace p1 : vU a0 v12 = some sy1 := p1
  unfold vU at p1
  refine Q27 ?_
  refine z6 p1 (fun p1 => ?_) (fun p1 => ?_)
  ·
   refine Q30 ?_
   have ⟨t14, ht14, p1⟩ := bE p1
   refine yH (z5F (en := eI) (l := [({ x0 := a0.Primary, x1 := a0.Secondary, x2 := a0.Tertiary } : A3Int).x0, ({ x0 := a0.Primary, x1 := a0.Secondary, x2 := a0.Tertiary } : A3Int).x1, ({ x0 := a0.Primary, x1 := a0.Secondary, x2 := a0.Tertiary } : A3Int).x2]) (lq rfl) zM7 O3 (fun _ => rfl) rfl rfl rfl ht14) ?_
   refine Q22 ?_
   refine q3 ?_
   have ⟨b17, hb17, p1⟩ := bE p1
   refine yH ((zC (lq rfl) rfl).bool (oi hb17)) ?_
   refine q39 (.d (di t14)) ?_
   refine q58 (.d (db (decide (65535 < t14)))) ?_
   refine Q50 ?_
   refine z6 p1 (fun p1 => ?_) (fun p1 => ?_)
   ·
    refine Q16 ?_
    cases p1
    intro q; cases q
    exact ⟨rfl, wc⟩
   ·
    refine Q53 ?_
    cases p1
    exact wc
  ·
   refine zG ?_
   cases p1
   intro q; cases q
   exact ⟨rfl, wc⟩
 ·
  rintro y1 rfl
  replace h := eL h
  refine kP <| zY8 ?_
  refine q7 zN1 ?_
  refine q8 O3 ?_
  refine q33 ?_
  have ⟨b26, hb26, h⟩ := bE h
  refine yH ((zC (lq rfl) rfl).bool (oi hb26)) ?_
  refine q59 (.ip (eElement.cells a0) (0 + 1)) zSS ?_
  refine q63 (.d (di a0.Secondary)) O3 ?_
  refine zYX (.d (db (decide (a0.Secondary = 0)))) ?_
  have ⟨b30, hb30, h⟩ := bE h
  refine sqt (.d (db b30)) rfl (fun hb => by subst hb; exact (zC (lq rfl) rfl).bool (oi hb30)) ?_
  refine jW (x := .ip (eElement.cells a0) (0 + 2)) rfl rfl rfl (lq rfl) (lq rfl) rfl (fun hb => by obtain ⟨hb, hb1⟩ := zM hb; obtain rfl : b26 = true := hb; obtain rfl := gF hb1; exact wD (lq rfl) zST rfl) ?_
  refine jW (x := .d (di a0.Tertiary)) rfl rfl rfl (lq rfl) (lq rfl) rfl (fun hb => by obtain ⟨hb, hb1⟩ := zM hb; obtain rfl : b26 = true := hb; obtain rfl := gF hb1; exact xU (lq rfl) O3 rfl rfl) ?_
  refine jW (x := .d (db (decide (a0.Tertiary = 0)))) rfl rfl rfl (lq rfl) (lq rfl) rfl (fun hb => by obtain ⟨hb, hb1⟩ := zM hb; obtain rfl : b26 = true := hb; obtain rfl := gF hb1; exact zIH (lq rfl) rfl rfl) ?_
  refine z9O (.d (db (b30 || (decide (a0.Tertiary = 0))))) ?_
  refine Q43 ?_
  refine z6 h (fun h => ?_) (fun h => ?_)
  ·
   refine Q3 ?_
   cases h
   refine zB ?_
   exact zH rfl
  ·
   refine Q0 ?_
   refine q7 zSS ?_
   refine q8 O3 ?_
   refine q33 ?_
   have ⟨b40, hb40, h⟩ := bE h
   refine yH ((zC (lq rfl) rfl).bool (oi hb40)) ?_
   refine q59 (.ip (eElement.cells a0) (0 + 2)) zST ?_
   refine q63 (.d (di a0.Tertiary)) O3 ?_
   refine zYX (.d (db (decide (a0.Tertiary = 0)))) ?_
   refine Q43 ?_
   refine z6 h (fun h => ?_) (fun h => ?_)
   ·
    refine Q3 ?_
    cases h
    refine zB ?_
    exact zH rfl
   ·
    refine Q0 ?_
    refine q7 yBV ?_
    refine q8 O4 ?_
    have ⟨b48, hb48, h⟩ := bE h
    refine yH ((zC (lq rfl) rfl).bool (oi hb48)) ?_
    refine q59 (.ip (eElement.cells a0) (0 + 0)) zN1 ?_
    refine q63 (.d (di a0.Primary)) O3 ?_
    refine zYX (.d (db (decide (a0.Primary = 0)))) ?_
    refine Q43 ?_
    refine z6 h (fun h => ?_) (fun h => ?_)
    ·
     refine Q3 ?_
     cases h
     refine zB ?_
     exact zH rfl
    ·
     refine Q58 ?_
     cases h
     refine zB ?_
     exact zH rfl
 ·
  rintro y1 rfl
  replace h := eR h
  cases h
  exact zH rfl
theorem zH9 {a0 a1 r} (h : wV a0 a1 = some r) : zF Tryz.prog 52 [(eEntry.dv a0), (di a1)] [(di r)] := by
 refine co Tryz.func52 ?_; intro _ _ _ _
 unfold wV at h
 refine Q0 ?_
 refine yH (zLX (size := 2) (lq rfl) rfl rfl) ?_
 refine Q59 ?_
 refine q7 zF5 ?_
 refine q8 O33 ?_
 refine q5 yF ?_
 refine q3 ?_
 have ⟨b16, hb16, h⟩ := bE h
 refine yH ((zC (lq rfl) rfl).bool (oi hb16)) ?_
 refine q29 (.ip (eEntry.cells a0) (0 + 0)) zF5 ?_
 refine q30 (.d (zR eI a0.Codes)) O33 ?_
 refine q88 (.d (di (a0.Codes.length : Int))) yF ?_
 refine q58 (.d (db (decide (8 < (a0.Codes.length : Int))))) ?_
 refine q19 ?_
 have ⟨b22, hb22, h⟩ := bE h
 refine yH ((zC (lq rfl) rfl).bool (oi hb22)) ?_
 refine q29 (.ip (eEntry.cells a0) (0 + 1)) zJJ ?_
 refine q30 (.d (zR eElement a0.Elements)) O38 ?_
 refine q88 (.d (di (a0.Elements.length : Int))) S38 ?_
 refine q58 (.d (db (decide (16 < (a0.Elements.length : Int))))) ?_
 refine Q50 ?_
 refine z6 h (fun h => ?_) (fun h => ?_)
 ·
  refine Q3 ?_
  cases h
  refine zB ?_
  exact zH rfl
 ·
  refine Q79 ?_
  refine q7 zF5 ?_
  refine q8 O33 ?_
  refine Q99 ?_
  have ⟨y1, hy1, h⟩ := bE h
  refine zN y1 (.exit 0) (fun y1 => ⟨[(1, .d (di a1)), (2, .d (.pt (eEntry.cells a0)))], []⟩) .ret (fun y1 => ⟨[(4, .d (di y1))], []⟩) ?_ ?_ ?_
  ·
   refine zD (fun x => ⟨[(1, .d (di a1)), (2, .d (.pt (eEntry.cells a0))), (29, .d (zR eI a0.Codes)), (30, .d (di (a0.Codes.length : Int))), (31, .d (di x))], []⟩) hy1 (wc) ?_
   rintro v31 sy1 p1
   replace p1 : k9 a0 v31 = some sy1 := p1
   unfold k9 at p1
   refine Q27 ?_
   refine z6 p1 (fun p1 => ?_) (fun p1 => ?_)
   ·
    refine Q30 ?_
    have ⟨t33, ht33, p1⟩ := bE p1
    refine q13 yF ht33 ?_
    refine q35 O3 ht33 ?_
    refine Q22 ?_
    have ⟨t36, ht36, p1⟩ := bE p1
    refine q6 (zBZ ht36) ?_
    refine Q38 ?_
    refine z6 p1 (fun p1 => ?_) (fun p1 => ?_)
    ·
     refine Q16 ?_
     cases p1
     intro q; cases q
     exact ⟨rfl, wc⟩
    ·
     refine Q53 ?_
     cases p1
     exact wc
   ·
    refine zG ?_
    cases p1
    intro q; cases q
    exact ⟨rfl, wc⟩
  ·
   rintro y1 rfl
   replace h := eL h
   refine Q32 ?_
   refine q7 zJJ ?_
   refine q8 O38 ?_
   refine q5 S38 ?_
   refine Q25 ?_
   have ⟨y2, hy2, h⟩ := bE h
   refine zN y2 (.exit 2) (fun y2 => ⟨[(1, .d (di a1)), (2, .d (.pt (eEntry.cells a0)))], []⟩) .ret (fun y2 => ⟨[(4, .d (di y2))], []⟩) ?_ ?_ ?_
   ·
    refine zD (fun x => ⟨[(1, .d (di a1)), (2, .d (.pt (eEntry.cells a0))), (40, .d (zR eElement a0.Elements)), (41, .d (di (a0.Elements.length : Int))), (42, .d (di x))], []⟩) hy2 (wc) ?_
    rintro v42 sy2 p2
    replace p2 : jS a0 v42 = some sy2 := p2
    unfold jS at p2
    refine Q27 ?_
    refine z6 p2 (fun p2 => ?_) (fun p2 => ?_)
    ·
     refine Q30 ?_
     have ⟨t44, ht44, p2⟩ := bE p2
     refine q13 S38 ht44 ?_
     refine yH (xE (en := eElement) (l := a0.Elements) (i := v42) (v := t44) (off := 0) (lq rfl) G63 rfl ht44 rfl rfl (by decide)) ?_
     refine yW rfl (kO (zs := [(.int IntKind.i64 (0)), (.int IntKind.i64 (0)), (.int IntKind.i64 (0)), (.bool false)]) (lq rfl) (by kernel_rfl) rfl rfl) ?_
     refine q17 G63 ?_
     refine zJ ?_
     refine zQ (zW (t := 8) (lq rfl) rfl rfl rfl) ?_
     refine Q0 ?_
     refine q20 G63 ?_
     have ⟨t47, ht47, p2⟩ := bE p2
     refine q6 (zOF ht47) ?_
     refine Q72 ?_
     refine z6 p2 (fun p2 => ?_) (fun p2 => ?_)
     ·
      refine Q35 ?_
      refine zB ?_
      cases p2
      intro q; cases q
      exact ⟨rfl, wc⟩
     ·
      refine Q53 ?_
      cases p2
      exact wc
    ·
     refine zG ?_
     cases p2
     intro q; cases q
     exact ⟨rfl, wc⟩
   ·
    rintro y2 rfl
    replace h := eL h
    refine Q32 ?_
    refine q7 zJJ ?_
    refine q8 O38 ?_
    refine q5 S38 ?_
    refine Q25 ?_
    have ⟨y3, hy3, h⟩ := bE h
    refine zN y3 (.exit 4) (fun y3 => ⟨[], []⟩) .ret (fun y3 => ⟨[(4, .d (di y3))], []⟩) ?_ ?_ ?_
    ·
     refine zD (fun x => ⟨[(1, .d (di a1)), (53, .d (zR eElement a0.Elements)), (54, .d (di (a0.Elements.length : Int))), (55, .d (di x))], []⟩) hy3 (wc) ?_
     rintro v55 sy3 p3
     replace p3 : jA a0 a1 v55 = some sy3 := p3
     unfold jA at p3
     refine Q27 ?_
     refine z6 p3 (fun p3 => ?_) (fun p3 => ?_)
     ·
      refine Q30 ?_
      have ⟨t57, ht57, p3⟩ := bE p3
      refine q13 S38 ht57 ?_
      refine yH (xE (en := eElement) (l := a0.Elements) (i := v55) (v := t57) (off := 0) (lq rfl) G63 rfl ht57 rfl rfl (by decide)) ?_
      refine yW rfl (kO (zs := [(.int IntKind.i64 (0)), (.int IntKind.i64 (0)), (.int IntKind.i64 (0)), (.bool false)]) (lq rfl) (by kernel_rfl) rfl rfl) ?_
      refine q17 G63 ?_
      refine zJ ?_
      refine zQ (zW (t := 11) (lq rfl) rfl rfl rfl) ?_
      refine Q0 ?_
      refine q7 zN1 ?_
      refine q8 O3 ?_
      refine q0 ?_
      refine Q92 ?_
      refine z6 p3 (fun p3 => ?_) (fun p3 => ?_)
      ·
       refine Q16 ?_
       cases p3
       intro q; cases q
       exact ⟨rfl, wc⟩
      ·
       refine Q53 ?_
       cases p3
       exact wc
     ·
      refine zG ?_
      cases p3
      intro q; cases q
      exact ⟨rfl, wc⟩
    ·
     rintro y3 rfl
     replace h := eL h
     refine Q3 ?_
     cases h
     refine zB ?_
     exact zH rfl
    ·
     rintro y3 rfl
     replace h := eR h
     cases h
     exact zH rfl
   ·
    rintro y2 rfl
    replace h := eR h
    cases h
    exact zH rfl
  ·
   rintro y1 rfl
   replace h := eR h
   cases h
   exact zH rfl
theorem zIO {a0 r} (h : zCQ a0 = some r) : zF Tryz.prog 101 [(di a0)] [(db r)] := by
 refine co Tryz.func101 ?_; intro _ _ _ _
 unfold zCQ at h
 refine Q3 ?_
 refine Q13 ?_
 refine q33 ?_
 refine Q1 ?_
 cases h
 refine zB ?_
 exact zH rfl
theorem xS {a0 a1 r} (h : jI a0 a1 = some r) : zF Tryz.prog 75 [(di a0), (di a1)] [(di r)] := by
 refine co Tryz.func75 ?_; intro _ _ _ _
 unfold jI at h
 refine Q57 ?_
 have ⟨t8, ht8, h⟩ := bE h
 refine q6 (zIO ht8) ?_
 refine Q22 ?_
 have ⟨t10, ht10, h⟩ := bE h
 refine q6 (zIO ht10) ?_
 refine Q1 ?_
 refine zY9 ?_
 refine z6 h (fun h => ?_) (fun h => ?_)
 ·
  refine zY9 ?_
  refine z6 h (fun h => ?_) (fun h => ?_)
  ·
   refine Q3 ?_
   cases h
   refine zB ?_
   exact zH rfl
  ·
   refine Q58 ?_
   cases h
   refine zB ?_
   exact zH rfl
 ·
  refine Q85 ?_
  refine zJ ?_
  refine z6 h (fun h => ?_) (fun h => ?_)
  ·
   refine Q3 ?_
   cases h
   refine zB ?_
   exact zH rfl
  ·
   refine zP <| Q67 ?_
   refine z6 h (fun h => ?_) (fun h => ?_)
   ·
    refine Q3 ?_
    cases h
    refine zB ?_
    exact zH rfl
   ·
    refine zP <| Q10 ?_
    refine Q60 ?_
    refine z6 h (fun h => ?_) (fun h => ?_)
    ·
     refine Q3 ?_
     cases h
     refine zB ?_
     exact zH rfl
    ·
     refine Q58 ?_
     cases h
     refine zB ?_
     exact zH rfl
theorem zKJ {a0 a1 r} (h : u6 a0 a1 = some r) : zF Tryz.prog 53 [(zR eI a0), (zR eI a1)] [(di r)] := by
 refine co Tryz.func53 ?_; intro _ _ _ _
 unfold u6 at h
 refine Q44 ?_
 refine q5 yF ?_
 refine q0 ?_
 refine q5 yF ?_
 refine z53 ?_
 refine Q25 ?_
 have ⟨y1, hy1, h⟩ := bE h
 refine zN y1 (.exit 0) (fun y1 => ⟨[(0, .d (zR eI a0)), (1, .d (zR eI a1))], []⟩) .ret (fun y1 => ⟨[(4, .d (di y1))], []⟩) ?_ ?_ ?_
 ·
  refine zD (fun x => ⟨[(0, .d (zR eI a0)), (1, .d (zR eI a1)), (10, .d (di (min (a0.length : Int) (a1.length : Int)))), (11, .d (di x))], []⟩) hy1 (wc) ?_
  rintro v11 sy1 p1
  replace p1 : xK a0 a1 v11 = some sy1 := p1
  unfold xK at p1
  refine Q27 ?_
  refine z6 p1 (fun p1 => ?_) (fun p1 => ?_)
  ·
   refine Q8 ?_
   refine Q2 ?_
   refine Q15 ?_
   refine z2 MX rfl ?_
   refine Q23 ?_
   have ⟨t16, ht16, p1⟩ := bE p1
   refine q21 yF ht16 ?_
   refine q65 O3 ht16 ?_
   refine Q23 ?_
   have ⟨t20, ht20, p1⟩ := bE p1
   refine q21 yF ht20 ?_
   refine q65 O3 ht20 ?_
   refine w8 (zNV (lq rfl) rfl rfl) ?_
   refine wB ?_
   refine z6 p1 (fun p1 => ?_) (fun p1 => ?_)
   ·
    refine kP ?_
    refine z2 MX rfl ?_
    refine Q23 ?_
    have ⟨t25, ht25, p1⟩ := bE p1
    refine q21 yF ht25 ?_
    refine q65 O3 ht25 ?_
    refine Q23 ?_
    have ⟨t29, ht29, p1⟩ := bE p1
    refine q21 yF ht29 ?_
    refine q65 O3 ht29 ?_
    have ⟨t31, ht31, p1⟩ := bE p1
    refine q25 (xS ht31) ?_
    refine Q49 ?_
    refine zB ?_
    cases p1
    intro q; cases q
    exact ⟨rfl, wc⟩
   ·
    refine Q53 ?_
    cases p1
    exact wc
  ·
   refine zG ?_
   cases p1
   intro q; cases q
   exact ⟨rfl, wc⟩
 ·
  rintro y1 rfl
  replace h := eL h
  refine Q2 ?_
  refine q5 yF ?_
  refine q0 ?_
  refine q5 yF ?_
  have ⟨t37, ht37, h⟩ := bE h
  refine q6 (xS ht37) ?_
  refine Q1 ?_
  cases h
  refine zB ?_
  exact zH rfl
 ·
  rintro y1 rfl
  replace h := eR h
  cases h
  exact zH rfl
theorem zGZ {a0 r} (h : xF a0 = some r) : zF Tryz.prog 26 [(eCollation.dv a0)] [(di r)] := by
 refine co Tryz.func26 ?_; intro _ _ _ _
 unfold xF at h
 refine Q71 ?_
 refine Q59 ?_
 refine q7 zKT ?_
 refine q8 O3 ?_
 refine q3 ?_
 have ⟨b10, hb10, h⟩ := bE h
 refine yH ((zC (lq rfl) rfl).bool (oi hb10)) ?_
 refine q29 (.ip (eCollation.cells a0) (0 + 2)) zKT ?_
 refine q30 (.d (di a0.Base)) O3 ?_
 refine q58 (.d (db (decide (65502 < a0.Base)))) ?_
 refine q19 ?_
 have ⟨b15, hb15, h⟩ := bE h
 refine yH ((zC (lq rfl) rfl).bool (oi hb15)) ?_
 refine q29 (.ip (eCollation.cells a0) (0 + 3)) z0E ?_
 refine q30 (.d (di a0.Second)) O3 ?_
 have ⟨t18, ht18, h⟩ := bE h
 refine sqf (.d (db t18)) rfl (fun hb => by subst hb; exact wA (lq rfl) rfl (zE6 ht18)) ?_
 refine z2R (.d (db (!t18))) ?_
 refine q19 ?_
 have ⟨b21, hb21, h⟩ := bE h
 refine yH ((zC (lq rfl) rfl).bool (oi hb21)) ?_
 refine q29 (.ip (eCollation.cells a0) (0 + 4)) z0F ?_
 refine q30 (.d (di a0.Third)) O3 ?_
 have ⟨t24, ht24, h⟩ := bE h
 refine sqf (.d (db t24)) rfl (fun hb => by subst hb; exact wA (lq rfl) rfl (zE6 ht24)) ?_
 refine z2R (.d (db (!t24))) ?_
 refine Q50 ?_
 refine z6 h (fun h => ?_) (fun h => ?_)
 ·
  refine Q3 ?_
  cases h
  refine zB ?_
  exact zH rfl
 ·
  refine Q79 ?_
  refine q20 G32 ?_
  have ⟨t28, ht28, h⟩ := bE h
  refine q6 (zHN ht28) ?_
  refine Q72 ?_
  refine z6 h (fun h => ?_) (fun h => ?_)
  ·
   refine Q35 ?_
   cases h
   refine zB ?_
   exact zH rfl
  ·
   refine Q79 ?_
   refine Q90 ?_
   refine q5 S29 ?_
   refine Q25 ?_
   have ⟨y1, hy1, h⟩ := bE h
   refine zN y1 (.exit 0) (fun y1 => ⟨[], []⟩) .ret (fun y1 => ⟨[(2, .d (di y1))], []⟩) ?_ ?_ ?_
   ·
    refine zD (fun x => ⟨[(1, .d (.pt (eCollation.cells a0))), (33, .d (zR eEntry a0.Entries)), (34, .d (di (a0.Entries.length : Int))), (35, .d (di x))], []⟩) hy1 (wc) ?_
    rintro v35 sy1 p1
    replace p1 : wE a0 v35 = some sy1 := p1
    unfold wE at p1
    refine Q27 ?_
    refine z6 p1 (fun p1 => ?_) (fun p1 => ?_)
    ·
     refine Q8 ?_
     refine Q2 ?_
     have ⟨t38, ht38, p1⟩ := bE p1
     refine q13 S29 ht38 ?_
     refine yH (xE (en := eEntry) (l := a0.Entries) (i := v35) (v := t38) (off := 0) (lq rfl) G45 rfl ht38 rfl rfl (by decide)) ?_
     refine yW rfl (kO (zs := [(.slice none 0 0), (.slice none 0 0)]) (lq rfl) (by kernel_rfl) rfl rfl) ?_
     refine q1 ?_
     refine q17 G45 ?_
     refine zJ ?_
     refine zQ (zW (t := 5) (lq rfl) rfl rfl rfl) ?_
     refine Q32 ?_
     refine q20 G45 ?_
     refine q7 zKT ?_
     refine q8 O3 ?_
     have ⟨t43, ht43, p1⟩ := bE p1
     refine q6 (zH9 ht43) ?_
     refine Q72 ?_
     refine z6 p1 (fun p1 => ?_) (fun p1 => ?_)
     ·
      refine Q35 ?_
      refine zB ?_
      cases p1
      intro q; cases q
      exact ⟨rfl, wc⟩
     ·
      refine Q5 ?_
      refine z2 MX rfl ?_
      refine q4 ?_
      refine zYW ?_
      have ⟨b49, hb49, p1⟩ := bE p1
      refine w8 ((zC (lq rfl) rfl).bool (oi hb49)) ?_
      refine q51 (.ip (eCollation.cells a0) (0 + 0)) zWL ?_
      refine q70 (.d (zR eEntry a0.Entries)) O29 ?_
      refine q49 (.d (di v35)) ?_
      refine z2Q (.d (di (wi (v35 - 1)))) ?_
      have ⟨t54, ht54, p1⟩ := bE p1
      refine dat (.ip (eEntry.all a0.Entries) ((wi (v35 - 1)).toNat * eEntry.size)) rfl (fun hb => by subst hb; exact kJ (en := eEntry) (lq rfl) S29 rfl rfl ht54) ?_
      refine q90 (.ip (eEntry.all a0.Entries) ((wi (v35 - 1)).toNat * eEntry.size + 0)) zF5 ?_
      refine dat (.d (zR eI t54.Codes)) rfl (fun hb => by subst hb; exact z0 (en := eEntry) (l := a0.Entries) (i := (wi (v35 - 1))) (v := t54) (off := 0) (lq rfl) O33 rfl ht54 rfl) ?_
      refine q51 (.ip (eEntry.cells t38) (0 + 0)) zF5 ?_
      refine q70 (.d (zR eI t38.Codes)) O33 ?_
      have ⟨t59, ht59, p1⟩ := bE p1
      refine dat (.d (di t59)) rfl (fun hb => by subst hb; exact wA (lq rfl) rfl (zKJ ht59)) ?_
      refine dat (.d (db (decide (0 ≤ t59)))) rfl (fun hb => by subst hb; exact zI3 (lq rfl) rfl rfl) ?_
      refine Q91 ?_
      refine z6 p1 (fun p1 => ?_) (fun p1 => ?_)
      ·
       refine Q16 ?_
       cases p1
       intro q; cases q
       exact ⟨rfl, wc⟩
      ·
       refine Q53 ?_
       cases p1
       exact wc
    ·
     refine zG ?_
     cases p1
     intro q; cases q
     exact ⟨rfl, wc⟩
   ·
    rintro y1 rfl
    replace h := eL h
    refine Q3 ?_
    cases h
    refine zB ?_
    exact zH rfl
   ·
    rintro y1 rfl
    replace h := eR h
    cases h
    exact zH rfl
theorem zG0 {a0 r} (h : zBM a0 = some r) : zF Tryz.prog 54 [(zR eI a0)] [(eA9Int.dv r)] := by
 refine co Tryz.func54 ?_; intro _ _ _ _
 unfold zBM at h
 refine Q0 ?_
 refine yW rfl (kO (zs := [(.int IntKind.i64 (0)), (.int IntKind.i64 (0)), (.int IntKind.i64 (0)), (.int IntKind.i64 (0)), (.int IntKind.i64 (0)), (.int IntKind.i64 (0)), (.int IntKind.i64 (0)), (.int IntKind.i64 (0)), (.int IntKind.i64 (0))]) (lq rfl) (by kernel_rfl) rfl rfl) ?_
 refine zJ <| Q2 ?_
 refine q5 yF ?_
 refine z52 A92 ?_
 refine yW rfl (kO (zs := [(.int IntKind.i64 (0)), (.int IntKind.i64 (0)), (.int IntKind.i64 (0)), (.int IntKind.i64 (0)), (.int IntKind.i64 (0)), (.int IntKind.i64 (0)), (.int IntKind.i64 (0)), (.int IntKind.i64 (0)), (.int IntKind.i64 (0))]) (lq rfl) (by kernel_rfl) rfl rfl) ?_
 refine q17 G92 ?_
 refine Q64 ?_
 refine yH (zV6 1 (lq rfl) A92 rfl (by decide)) ?_
 refine q0 ?_
 refine yW rfl (z84 (l := a0) (lq rfl) yF rfl rfl rfl rfl) ?_
 refine Q64 ?_
 refine yH ((zBB (lq rfl) G92 rfl rfl rfl rfl).data rfl) ?_
 refine q17 G92 ?_
 refine zJ ?_
 cases h
 refine zB ?_
 exact vT rfl rfl G92 rfl
theorem jZ  {a0}  {r : Colltable_table} (h : uG a0 = some r) : GC Tryz.prog 28 [.d (eCollation.dv a0)] [] [] [.ptr 13 0] [(13, .box 90 [.d (zR eEntry r.c.Entries), .d (zR eGroup r.c.Groups), .d (di r.c.Base), .d (di r.c.Second), .d (di r.c.Third), .row 11, .d (di r.longest), .d (zR eSpan r.classes), .d (di r.top)]), (11, .map (wU zDJ (eL eElement) r.entries))] := by
 refine zCN Tryz.func28 (by kernel_rfl) rfl (lq rfl) (lq rfl) fun w0 I0 hG0 p0 => ?_
 unfold uG at h
 refine Q0 ?_
 refine yW rfl (zSA (lq rfl) rfl rfl) ?_
 refine Q59 ?_
 refine yH ((zBB (lq rfl) G32 rfl rfl rfl rfl).data rfl) ?_
 have ⟨t7, ht7, h⟩ := bE h
 refine q6 (zGZ ht7) ?_
 refine Q40 ?_
 have ⟨y1, hy1, h⟩ := bE h
 refine tl .normal ⟨[(1, .ptr 1 0)], [(1, .box 32 [.d (zR eEntry y1.1), .d (zR eGroup y1.2.1), .d (di y1.2.2.1), .d (di y1.2.2.2.1), .d (di y1.2.2.2.2)])]⟩ ?_ ?_
 ·
  refine z6 hy1 (fun hy1 => ?_) (fun hy1 => ?_)
  ·
   refine zBC ?_
   refine yH ((zDF (lq rfl) B32 rfl rfl).nils (bs := eCollation.cells ({ Entries := [], Groups := [], Base := 64448, Second := 32, Third := 2 } : Collation)) (nlN (nlN (nlE (nlE (nlE nl0)))))) ?_
   refine z6I ?_
   cases hy1
   exact zI (wc)
  ·
   refine zP ?_
   cases hy1
   exact zI (wc)
 ·
  refine Q0 ?_
  refine yH ((zBB (lq rfl) G32 rfl rfl rfl rfl).data rfl) ?_
  refine z51 ?_
  refine yH (z5J [(0, .tmp 10)] 1 (.tmp 11) (lq rfl) B90 rfl rfl rfl rfl rfl rfl) ?_
  refine yW rfl (zYI (lq rfl) rfl rfl) ?_
  refine yH (zFD (lq rfl) rfl) ?_
  refine zJ <| Q32 ?_
  refine q75 zWL ?_
  refine q40 O29 ?_
  refine q5 S29 ?_
  refine Q25 ?_
  have ⟨y2, hy2, h⟩ := bE h
  refine tl (.exit 0) ⟨[(3, .ptr 13 0)], [(11, .map (wU zDJ (eL eElement) y2.1)), (13, .box 90 [.d (zR eEntry (({ Entries := y1.1, Groups := y1.2.1, Base := y1.2.2.1, Second := y1.2.2.2.1, Third := y1.2.2.2.2 } : Collation).Entries)), .d (zR eGroup (({ Entries := y1.1, Groups := y1.2.1, Base := y1.2.2.1, Second := y1.2.2.2.1, Third := y1.2.2.2.2 } : Collation).Groups)), .d (di (({ Entries := y1.1, Groups := y1.2.1, Base := y1.2.2.1, Second := y1.2.2.2.1, Third := y1.2.2.2.2 } : Collation).Base)), .d (di (({ Entries := y1.1, Groups := y1.2.1, Base := y1.2.2.1, Second := y1.2.2.2.1, Third := y1.2.2.2.2 } : Collation).Second)), .d (di (({ Entries := y1.1, Groups := y1.2.1, Base := y1.2.2.1, Second := y1.2.2.2.1, Third := y1.2.2.2.2 } : Collation).Third)), .row 11, .d (di y2.2), .d (.v (.slice none 0 0)), .d (di 0)])]⟩ ?_ ?_
  ·
   refine zD (fun x => ⟨[(3, .ptr 13 0), (15, .d (zR eEntry y1.1)), (16, .d (di (y1.1.length : Int))), (17, .d (di x.1))], [(11, .map (wU zDJ (eL eElement) x.2.1)), (13, .box 90 [.d (zR eEntry (({ Entries := y1.1, Groups := y1.2.1, Base := y1.2.2.1, Second := y1.2.2.2.1, Third := y1.2.2.2.2 } : Collation).Entries)), .d (zR eGroup (({ Entries := y1.1, Groups := y1.2.1, Base := y1.2.2.1, Second := y1.2.2.2.1, Third := y1.2.2.2.2 } : Collation).Groups)), .d (di (({ Entries := y1.1, Groups := y1.2.1, Base := y1.2.2.1, Second := y1.2.2.2.1, Third := y1.2.2.2.2 } : Collation).Base)), .d (di (({ Entries := y1.1, Groups := y1.2.1, Base := y1.2.2.1, Second := y1.2.2.2.1, Third := y1.2.2.2.2 } : Collation).Second)), .d (di (({ Entries := y1.1, Groups := y1.2.1, Base := y1.2.2.1, Second := y1.2.2.2.1, Third := y1.2.2.2.2 } : Collation).Third)), .row 11, .d (di x.2.2), .d (.v (.slice none 0 0)), .d (di 0)])]⟩) hy2 (wc) ?_
   rintro ⟨v17, r11, k13_6⟩ sy2 p2
   replace p2 : j9 y1 v17 r11 k13_6 = some sy2 := p2
   unfold j9 at p2
   refine Q27 ?_
   refine z6 p2 (fun p2 => ?_) (fun p2 => ?_)
   ·
    refine Q30 ?_
    have ⟨t19, ht19, p2⟩ := bE p2
    refine q13 S29 ht19 ?_
    refine yH (xE (en := eEntry) (l := y1.1) (i := v17) (v := t19) (off := 0) (lq rfl) G45 rfl ht19 rfl rfl (by decide)) ?_
    refine yW rfl (kO (zs := [(.slice none 0 0), (.slice none 0 0)]) (lq rfl) (by kernel_rfl) rfl rfl) ?_
    refine q17 G45 ?_
    refine zJ ?_
    refine zQ (zW (t := 5) (lq rfl) rfl rfl rfl) ?_
    refine kP ?_
    refine zFU 9 MX rfl ?_
    refine z54 ?_
    refine z55 ?_
    refine q91 yBW ?_
    refine z9P O88 ?_
    refine q23 zF5 ?_
    refine q27 O33 ?_
    have ⟨t27, ht27, p2⟩ := bE p2
    refine q25 (zG0 ht27) ?_
    refine q23 zJJ ?_
    refine q27 O38 ?_
    refine wB ?_
    refine yW rfl (zL3 (kv := zDJ) (ev := (eL eElement)) (mp := r11) (k := t27) (v := t19.Elements) M88 K92 rfl rfl rfl (z80 rfl) rfl rfl rfl) ?_
    refine zJ ?_
    refine zFU 11 MX rfl ?_
    refine z54 ?_
    refine z54 ?_
    refine z55 ?_
    refine q91 z0G ?_
    refine z9P O3 ?_
    refine q23 zF5 ?_
    refine q27 O33 ?_
    refine w8 (zPR (en := eI) (l := t19.Codes) (lq rfl) yF rfl) ?_
    refine w8 (zZZ (lq rfl) rfl rfl) ?_
    refine z55 ?_
    refine q91 z0G ?_
    refine wB <| zYY O3 ?_
    refine zJ <| Q29 ?_
    cases p2
    exact wc
   ·
    refine zG ?_
    cases p2
    intro q; cases q
    exact zI (wc)
  ·
   refine Q0 ?_
   refine z9Q ?_
   refine yH (zFD (lq rfl) rfl) ?_
   refine zJ ?_
   refine zQ (zQ3 (bid := 13) (off := 7) eSpan.size rfl rfl) ?_
   cases h
   refine zB ?_
   exact ⟨⟨_, _, rfl, rfl, rfl⟩, ⟨rfl, rfl, trivial⟩⟩
set_option maxHeartbeats 8000000 in
theorem zHO {a0 r} (h : zAO a0 = some r) : zF Tryz.prog 76 [(zR eSpan a0)] [(di r)] := by
 refine co Tryz.func76 ?_; intro _ _ _ _
 unfold zAO at h
 refine Q44 ?_
 refine q5 S22 ?_
 refine Q25 ?_
 have ⟨y1, hy1, h⟩ := bE h
 refine zN y1 (.exit 0) (fun y1 => ⟨[(0, .d (zR eSpan a0))], []⟩) .ret (fun y1 => ⟨[(2, .d (di y1))], []⟩) ?_ ?_ ?_
 ·
  refine zD (fun x => ⟨[(0, .d (zR eSpan a0)), (12, .d (zR eSpan a0)), (13, .d (di (a0.length : Int))), (14, .d (di x))], []⟩) hy1 (wc) ?_
  rintro v14 sy1 p1
  replace p1 : w9 a0 v14 = some sy1 := p1
  unfold w9 at p1
  refine Q27 ?_
  refine z6 p1 (fun p1 => ?_) (fun p1 => ?_)
  ·
   refine Q30 ?_
   have ⟨t16, ht16, p1⟩ := bE p1
   refine q13 S22 ht16 ?_
   refine z9R G61 ht16 ?_
   refine z2S ?_
   refine q17 G61 ?_
   refine zJ ?_
   refine zQ (zW (t := 4) (lq rfl) rfl rfl rfl) ?_
   refine Q0 ?_
   refine q7 zHJ ?_
   refine q8 O3 ?_
   refine q3 ?_
   have ⟨b21, hb21, p1⟩ := bE p1
   refine yH ((zC (lq rfl) rfl).bool (oi hb21)) ?_
   refine q29 (.ip (eSpan.cells t16) (0 + 1)) zHK ?_
   refine q30 (.d (di t16.Hi)) O3 ?_
   refine q58 (.d (db (decide (1114111 < t16.Hi)))) ?_
   refine q19 ?_
   have ⟨b26, hb26, p1⟩ := bE p1
   refine yH ((zC (lq rfl) rfl).bool (oi hb26)) ?_
   refine q29 (.ip (eSpan.cells t16) (0 + 0)) zHJ ?_
   refine q30 (.d (di t16.Lo)) O3 ?_
   refine q29 (.ip (eSpan.cells t16) (0 + 1)) zHK ?_
   refine q30 (.d (di t16.Hi)) O3 ?_
   refine q58 (.d (db (decide (t16.Hi < t16.Lo)))) ?_
   refine q19 ?_
   have ⟨b33, hb33, p1⟩ := bE p1
   refine yH ((zC (lq rfl) rfl).bool (oi hb33)) ?_
   refine q29 (.ip (eSpan.cells t16) (0 + 2)) zIK ?_
   refine q30 (.d (di t16.Value)) O3 ?_
   refine sqf (.d (db (decide (t16.Value < 1)))) rfl (fun hb => by subst hb; exact zLP (lq rfl) rfl rfl) ?_
   refine q19 ?_
   have ⟨b38, hb38, p1⟩ := bE p1
   refine yH ((zC (lq rfl) rfl).bool (oi hb38)) ?_
   refine q29 (.ip (eSpan.cells t16) (0 + 2)) zIK ?_
   refine q30 (.d (di t16.Value)) O3 ?_
   refine q58 (.d (db (decide (254 < t16.Value)))) ?_
   refine Q50 ?_
   refine z6 p1 (fun p1 => ?_) (fun p1 => ?_)
   ·
    refine Q16 ?_
    cases p1
    intro q; cases q
    exact ⟨rfl, wc⟩
   ·
    refine Q53 ?_
    cases p1
    exact wc
  ·
   refine zG ?_
   cases p1
   intro q; cases q
   exact ⟨rfl, wc⟩
 ·
  rintro y1 rfl
  replace h := eL h
  refine Q31 ?_
  have ⟨y2, hy2, h⟩ := bE h
  refine zN y2 (.exit 2) (fun y2 => ⟨[(0, .d (zR eSpan a0))], []⟩) .ret (fun y2 => ⟨[(2, .d (di y2))], []⟩) ?_ ?_ ?_
  ·
   refine zD (fun x => ⟨[(0, .d (zR eSpan a0)), (5, .d (di x))], []⟩) hy2 (wc) ?_
   rintro v5 sy2 p2
   replace p2 : vA a0 v5 = some sy2 := p2
   unfold vA at p2
   refine Q10 ?_
   refine q5 S22 ?_
   refine Q6 ?_
   refine z6 p2 (fun p2 => ?_) (fun p2 => ?_)
   ·
    refine Q61 ?_
    have ⟨t53, ht53, p2⟩ := bE p2
    have ⟨t57, ht57, p2⟩ := bE p2
    refine tl .normal ⟨[(0, .d (zR eSpan a0)), (5, .d (di v5)), (6, .ptr 6 0), (7, .ptr 7 0)], [(6, .box 61 [.d (di t53.Lo), .d (di t53.Hi), .d (di t53.Value)]), (7, .box 61 [.d (di t57.Lo), .d (di t57.Hi), .d (di t57.Value)])]⟩ ?_ ?_
    ·
     refine zCZ MX ?_
     refine zZA ?_
     refine zH8 (i := 2) rfl (lq rfl) rfl rfl rfl rfl rfl rfl ?_
     refine zSN (en := eSpan) (i := 3) rfl (lq rfl) S22 rfl rfl ht53 rfl rfl rfl rfl ?_
     refine xm 5 ?_
     refine xm 6 ?_
     refine zSN (en := eSpan) (i := 7) rfl (lq rfl) S22 rfl rfl ht57 rfl rfl rfl rfl ?_
     refine xn [4,8,9,10] ?_
     refine q41 G61 ht53 ?_ ?_
     ·
      refine xn [8,9,10] ?_
      refine q41 G61 ht57 ?_ ?_
      ·
       refine xn [9,10] ?_
       refine z56 ?_ ?_
       ·
        refine xn [10] ?_
        refine Q73 ?_
        exact ae
       refine q36 ?_
       refine xn [9] ?_
       refine Q73 ?_
       exact ae
      refine z56 ?_ ?_
      ·
       refine xn [8,10] ?_
       refine q41 G61 ht57 ?_ ?_
       ·
        refine xn [10] ?_
        refine Q73 ?_
        exact ae
       refine q36 ?_
       refine xn [8,11] ?_
       refine q41 G61 ht57 ?_ ?_
       ·
        refine Q42 ?_
        exact ae
       refine q9 G61 ?_
       refine xn [8] ?_
       refine q66 G61 ht57 ?_
       refine Q33 ?_
       exact ae
      refine q36 ?_
      refine xn [8,9] ?_
      refine q41 G61 ht57 ?_ ?_
      ·
       refine xn [9] ?_
       refine Q73 ?_
       exact ae
      refine q36 ?_
      refine xn [8,11] ?_
      refine q41 G61 ht57 ?_ ?_
      ·
       refine Q42 ?_
       exact ae
      refine q9 G61 ?_
      refine xn [8] ?_
      refine q66 G61 ht57 ?_
      refine Q33 ?_
      exact ae
     refine q41 G61 ht57 ?_ ?_
     ·
      refine xn [4,9,10] ?_
      refine q41 G61 ht53 ?_ ?_
      ·
       refine xn [9,10] ?_
       refine z56 ?_ ?_
       ·
        refine xn [10] ?_
        refine Q73 ?_
        exact ae
       refine q36 ?_
       refine xn [9] ?_
       refine Q73 ?_
       exact ae
      refine z56 ?_ ?_
      ·
       refine xn [4,10] ?_
       refine q41 G61 ht53 ?_ ?_
       ·
        refine xn [10] ?_
        refine Q73 ?_
        exact ae
       refine q36 ?_
       refine xn [4] ?_
       refine q66 G61 ht53 ?_
       refine Q42 ?_
       exact ae
      refine q36 ?_
      refine xn [4,9] ?_
      refine q41 G61 ht53 ?_ ?_
      ·
       refine xn [9] ?_
       refine Q73 ?_
       exact ae
      refine q36 ?_
      refine xn [4] ?_
      refine q66 G61 ht53 ?_
      refine Q42 ?_
      exact ae
     refine z56 ?_ ?_
     ·
      refine xn [4,8,10] ?_
      refine q41 G61 ht53 ?_ ?_
      ·
       refine xn [8,10] ?_
       refine q41 G61 ht57 ?_ ?_
       ·
        refine xn [10] ?_
        refine Q73 ?_
        exact ae
       refine q36 ?_
       refine xn [8,11] ?_
       refine q41 G61 ht57 ?_ ?_
       ·
        refine Q42 ?_
        exact ae
       refine q9 G61 ?_
       refine xn [8] ?_
       refine q66 G61 ht57 ?_
       refine Q33 ?_
       exact ae
      refine q41 G61 ht57 ?_ ?_
      ·
       refine xn [4,10] ?_
       refine q41 G61 ht53 ?_ ?_
       ·
        refine xn [10] ?_
        refine Q73 ?_
        exact ae
       refine q36 ?_
       refine xn [4] ?_
       refine q66 G61 ht53 ?_
       refine Q42 ?_
       exact ae
      refine q36 ?_
      refine xn [4,8] ?_
      refine q41 G61 ht53 ?_ ?_
      ·
       refine xn [8,11] ?_
       refine q41 G61 ht57 ?_ ?_
       ·
        refine Q42 ?_
        exact ae
       refine q9 G61 ?_
       refine xn [8] ?_
       refine q66 G61 ht57 ?_
       refine Q33 ?_
       exact ae
      refine q66 G61 ht57 ?_
      refine xn [4] ?_
      refine q66 G61 ht53 ?_
      refine Q42 ?_
      exact ae
     refine q36 ?_
     refine xn [4,8,9] ?_
     refine q41 G61 ht53 ?_ ?_
     ·
      refine xn [8,9] ?_
      refine q41 G61 ht57 ?_ ?_
      ·
       refine xn [9] ?_
       refine Q73 ?_
       exact ae
      refine q36 ?_
      refine xn [8,11] ?_
      refine q41 G61 ht57 ?_ ?_
      ·
       refine Q42 ?_
       exact ae
      refine q9 G61 ?_
      refine xn [8] ?_
      refine q66 G61 ht57 ?_
      refine Q33 ?_
      exact ae
     refine q41 G61 ht57 ?_ ?_
     ·
      refine xn [4,9] ?_
      refine q41 G61 ht53 ?_ ?_
      ·
       refine xn [9] ?_
       refine Q73 ?_
       exact ae
      refine q36 ?_
      refine xn [4] ?_
      refine q66 G61 ht53 ?_
      refine Q42 ?_
      exact ae
     refine q36 ?_
     refine xn [4,8] ?_
     refine q41 G61 ht53 ?_ ?_
     ·
      refine xn [8,11] ?_
      refine q41 G61 ht57 ?_ ?_
      ·
       refine Q42 ?_
       exact ae
      refine q9 G61 ?_
      refine xn [8] ?_
      refine q66 G61 ht57 ?_
      refine Q33 ?_
      exact ae
     refine q66 G61 ht57 ?_
     refine xn [4] ?_
     refine q66 G61 ht53 ?_
     refine Q42 ?_
     exact ae
    refine zQ (zW (t := 6) (lq rfl) rfl rfl rfl) ?_
    refine zQ (zW (t := 7) (lq rfl) rfl rfl rfl) ?_
    refine Q0 ?_
    refine q7 zHJ ?_
    refine q8 O3 ?_
    refine q7 zHK ?_
    refine q8 O3 ?_
    refine q68 ?_
    have ⟨b64, hb64, p2⟩ := bE p2
    refine yH ((zC (lq rfl) rfl).bool (oi hb64)) ?_
    refine q29 (.ip (eSpan.cells t57) (0 + 0)) zHJ ?_
    refine q30 (.d (di t57.Lo)) O3 ?_
    refine q29 (.ip (eSpan.cells t53) (0 + 1)) zHK ?_
    refine q30 (.d (di t53.Hi)) O3 ?_
    refine sqf (.d (di (wi (t53.Hi + 1)))) rfl (fun hb => by subst hb; exact zSF (lq rfl) rfl rfl) ?_
    refine q99 (.d (db (decide (t57.Lo = (wi (t53.Hi + 1)))))) ?_
    have ⟨b71, hb71, p2⟩ := bE p2
    refine sqf (.d (db b71)) rfl (fun hb => by subst hb; exact (zC (lq rfl) rfl).bool (oi hb71)) ?_
    refine jW (x := .ip (eSpan.cells t57) (0 + 2)) rfl rfl rfl (lq rfl) (lq rfl) rfl (fun hb => by obtain ⟨hb, hb1⟩ := zM hb; obtain rfl := gF hb; obtain rfl : b71 = true := hb1; exact wD (lq rfl) zIK rfl) ?_
    refine jW (x := .d (di t57.Value)) rfl rfl rfl (lq rfl) (lq rfl) rfl (fun hb => by obtain ⟨hb, hb1⟩ := zM hb; obtain rfl := gF hb; obtain rfl : b71 = true := hb1; exact xU (lq rfl) O3 rfl rfl) ?_
    refine jW (x := .ip (eSpan.cells t53) (0 + 2)) rfl rfl rfl (lq rfl) (lq rfl) rfl (fun hb => by obtain ⟨hb, hb1⟩ := zM hb; obtain rfl := gF hb; obtain rfl : b71 = true := hb1; exact wD (lq rfl) zIK rfl) ?_
    refine jW (x := .d (di t53.Value)) rfl rfl rfl (lq rfl) (lq rfl) rfl (fun hb => by obtain ⟨hb, hb1⟩ := zM hb; obtain rfl := gF hb; obtain rfl : b71 = true := hb1; exact xU (lq rfl) O3 rfl rfl) ?_
    refine jW (x := .d (db (decide (t57.Value = t53.Value)))) rfl rfl rfl (lq rfl) (lq rfl) rfl (fun hb => by obtain ⟨hb, hb1⟩ := zM hb; obtain rfl := gF hb; obtain rfl : b71 = true := hb1; exact zIH (lq rfl) rfl rfl) ?_
    refine q81 (.d (db (b71 && (decide (t57.Value = t53.Value))))) ?_
    refine Q50 ?_
    refine z6 p2 (fun p2 => ?_) (fun p2 => ?_)
    ·
     refine Q16 ?_
     cases p2
     intro q; cases q
     exact ⟨rfl, wc⟩
    ·
     refine Q24 ?_
     cases p2
     exact wc
   ·
    refine zG ?_
    cases p2
    intro q; cases q
    exact ⟨rfl, wc⟩
  ·
   rintro y2 rfl
   replace h := eL h
   refine Q4 ?_
   refine q5 S22 ?_
   refine Q25 ?_
   have ⟨y3, hy3, h⟩ := bE h
   refine zN y3 (.exit 4) (fun y3 => ⟨[], []⟩) .ret (fun y3 => ⟨[(2, .d (di y3))], []⟩) ?_ ?_ ?_
   ·
    refine zD (fun x => ⟨[(79, .d (zR eSpan a0)), (80, .d (di (a0.length : Int))), (81, .d (di x))], []⟩) hy3 (wc) ?_
    rintro v81 sy3 p3
    replace p3 : vB a0 v81 = some sy3 := p3
    unfold vB at p3
    refine Q27 ?_
    refine z6 p3 (fun p3 => ?_) (fun p3 => ?_)
    ·
     refine Q30 ?_
     have ⟨t83, ht83, p3⟩ := bE p3
     refine q13 S22 ht83 ?_
     refine z9R G61 ht83 ?_
     refine z2S ?_
     refine q17 G61 ?_
     refine zJ ?_
     refine zQ (zW (t := 9) (lq rfl) rfl rfl rfl) ?_
     refine Q0 ?_
     have ⟨t85, ht85, p3⟩ := bE p3
     refine yH ((z8Z (zs := [.int .i64 4352, .int .i64 4370, .int .i64 4449, .int .i64 4469, .int .i64 4520, .int .i64 4546, .int .i64 44032, .int .i64 55203]) (lq rfl) yGY Z0 rfl rfl).data (b := eA4Range.dv t85) (congrArg eA4Range.dv (oi ht85))) ?_
     refine Q25 ?_
     have ⟨y4, hy4, p3⟩ := bE p3
     refine zN y4 (.exit 6) (fun y4 => ⟨[(79, .d (zR eSpan a0)), (80, .d (di (a0.length : Int))), (81, .d (di v81))], []⟩) .ret (fun y4 => ⟨[(2, .d (di y4))], []⟩) ?_ ?_ ?_
     ·
      refine zD (fun x => ⟨[(9, .d (.pt (eSpan.cells t83))), (79, .d (zR eSpan a0)), (80, .d (di (a0.length : Int))), (81, .d (di v81)), (85, .d (eA4Range.dv t85)), (86, .d (di x))], []⟩) hy4 (wc) ?_
      rintro v86 sy4 p4
      replace p4 : xA t85 t83 v86 = some sy4 := p4
      unfold xA at p4
      refine Q27 ?_
      refine z6 p4 (fun p4 => ?_) (fun p4 => ?_)
      ·
       refine Q30 ?_
       have ⟨t88, ht88, p4⟩ := bE p4
       refine yH (z2B (en := eRange) (l := [t85.x0, t85.x1, t85.x2, t85.x3]) (lq rfl) yGT zBP (fun _ => rfl) rfl rfl rfl ht88) ?_
       refine zYZ ?_
       refine zZB ?_
       refine zQ (zW (t := 11) (lq rfl) rfl rfl rfl) ?_
       refine Q0 ?_
       refine q7 zHJ ?_
       refine q8 O3 ?_
       refine q7 zDP ?_
       refine q8 O3 ?_
       refine q68 ?_
       have ⟨b94, hb94, p4⟩ := bE p4
       refine yH ((zC (lq rfl) rfl).bool (oi hb94)) ?_
       refine q59 (.ip (eRange.cells t88) (0 + 0)) zG8 ?_
       refine q63 (.d (di t88.Lo)) O3 ?_
       refine q59 (.ip (eSpan.cells t83) (0 + 1)) zHK ?_
       refine q63 (.d (di t83.Hi)) O3 ?_
       refine q54 (.d (db (decide (t88.Lo ≤ t83.Hi)))) ?_
       refine Q37 ?_
       refine z6 p4 (fun p4 => ?_) (fun p4 => ?_)
       ·
        refine Q16 ?_
        cases p4
        intro q; cases q
        exact ⟨rfl, wc⟩
       ·
        refine Q53 ?_
        cases p4
        exact wc
      ·
       refine zG ?_
       cases p4
       intro q; cases q
       exact ⟨rfl, wc⟩
     ·
      rintro y4 rfl
      replace p3 := eL p3
      refine Q29 ?_
      cases p3
      exact wc
     ·
      rintro y4 rfl
      replace p3 := eR p3
      cases p3
      intro q; cases q
      exact ⟨rfl, wc⟩
    ·
     refine zG ?_
     cases p3
     intro q; cases q
     exact ⟨rfl, wc⟩
   ·
    rintro y3 rfl
    replace h := eL h
    refine Q3 ?_
    cases h
    refine zB ?_
    exact zH rfl
   ·
    rintro y3 rfl
    replace h := eR h
    cases h
    exact zH rfl
  ·
   rintro y2 rfl
   replace h := eR h
   cases h
   exact zH rfl
 ·
  rintro y1 rfl
  replace h := eR h
  cases h
  exact zH rfl
theorem zNC {a0 r} (h : zB6 a0 = some r) : zF Tryz.prog 118 [(ds a0)] [(db r)] := by
 refine co Tryz.func118 ?_; intro _ _ _ _
 unfold zB6 at h
 refine Q44 ?_
 refine yH (zK3 (a := a0) (b := []) (lq rfl) rfl rfl) ?_
 have ⟨b8, hb8, h⟩ := bE h
 refine yH ((zC (lq rfl) rfl).bool (oi hb8)) ?_
 refine q39 (.d (ds a0)) ?_
 refine sqf (.d (di (a0.length : Int))) rfl (fun hb => by subst hb; exact zPQ (s := a0) (lq rfl) Tryz.underlying9 rfl) ?_
 refine q58 (.d (db (decide (32 < (a0.length : Int))))) ?_
 refine Q50 ?_
 refine z6 h (fun h => ?_) (fun h => ?_)
 ·
  refine Q3 ?_
  cases h
  refine zB ?_
  exact zH rfl
 ·
  refine Q85 ?_
  refine z9J Tryz.underlying9 ?_
  refine Q25 ?_
  have ⟨y1, hy1, h⟩ := bE h
  refine zN y1 (.exit 0) (fun y1 => ⟨[], []⟩) .ret (fun y1 => ⟨[(2, .d (db y1))], []⟩) ?_ ?_ ?_
  ·
   refine zD (fun x => ⟨[(0, .d (ds a0)), (14, .d (di (a0.length : Int))), (15, .d (di x))], []⟩) hy1 (wc) ?_
   rintro v15 sy1 p1
   replace p1 : vC a0 v15 = some sy1 := p1
   unfold vC at p1
   refine Q27 ?_
   refine z6 p1 (fun p1 => ?_) (fun p1 => ?_)
   ·
    refine Q8 ?_
    refine Q35 ?_
    refine Q13 ?_
    have ⟨t20, ht20, p1⟩ := bE p1
    refine z9K Tryz.underlying9 ht20 ?_
    refine Q22 ?_
    refine q37 ?_
    have ⟨b23, hb23, p1⟩ := bE p1
    refine yH ((zC (lq rfl) rfl).bool (oi hb23)) ?_
    refine q12 (.d (dby t20)) ?_
    refine q54 (.d (db (decide (t20 ≤ 90)))) ?_
    refine q14 ?_
    have ⟨b27, hb27, p1⟩ := bE p1
    refine yH ((zC (lq rfl) rfl).bool (oi hb27)) ?_
    refine q39 (.d (dby t20)) ?_
    refine q98 (.d (db (decide (97 ≤ t20)))) ?_
    have ⟨b30, hb30, p1⟩ := bE p1
    refine sqf (.d (db b30)) rfl (fun hb => by subst hb; exact (zC (lq rfl) rfl).bool (oi hb30)) ?_
    refine jW (x := .d (dby t20)) rfl rfl rfl (lq rfl) (lq rfl) rfl (fun hb => by obtain ⟨hb, hb1⟩ := zM hb; obtain rfl := gF hb; obtain rfl : b30 = true := hb1; exact zC (lq rfl) rfl) ?_
    refine jW (x := .d (db (decide (t20 ≤ 122)))) rfl rfl rfl (lq rfl) (lq rfl) rfl (fun hb => by obtain ⟨hb, hb1⟩ := zM hb; obtain rfl := gF hb; obtain rfl : b30 = true := hb1; exact zHE (lq rfl) rfl rfl) ?_
    refine q81 (.d (db (b30 && (decide (t20 ≤ 122))))) ?_
    refine q19 ?_
    refine Q22 ?_
    refine q28 ?_
    have ⟨b37, hb37, p1⟩ := bE p1
    refine yH ((zC (lq rfl) rfl).bool (oi hb37)) ?_
    refine q12 (.d (dby t20)) ?_
    refine sqt (.d (db (decide (48 ≤ t20)))) rfl (fun hb => by subst hb; exact zI3 (lq rfl) rfl rfl) ?_
    have ⟨b40, hb40, p1⟩ := bE p1
    refine sqt (.d (db b40)) rfl (fun hb => by subst hb; exact (zC (lq rfl) rfl).bool (oi hb40)) ?_
    refine jW (x := .d (dby t20)) rfl rfl rfl (lq rfl) (lq rfl) rfl (fun hb => by obtain ⟨hb, hb1⟩ := zM hb; obtain rfl : b37 = true := hb; obtain rfl : b40 = true := hb1; exact zC (lq rfl) rfl) ?_
    refine jW (x := .d (db (decide (t20 ≤ 57)))) rfl rfl rfl (lq rfl) (lq rfl) rfl (fun hb => by obtain ⟨hb, hb1⟩ := zM hb; obtain rfl : b37 = true := hb; obtain rfl : b40 = true := hb1; exact zHE (lq rfl) rfl rfl) ?_
    refine sqt (.d (db (b40 && (decide (t20 ≤ 57))))) rfl (fun hb => by subst hb; exact zD0 (lq rfl) rfl rfl) ?_
    refine zY0 (.d (db (!(b40 && (decide (t20 ≤ 57)))))) ?_
    refine q14 ?_
    have ⟨b46, hb46, p1⟩ := bE p1
    refine yH ((zC (lq rfl) rfl).bool (oi hb46)) ?_
    refine q12 (.d (dby t20)) ?_
    refine z57 (.d (db (!decide (t20 = 95)))) ?_
    refine Q37 ?_
    refine z6 p1 (fun p1 => ?_) (fun p1 => ?_)
    ·
     refine Q16 ?_
     cases p1
     intro q; cases q
     exact ⟨rfl, wc⟩
    ·
     refine Q53 ?_
     cases p1
     exact wc
   ·
    refine zG ?_
    cases p1
    intro q; cases q
    exact ⟨rfl, wc⟩
  ·
   rintro y1 rfl
   replace h := eL h
   refine Q3 ?_
   cases h
   refine zB ?_
   exact zH rfl
  ·
   rintro y1 rfl
   replace h := eR h
   cases h
   exact zH rfl
theorem zOG {a0 r} (h : zCR a0 = some r) : zF Tryz.prog 102 [(zR eMapping a0)] [(di r)] := by
 refine co Tryz.func102 ?_; intro _ _ _ _
 unfold zCR at h
 refine Q44 ?_
 refine zZC ?_
 have ⟨y1, hy1, h⟩ := bE h
 refine zN y1 (.exit 0) (fun y1 => ⟨[(0, .d (zR eMapping a0))], []⟩) .ret (fun y1 => ⟨[(2, .d (di y1))], []⟩) ?_ ?_ ?_
 ·
  refine zD (fun x => ⟨[(0, .d (zR eMapping a0)), (11, .d (zR eMapping a0)), (12, .d (di (a0.length : Int))), (13, .d (di x))], []⟩) hy1 (wc) ?_
  rintro v13 sy1 p1
  replace p1 : vW a0 v13 = some sy1 := p1
  unfold vW at p1
  refine Q27 ?_
  refine z6 p1 (fun p1 => ?_) (fun p1 => ?_)
  ·
   refine Q30 ?_
   have ⟨t15, ht15, p1⟩ := bE p1
   refine q13 S23 ht15 ?_
   refine q85 zJI ht15 ?_
   refine zZD ?_
   refine zQ (zW (t := 4) (lq rfl) rfl rfl rfl) ?_
   refine Q32 ?_
   refine Q93 ?_
   have ⟨t19, ht19, p1⟩ := bE p1
   refine q6 (zBZ ht19) ?_
   refine Q38 ?_
   refine z6 p1 (fun p1 => ?_) (fun p1 => ?_)
   ·
    refine Q16 ?_
    cases p1
    intro q; cases q
    exact ⟨rfl, wc⟩
   ·
    refine Q48 ?_
    refine q7 zCE ?_
    refine q8 O33 ?_
    refine Q99 ?_
    have ⟨y2, hy2, p1⟩ := bE p1
    refine zN y2 (.exit 2) (fun y2 => ⟨[(0, .d (zR eMapping a0)), (11, .d (zR eMapping a0)), (12, .d (di (a0.length : Int))), (13, .d (di v13))], []⟩) .ret (fun y2 => ⟨[(2, .d (di y2))], []⟩) ?_ ?_ ?_
    ·
     refine zD (fun x => ⟨[(0, .d (zR eMapping a0)), (11, .d (zR eMapping a0)), (12, .d (di (a0.length : Int))), (13, .d (di v13)), (22, .d (zR eI t15.To)), (23, .d (di (t15.To.length : Int))), (24, .d (di x))], []⟩) hy2 (wc) ?_
     rintro v24 sy2 p2
     replace p2 : vV t15 v24 = some sy2 := p2
     unfold vV at p2
     refine Q27 ?_
     refine z6 p2 (fun p2 => ?_) (fun p2 => ?_)
     ·
      refine Q30 ?_
      have ⟨t26, ht26, p2⟩ := bE p2
      refine q13 yF ht26 ?_
      refine q35 O3 ht26 ?_
      refine Q22 ?_
      have ⟨t29, ht29, p2⟩ := bE p2
      refine q6 (zBZ ht29) ?_
      refine Q38 ?_
      refine z6 p2 (fun p2 => ?_) (fun p2 => ?_)
      ·
       refine Q16 ?_
       cases p2
       intro q; cases q
       exact ⟨rfl, wc⟩
      ·
       refine Q53 ?_
       cases p2
       exact wc
     ·
      refine zG ?_
      cases p2
      intro q; cases q
      exact ⟨rfl, wc⟩
    ·
     rintro y2 rfl
     replace p1 := eL p1
     refine Q29 ?_
     cases p1
     exact wc
    ·
     rintro y2 rfl
     replace p1 := eR p1
     cases p1
     intro q; cases q
     exact ⟨rfl, wc⟩
  ·
   refine zG ?_
   cases p1
   intro q; cases q
   exact ⟨rfl, wc⟩
 ·
  rintro y1 rfl
  replace h := eL h
  refine Q4 ?_
  refine zZC ?_
  have ⟨y3, hy3, h⟩ := bE h
  refine zN y3 (.exit 4) (fun y3 => ⟨[(0, .d (zR eMapping a0))], []⟩) .ret (fun y3 => ⟨[(2, .d (di y3))], []⟩) ?_ ?_ ?_
  ·
   refine zD (fun x => ⟨[(0, .d (zR eMapping a0)), (33, .d (zR eMapping a0)), (34, .d (di (a0.length : Int))), (35, .d (di x))], []⟩) hy3 (wc) ?_
   rintro v35 sy3 p3
   replace p3 : vX a0 v35 = some sy3 := p3
   unfold vX at p3
   refine Q27 ?_
   refine z6 p3 (fun p3 => ?_) (fun p3 => ?_)
   ·
    refine Q30 ?_
    have ⟨t37, ht37, p3⟩ := bE p3
    refine q13 S23 ht37 ?_
    refine q85 zJI ht37 ?_
    refine zZD ?_
    refine zQ (zW (t := 8) (lq rfl) rfl rfl rfl) ?_
    refine Q0 ?_
    refine q7 zCE ?_
    refine q8 O33 ?_
    refine q5 yF ?_
    refine Q60 ?_
    refine z6 p3 (fun p3 => ?_) (fun p3 => ?_)
    ·
     refine Q16 ?_
     cases p3
     intro q; cases q
     exact ⟨rfl, wc⟩
    ·
     refine Q53 ?_
     cases p3
     exact wc
   ·
    refine zG ?_
    cases p3
    intro q; cases q
    exact ⟨rfl, wc⟩
  ·
   rintro y3 rfl
   replace h := eL h
   refine Q4 ?_
   refine zZC ?_
   have ⟨y4, hy4, h⟩ := bE h
   refine zN y4 (.exit 6) (fun y4 => ⟨[], []⟩) .ret (fun y4 => ⟨[(2, .d (di y4))], []⟩) ?_ ?_ ?_
   ·
    refine zD (fun x => ⟨[(44, .d (zR eMapping a0)), (45, .d (di (a0.length : Int))), (46, .d (di x))], []⟩) hy4 (wc) ?_
    rintro v46 sy4 p4
    replace p4 : vY a0 v46 = some sy4 := p4
    unfold vY at p4
    refine Q27 ?_
    refine z6 p4 (fun p4 => ?_) (fun p4 => ?_)
    ·
     refine Q30 ?_
     have ⟨t48, ht48, p4⟩ := bE p4
     refine q13 S23 ht48 ?_
     refine q85 zJI ht48 ?_
     refine zZD ?_
     refine zQ (zW (t := 10) (lq rfl) rfl rfl rfl) ?_
     refine Q0 ?_
     refine q7 zA7 ?_
     refine q8 O9 ?_
     refine z2P ?_
     have ⟨b53, hb53, p4⟩ := bE p4
     refine yH ((zC (lq rfl) rfl).bool (oi hb53)) ?_
     refine q59 (.ip (eMapping.cells t48) (0 + 2)) zA7 ?_
     refine q63 (.d (ds t48.Tag)) O9 ?_
     have ⟨t56, ht56, p4⟩ := bE p4
     refine sqt (.d (db t56)) rfl (fun hb => by subst hb; exact wA (lq rfl) rfl (zNC ht56)) ?_
     refine zY0 (.d (db (!t56))) ?_
     refine Q37 ?_
     refine z6 p4 (fun p4 => ?_) (fun p4 => ?_)
     ·
      refine Q16 ?_
      cases p4
      intro q; cases q
      exact ⟨rfl, wc⟩
     ·
      refine Q53 ?_
      cases p4
      exact wc
    ·
     refine zG ?_
     cases p4
     intro q; cases q
     exact ⟨rfl, wc⟩
   ·
    rintro y4 rfl
    replace h := eL h
    refine Q3 ?_
    cases h
    refine zB ?_
    exact zH rfl
   ·
    rintro y4 rfl
    replace h := eR h
    cases h
    exact zH rfl
  ·
   rintro y3 rfl
   replace h := eR h
   cases h
   exact zH rfl
 ·
  rintro y1 rfl
  replace h := eR h
  cases h
  exact zH rfl
theorem zF6 {a0 r} (h : zAP a0 = some r) : zF Tryz.prog 129 [(ds a0)] [(db r)] := by
 refine co Tryz.func129 ?_; intro _ _ _ _
 unfold zAP at h
 refine Q3 ?_
 refine Q13 ?_
 refine z2P ?_
 refine Q1 ?_
 cases h
 refine zB ?_
 exact zH rfl
theorem zJM {a0 a1 r} (h : uH a0 a1 = some r) : zF Tryz.prog 120 [(ds a0), (ds a1)] [(di r)] := by
 refine co Tryz.func120 ?_; intro _ _ _ _
 unfold uH at h
 refine Q57 ?_
 have ⟨t8, ht8, h⟩ := bE h
 refine q6 (zF6 ht8) ?_
 refine Q22 ?_
 have ⟨t10, ht10, h⟩ := bE h
 refine q6 (zF6 ht10) ?_
 refine Q1 ?_
 refine zY9 ?_
 refine z6 h (fun h => ?_) (fun h => ?_)
 ·
  refine zY9 ?_
  refine z6 h (fun h => ?_) (fun h => ?_)
  ·
   refine Q3 ?_
   cases h
   refine zB ?_
   exact zH rfl
  ·
   refine Q58 ?_
   cases h
   refine zB ?_
   exact zH rfl
 ·
  refine Q85 ?_
  refine zJ ?_
  refine z6 h (fun h => ?_) (fun h => ?_)
  ·
   refine Q3 ?_
   cases h
   refine zB ?_
   exact zH rfl
  ·
   refine zP <| Q10 ?_
   refine yH (z46 (a := a0) (b := a1) (lq rfl) rfl rfl) ?_
   refine zJ ?_
   refine z6 h (fun h => ?_) (fun h => ?_)
   ·
    refine Q3 ?_
    cases h
    refine zB ?_
    exact zH rfl
   ·
    refine zP <| Q10 ?_
    refine yH (yC0 (a := a0) (b := a1) (lq rfl) rfl rfl) ?_
    refine zJ ?_
    refine z6 h (fun h => ?_) (fun h => ?_)
    ·
     refine Q3 ?_
     cases h
     refine zB ?_
     exact zH rfl
    ·
     refine Q58 ?_
     cases h
     refine zB ?_
     exact zH rfl
theorem zL7 {a0 r} (h : zD3 a0 = some r) : zF Tryz.prog 119 [(zR eI a0)] [(di r)] := by
 refine co Tryz.func119 ?_; intro _ _ _ _
 unfold zD3 at h
 refine Q3 ?_
 refine Q44 ?_
 refine Q99 ?_
 have ⟨y1, hy1, h⟩ := bE h
 refine zN y1 (.exit 0) (fun y1 => ⟨[(3, .d (di 0))], []⟩) .ret (fun y1 => ⟨[(2, .d (di y1))], []⟩) ?_ ?_ ?_
 ·
  refine zD (fun x => ⟨[(3, .d (di 0)), (6, .d (zR eI a0)), (7, .d (di (a0.length : Int))), (8, .d (di x))], []⟩) hy1 (wc) ?_
  rintro v8 sy1 p1
  replace p1 : zBS a0 v8 = some sy1 := p1
  unfold zBS at p1
  refine Q27 ?_
  refine z6 p1 (fun p1 => ?_) (fun p1 => ?_)
  ·
   refine Q30 ?_
   have ⟨t10, ht10, p1⟩ := bE p1
   refine q13 yF ht10 ?_
   refine q35 O3 ht10 ?_
   refine Q1 ?_
   refine Q13 ?_
   refine Q40 ?_
   refine z6 p1 (fun p1 => ?_) (fun p1 => ?_)
   ·
    refine Q35 ?_
    refine zB ?_
    cases p1
    intro q; cases q
    exact ⟨rfl, wc⟩
   ·
    refine Q53 ?_
    cases p1
    exact wc
  ·
   refine zG ?_
   cases p1
   intro q; cases q
   exact ⟨rfl, wc⟩
 ·
  rintro y1 rfl
  replace h := eL h
  refine Q35 ?_
  cases h
  refine zB ?_
  exact zH rfl
 ·
  rintro y1 rfl
  replace h := eR h
  cases h
  exact zH rfl
theorem zL8 {a0 a1 r} (h : zBN a0 a1 = some r) : zF Tryz.prog 103 [(eMapping.dv a0), (eMapping.dv a1)] [(di r)] := by
 refine co Tryz.func103 ?_; intro _ _ _ _
 unfold zBN at h
 refine Q39 ?_
 refine q34 ?_
 refine Q15 ?_
 refine z2 MX rfl ?_
 refine q23 zED ?_
 refine q27 O3 ?_
 refine q23 zED ?_
 refine q27 O3 ?_
 have ⟨t9, ht9, h⟩ := bE h
 refine q25 (xS ht9) ?_
 refine q23 zA7 ?_
 refine q27 O9 ?_
 refine q23 zA7 ?_
 refine q27 O9 ?_
 have ⟨t14, ht14, h⟩ := bE h
 refine q25 (zJM ht14) ?_
 refine z9S yF ?_
 have ⟨t16, ht16, h⟩ := bE h
 refine q25 (zL7 ht16) ?_
 refine Q49 ?_
 cases h
 refine zB ?_
 exact zH rfl
theorem zIP {a0 r} (h : zCS a0 = some r) : zF Tryz.prog 104 [(eMapping.dv a0)] [(eMapping_key.dv r)] := by
 refine co Tryz.func104 ?_; intro _ _ _ _
 unfold zCS at h
 refine Q39 ?_
 refine yW rfl (kO (zs := [(.int IntKind.i64 (0)), (.string ⟨#[]⟩)]) (lq rfl) (by kernel_rfl) rfl rfl) ?_
 refine Q64 ?_
 refine Q93 ?_
 refine q7 zA7 ?_
 refine q8 O9 ?_
 refine q56 yGU ?_
 refine q17 yFB ?_
 refine zJ ?_
 cases h
 refine zB ?_
 exact vT rfl rfl yFB rfl
theorem zOH {a0 r} (h : zCT a0 = some r) : zF Tryz.prog 77 [(zR eMapping a0)] [(di r)] := by
 refine co Tryz.func77 ?_; intro _ _ _ _
 unfold zCT at h
 refine Q44 ?_
 have ⟨t10, ht10, h⟩ := bE h
 refine q6 (zOG ht10) ?_
 refine Q72 ?_
 refine z6 h (fun h => ?_) (fun h => ?_)
 ·
  refine Q35 ?_
  cases h
  refine zB ?_
  exact zH rfl
 ·
  refine Q58 ?_
  refine Q31 ?_
  have ⟨y1, hy1, h⟩ := bE h
  refine tl (.exit 0) ⟨[(0, .d (zR eMapping a0)), (4, .d (db y1))], []⟩ ?_ ?_
  ·
   refine zD (fun x => ⟨[(0, .d (zR eMapping a0)), (4, .d (db x.1)), (5, .d (di x.2))], []⟩) hy1 (wc) ?_
   rintro ⟨v4, v5⟩ sy1 p1
   replace p1 : wF a0 v4 v5 = some sy1 := p1
   unfold wF at p1
   refine Q56 ?_
   refine z6 p1 (fun p1 => ?_) (fun p1 => ?_)
   ·
    refine Q5 ?_
    have ⟨y2, hy2, p1⟩ := bE p1
    refine tl .normal ⟨[(0, .d (zR eMapping a0)), (4, .d (db y2)), (5, .d (di v5))], []⟩ ?_ ?_
    ·
     refine kB <| kP ?_
     refine z2 MX rfl ?_
     refine Q23 ?_
     refine q92 ?_
     have ⟨t23, ht23, hy2⟩ := bE hy2
     refine q21 S23 ht23 ?_
     refine z9T zJI ht23 ?_
     refine Q23 ?_
     have ⟨t27, ht27, hy2⟩ := bE hy2
     refine q21 S23 ht27 ?_
     refine z9T zJI ht27 ?_
     have ⟨t29, ht29, hy2⟩ := bE hy2
     refine q25 (zL8 ht29) ?_
     refine w8 (zI3 (lq rfl) rfl rfl) ?_
     refine wB ?_
     refine z6 hy2 (fun hy2 => ?_) (fun hy2 => ?_)
     ·
      refine zBC <| Q1 ?_
      cases hy2
      exact zI (wc)
     ·
      refine zP ?_
      cases hy2
      exact zI (wc)
    ·
     refine Q11 ?_
     cases p1
     exact wc
   ·
    refine zG ?_
    cases p1
    intro q; cases q
    exact zI (wc)
  ·
   refine zY9 ?_
   refine z6 h (fun h => ?_) (fun h => ?_)
   ·
    refine Q3 ?_
    cases h
    refine zB ?_
    exact zH rfl
   ·
    refine Q48 ?_
    refine z51 ?_
    refine Q17 ?_
    refine Q4 ?_
    refine zZC ?_
    have ⟨y3, hy3, h⟩ := bE h
    refine zN y3 (.exit 2) (fun y3 => ⟨[], []⟩) .ret (fun y3 => ⟨[(2, .d (di y3))], []⟩) ?_ ?_ ?_
    ·
     refine zD (fun x => ⟨[(6, .row 32), (33, .d (zR eMapping a0)), (34, .d (di (a0.length : Int))), (35, .d (di x.1))], [(32, .map (wU zFG eB x.2))]⟩) hy3 (wc) ?_
     rintro ⟨v35, r32⟩ sy3 p3
     replace p3 : wG a0 v35 r32 = some sy3 := p3
     unfold wG at p3
     refine Q27 ?_
     refine z6 p3 (fun p3 => ?_) (fun p3 => ?_)
     ·
      refine Q30 ?_
      have ⟨t37, ht37, p3⟩ := bE p3
      refine q13 S23 ht37 ?_
      refine q85 zJI ht37 ?_
      refine zZD ?_
      refine zQ (zW (t := 8) (lq rfl) rfl rfl rfl) ?_
      refine Q32 ?_
      refine q11 ?_
      refine q20 zJI ?_
      have ⟨t41, ht41, p3⟩ := bE p3
      refine q6 (zIP ht41) ?_
      refine yH (z2E (kv := zFG) (ev := eB) (mp := r32) (k := t41) (zero := false) (lq rfl) yFD yFH rfl rfl rfl (z80 rfl) (fun _ _ => .v _)) ?_
      refine zJ ?_
      refine z6 p3 (fun p3 => ?_) (fun p3 => ?_)
      ·
       refine Q16 ?_
       cases p3
       intro q; cases q
       exact ⟨rfl, wc⟩
      ·
       refine zP <| Q84 ?_
       refine q20 zJI ?_
       have ⟨t45, ht45, p3⟩ := bE p3
       refine q6 (zIP ht45) ?_
       refine yW rfl (zL3 (kv := zFG) (ev := eB) (mp := r32) (k := t45) (v := true) yFD yFH rfl rfl rfl (z80 rfl) rfl rfl rfl) ?_
       refine zJ <| Q29 ?_
       cases p3
       exact wc
     ·
      refine zG ?_
      cases p3
      intro q; cases q
      exact ⟨rfl, wc⟩
    ·
     rintro y3 rfl
     replace h := eL h
     refine Q3 ?_
     cases h
     refine zB ?_
     exact zH rfl
    ·
     rintro y3 rfl
     replace h := eR h
     cases h
     exact zH rfl
set_option maxRecDepth 20000 in
theorem zL9 {a0 r} (h : zFB a0 = some r) : zF Tryz.prog 143 [(.v (.int .u64 a0))] [(di r)] := by
 refine co Tryz.func143 ?_; intro _ _ _ _
 unfold zFB at h
 refine Q44 ?_
 refine Q92 ?_
 have ⟨y1, hy1, h⟩ := bE h
 refine tl .normal ⟨[(0, .d (.v (.int .u64 y1.1))), (2, .d (di y1.2))], []⟩ ?_ ?_
 ·
  refine z6 hy1 (fun hy1 => ?_) (fun hy1 => ?_)
  ·
   refine Q2 ?_
   refine q82 ?_
   refine Q1 ?_
   refine zBC <| Q1 ?_
   cases hy1
   exact zI (wc)
  ·
   refine zP ?_
   cases hy1
   exact zI (wc)
 ·
  refine Q4 ?_
  refine Q92 ?_
  have ⟨y2, hy2, h⟩ := bE h
  refine tl .normal ⟨[(0, .d (.v (.int .u64 y2.1))), (2, .d (di y2.2))], []⟩ ?_ ?_
  ·
   refine z6 hy2 (fun hy2 => ?_) (fun hy2 => ?_)
   ·
    refine Q2 ?_
    refine q82 ?_
    refine Q1 ?_
    refine Q11 ?_
    cases hy2
    exact zI (wc)
   ·
    refine zP ?_
    cases hy2
    exact zI (wc)
  ·
   refine Q4 ?_
   refine Q92 ?_
   have ⟨y3, hy3, h⟩ := bE h
   refine tl .normal ⟨[(0, .d (.v (.int .u64 y3.1))), (2, .d (di y3.2))], []⟩ ?_ ?_
   ·
    refine z6 hy3 (fun hy3 => ?_) (fun hy3 => ?_)
    ·
     refine Q2 ?_
     refine q82 ?_
     refine Q1 ?_
     refine Q11 ?_
     cases hy3
     exact zI (wc)
    ·
     refine zP ?_
     cases hy3
     exact zI (wc)
   ·
    refine Q13 ?_
    refine q57 Tryz.underlying174 Tryz.underlying5 ?_
    have ⟨t22, ht22, h⟩ := bE h
    refine z9K Tryz.underlying9 ht22 ?_
    refine q57 Tryz.underlying5 Tryz.underlying3 ?_
    refine Q9 ?_
    cases h
    refine zB ?_
    exact zH rfl
theorem zOI {a0 r} (h : zCU a0 = some r) : zF Tryz.prog 131 [(.v (.int .u64 a0))] [(di r)] := by
 refine co Tryz.func131 ?_; intro _ _ _ _
 unfold zCU at h
 refine Q3 ?_
 refine kP ?_
 refine z6 h (fun h => ?_) (fun h => ?_)
 ·
  refine Q2 ?_
  refine q57 Tryz.underlying141 Tryz.underlying172 ?_
  cases h
 ·
  refine zP <| Q2 ?_
  have ⟨t7, ht7, h⟩ := bE h
  refine q6 (zL9 ht7) ?_
  refine Q1 ?_
  cases h
  refine zB ?_
  exact zH rfl
set_option maxHeartbeats 8000000 in
theorem zB1 {fv3 : DV} {a0 : (List Range)} {a1 : Int} {a2 : Int} {a3 : Range → Range → Option (Int)} (hf3 : ∀ x0 x1 y, a3 x0 x1 = some y → FnC Tryz.prog fv3 [(eRange.dv x0), (eRange.dv x1)] [(di y)]) {r : (List Range)} (h : kH a0 a1 a2 a3 = some r) : GC Tryz.prog 134 [.row 3000, .d (di a1), .d (di a2), .d fv3] [(3000, .row 123 eRange.size false (eRange.all a0))] [3000] [] [(3000, .row 123 eRange.size false (eRange.all r))] := by
 refine zCN Tryz.func134 (by kernel_rfl) rfl (lq rfl) (lq rfl) fun w0 I0 hG0 p0 => ?_
 unfold kH at h
 refine Q2 ?_
 refine Q9 ?_
 refine kB ?_
 have ⟨y1, hy1, h⟩ := bE h
 refine tl (.exit 0) ⟨[(0, .row 3000)], [(3000, .row 123 eRange.size false (eRange.all y1))]⟩ ?_ ?_
 ·
  refine zD (fun x => ⟨[(0, .row 3000), (1, .d (di a1)), (2, .d (di a2)), (3, .d fv3), (8, .d (di x.1))], [(3000, .row 123 eRange.size false (eRange.all x.2))]⟩) hy1 (wc) ?_
  rintro ⟨v8, r3000⟩ sy1 p1
  replace p1 : z7 a2 a1 a3 v8 r3000 = some sy1 := p1
  unfold z7 at p1
  refine Q67 ?_
  refine z6 p1 (fun p1 => ?_) (fun p1 => ?_)
  ·
   refine Q8 ?_
   refine Q35 ?_
   refine kB ?_
   have ⟨y2, hy2, p1⟩ := bE p1
   refine tl (.exit 2) ⟨[(0, .row 3000), (1, .d (di a1)), (2, .d (di a2)), (3, .d fv3), (8, .d (di v8))], [(3000, .row 123 eRange.size false (eRange.all y2))]⟩ ?_ ?_
   ·
    refine zD (fun x => ⟨[(0, .row 3000), (1, .d (di a1)), (2, .d (di a2)), (3, .d fv3), (8, .d (di v8)), (9, .d (di x.1))], [(3000, .row 123 eRange.size false (eRange.all x.2))]⟩) hy2 (wc) ?_
    rintro ⟨v9, r3000⟩ sy2 p2
    replace p2 : yJ a1 a3 v9 r3000 = some sy2 := p2
    unfold yJ at p2
    refine kP <| kP ?_
    refine z2 MX rfl ?_
    refine Q23 ?_
    refine zYW ?_
    have ⟨b21, hb21, p2⟩ := bE p2
    refine w8 ((zC (lq rfl) rfl).bool (oi hb21)) ?_
    refine q49 (.d fv3) ?_
    refine z58 (.row 3000) ?_
    refine q49 (.d (di v9)) ?_
    have ⟨t25, ht25, p2⟩ := bE p2
    refine dat (.ptr 3000 (v9.toNat * eRange.size)) rfl (fun hb => by subst hb; exact zB4 (en := eRange) (l := r3000) (lq rfl) S24 rfl rfl rfl ht25) ?_
    refine dat (.d (eRange.dv t25)) rfl (fun hb => by subst hb; exact wC (en := eRange) (l := r3000) (i := v9) (v := t25) (off := 0) (lq rfl) zBP rfl rfl ht25 rfl rfl (by decide)) ?_
    refine z58 (.row 3000) ?_
    refine q49 (.d (di v9)) ?_
    refine z2Q (.d (di (wi (v9 - 1)))) ?_
    have ⟨t30, ht30, p2⟩ := bE p2
    refine dat (.ptr 3000 ((wi (v9 - 1)).toNat * eRange.size)) rfl (fun hb => by subst hb; exact zB4 (en := eRange) (l := r3000) (lq rfl) S24 rfl rfl rfl ht30) ?_
    refine dat (.d (eRange.dv t30)) rfl (fun hb => by subst hb; exact wC (en := eRange) (l := r3000) (i := (wi (v9 - 1))) (v := t30) (off := 0) (lq rfl) zBP rfl rfl ht30 rfl rfl (by decide)) ?_
    have ⟨t32, ht32, p2⟩ := bE p2
    refine dat (.d (di t32)) rfl (fun hb => by subst hb; exact zEJ (lq rfl) rfl rfl (hf3 _ _ _ ht32)) ?_
    refine dat (.d (db (decide (t32 < 0)))) rfl (fun hb => by subst hb; exact zLP (lq rfl) rfl rfl) ?_
    refine Q91 ?_
    refine z6 p2 (fun p2 => ?_) (fun p2 => ?_)
    ·
     refine Q8 ?_
     have ⟨t45, ht45, p2⟩ := bE p2
     have ⟨t49, ht49, p2⟩ := bE p2
     have ⟨t51, ht51, p2⟩ := bE p2
     have ⟨r3000_6x15, hr3000_6x15, p2⟩ := bE p2
     have ⟨t52, ht52, p2⟩ := bE p2
     have ⟨r3000_6x17, hr3000_6x17, p2⟩ := bE p2
     refine tl .normal ⟨[(0, .row 3000), (1, .d (di a1)), (2, .d (di a2)), (3, .d fv3), (8, .d (di v8)), (9, .d (di v9))], [(3000, .row 123 eRange.size false (eRange.all r3000_6x17))]⟩ ?_ ?_
     ·
      refine zCZ MX ?_
      refine zZA ?_
      refine xm 2 ?_
      refine xm 3 ?_
      refine zH8 (i := 4) rfl (lq rfl) rfl rfl rfl rfl rfl rfl ?_
      refine xm 5 ?_
      refine xm 6 ?_
      refine zH8 (i := 7) rfl (lq rfl) rfl rfl rfl rfl rfl rfl ?_
      refine xm 10 ?_
      refine xm 11 ?_
      refine xn [8,12] ?_
      refine xa rfl (zB4 (en := eRange) (l := r3000) (lq rfl) S24 rfl rfl rfl ht45) ?_ ?_
      ·
       refine xn [9,12] ?_
       refine xa rfl (wC (en := eRange) (l := r3000) (i := (wi (v9 - 1))) (v := t45) (off := 0) (lq rfl) zBP rfl rfl ht45 rfl rfl (by decide)) ?_ ?_
       ·
        refine xn [12] ?_
        refine q60 S24 ht49 ?_
        refine xn [13] ?_
        refine xc rfl (wC (en := eRange) (l := r3000) (i := v9) (v := t49) (off := 0) (lq rfl) zBP rfl rfl ht49 rfl rfl (by decide)) ?_
        refine xn [14] ?_
        refine q60 S24 ht51 ?_
        refine xn [15] ?_
        refine q71 zBP hr3000_6x15 ?_
        refine xn [16] ?_
        refine q60 S24 ht52 ?_
        refine xn [17] ?_
        refine q71 zBP hr3000_6x17 ?_
        exact ae
       refine q60 S24 ht49 ?_
       refine xn [9,13] ?_
       refine xa rfl (wC (en := eRange) (l := r3000) (i := (wi (v9 - 1))) (v := t45) (off := 0) (lq rfl) zBP rfl rfl ht45 rfl rfl (by decide)) ?_ ?_
       ·
        refine xn [13] ?_
        refine xc rfl (wC (en := eRange) (l := r3000) (i := v9) (v := t49) (off := 0) (lq rfl) zBP rfl rfl ht49 rfl rfl (by decide)) ?_
        refine xn [14] ?_
        refine q60 S24 ht51 ?_
        refine xn [15] ?_
        refine q71 zBP hr3000_6x15 ?_
        refine xn [16] ?_
        refine q60 S24 ht52 ?_
        refine xn [17] ?_
        refine q71 zBP hr3000_6x17 ?_
        exact ae
       refine xc rfl (wC (en := eRange) (l := r3000) (i := v9) (v := t49) (off := 0) (lq rfl) zBP rfl rfl ht49 rfl rfl (by decide)) ?_
       refine xn [9] ?_
       refine xc rfl (wC (en := eRange) (l := r3000) (i := (wi (v9 - 1))) (v := t45) (off := 0) (lq rfl) zBP rfl rfl ht45 rfl rfl (by decide)) ?_
       refine xn [14] ?_
       refine q60 S24 ht51 ?_
       refine xn [15] ?_
       refine q71 zBP hr3000_6x15 ?_
       refine xn [16] ?_
       refine q60 S24 ht52 ?_
       refine xn [17] ?_
       refine q71 zBP hr3000_6x17 ?_
       exact ae
      refine q60 S24 ht49 ?_
      refine xn [8,13] ?_
      refine xa rfl (zB4 (en := eRange) (l := r3000) (lq rfl) S24 rfl rfl rfl ht45) ?_ ?_
      ·
       refine xn [9,13] ?_
       refine xa rfl (wC (en := eRange) (l := r3000) (i := (wi (v9 - 1))) (v := t45) (off := 0) (lq rfl) zBP rfl rfl ht45 rfl rfl (by decide)) ?_ ?_
       ·
        refine xn [13] ?_
        refine xc rfl (wC (en := eRange) (l := r3000) (i := v9) (v := t49) (off := 0) (lq rfl) zBP rfl rfl ht49 rfl rfl (by decide)) ?_
        refine xn [14] ?_
        refine q60 S24 ht51 ?_
        refine xn [15] ?_
        refine q71 zBP hr3000_6x15 ?_
        refine xn [16] ?_
        refine q60 S24 ht52 ?_
        refine xn [17] ?_
        refine q71 zBP hr3000_6x17 ?_
        exact ae
       refine xc rfl (wC (en := eRange) (l := r3000) (i := v9) (v := t49) (off := 0) (lq rfl) zBP rfl rfl ht49 rfl rfl (by decide)) ?_
       refine xn [9] ?_
       refine xc rfl (wC (en := eRange) (l := r3000) (i := (wi (v9 - 1))) (v := t45) (off := 0) (lq rfl) zBP rfl rfl ht45 rfl rfl (by decide)) ?_
       refine xn [14] ?_
       refine q60 S24 ht51 ?_
       refine xn [15] ?_
       refine q71 zBP hr3000_6x15 ?_
       refine xn [16] ?_
       refine q60 S24 ht52 ?_
       refine xn [17] ?_
       refine q71 zBP hr3000_6x17 ?_
       exact ae
      refine xc rfl (wC (en := eRange) (l := r3000) (i := v9) (v := t49) (off := 0) (lq rfl) zBP rfl rfl ht49 rfl rfl (by decide)) ?_
      refine xn [8] ?_
      refine q60 S24 ht45 ?_
      refine xn [9] ?_
      refine xc rfl (wC (en := eRange) (l := r3000) (i := (wi (v9 - 1))) (v := t45) (off := 0) (lq rfl) zBP rfl rfl ht45 rfl rfl (by decide)) ?_
      refine xn [14] ?_
      refine q60 S24 ht51 ?_
      refine xn [15] ?_
      refine q71 zBP hr3000_6x15 ?_
      refine xn [16] ?_
      refine q60 S24 ht52 ?_
      refine xn [17] ?_
      refine q71 zBP hr3000_6x17 ?_
      exact ae
     refine Q7 ?_
     refine Q68 ?_
     cases p2
     exact wc
    ·
     refine zG ?_
     cases p2
     intro q; cases q
     exact zI (wc)
   ·
    refine Q11 ?_
    cases p1
    exact wc
  ·
   refine zG ?_
   cases p1
   intro q; cases q
   exact zI (wc)
 ·
  cases h
  exact ⟨rfl, ⟨rfl, trivial⟩⟩
theorem zDD {fv4 : DV} {a0 : (List Range)} {a1 : Int} {a2 : Int} {a3 : Int} {a4 : Range → Range → Option (Int)} (hf4 : ∀ x0 x1 y, a4 x0 x1 = some y → FnC Tryz.prog fv4 [(eRange.dv x0), (eRange.dv x1)] [(di y)]) {r : (List Range)} (h : jT a0 a1 a2 a3 a4 = some r) : GC Tryz.prog 130 [.row 3000, .d (di a1), .d (di a2), .d (di a3), .d fv4] [(3000, .row 123 eRange.size false (eRange.all a0))] [3000] [] [(3000, .row 123 eRange.size false (eRange.all r))] := by
 refine zCN Tryz.func130 (by kernel_rfl) rfl (lq rfl) (lq rfl) fun w0 I0 hG0 p0 => ?_
 unfold jT at h
 refine Q3 ?_
 refine Q14 ?_
 have ⟨y1, hy1, h⟩ := bE h
 refine tl .ret ⟨[(0, .row 3000)], [(3000, .row 123 eRange.size false (eRange.all y1))]⟩ ?_ ?_
 ·
  refine zD (fun x => ⟨[(0, .row 3000), (1, .d (di a1)), (2, .d (di a2)), (3, .d (di a3)), (4, .d fv4), (10, .d (db true)), (11, .d (db true))], [(3000, .row 123 eRange.size false (eRange.all a0))]⟩) hy1 (wc) ?_
  rintro _ sy1 p1
  replace p1 : yY a2 a1 a0 a4 a3  = some sy1 := p1
  unfold yY at p1
  have ⟨y2, hy2, p1⟩ := bE p1
  refine tl .ret ⟨[(0, .row 3000)], [(3000, .row 123 eRange.size false (eRange.all y2))]⟩ ?_ ?_
  ·
   refine Q74 ?_
   refine Q68 ?_
   refine Q4 ?_
   refine q68 ?_
   refine zJ ?_
   refine z6 hy2 (fun hy2 => ?_) (fun hy2 => ?_)
   ·
    refine zZE ?_
    have ⟨t30, ht30, hy2⟩ := bE hy2
    refine yW rfl (zCF [(3000, 3000)] (zB1 hf4 ht30) (lq rfl) (by decide) ⟨rfl, rfl, rfl, rfl, trivial⟩ rfl rfl ⟨rfl, trivial⟩ rfl rfl rfl rfl) ?_
    refine zJ <| zB ?_
    cases hy2
    exact zI (wc)
   ·
    refine Q85 ?_
    refine Q86 ?_
    refine z6 hy2 (fun hy2 => ?_) (fun hy2 => ?_)
    ·
     refine zZE ?_
     cases hy2
    ·
     refine Q85 ?_
     refine Q38 ?_
     have ⟨y3, hy3, hy2⟩ := bE hy2
     refine tl .normal ⟨[(0, .row 3000), (1, .d (di a1)), (2, .d (di a2)), (3, .d (di a3)), (4, .d fv4), (10, .d (db true)), (11, .d (db true)), (12, .d (di (wi (a2 - a1))))], [(3000, .row 123 eRange.size false (eRange.all a0))]⟩ ?_ ?_
     ·
      refine z6 hy3 (fun hy3 => ?_) (fun hy3 => ?_)
      ·
       refine zZE ?_
       cases hy3
      ·
       refine zP ?_
       cases hy3
       exact zI (wc)
     ·
      refine zZE ?_
      cases hy2
  ·
   cases p1
   intro q; cases q
   exact zI (wc)
 ·
  cases h
  exact ⟨rfl, ⟨rfl, trivial⟩⟩
theorem zCI {fv1 : DV} {a0 : (List Range)} {a1 : Range → Range → Option (Int)} (hf1 : ∀ x0 x1 y, a1 x0 x1 = some y → FnC Tryz.prog fv1 [(eRange.dv x0), (eRange.dv x1)] [(di y)]) {r : (List Range)} (h : kR a0 a1 = some r) : GC Tryz.prog 121 [.row 3000, .d fv1] [(3000, .row 123 eRange.size false (eRange.all a0))] [3000] [] [(3000, .row 123 eRange.size false (eRange.all r))] := by
 refine zCN Tryz.func121 (by kernel_rfl) rfl (lq rfl) (lq rfl) fun w0 I0 hG0 p0 => ?_
 unfold kR at h
 refine Q75 ?_
 refine z59 S24 ?_
 refine Q1 ?_
 refine Q76 ?_
 refine q57 Tryz.underlying3 Tryz.underlying141 ?_
 have ⟨t11, ht11, h⟩ := bE h
 refine q6 (zOI ht11) ?_
 refine q0 ?_
 have ⟨t13, ht13, h⟩ := bE h
 refine yW rfl (zCF [(3000, 3000)] (zDD hf1 ht13) (lq rfl) (by decide) ⟨rfl, rfl, rfl, rfl, rfl, trivial⟩ rfl rfl ⟨rfl, trivial⟩ rfl rfl rfl rfl) ?_
 refine zJ ?_
 cases h
 exact ⟨rfl, ⟨rfl, trivial⟩⟩
theorem zP8 {a0 a1 r} (h : u7 a0 a1 = some r) : zF Tryz.prog 122 [(eRange.dv a0), (eRange.dv a1)] [(di r)] := by
 refine co Tryz.func122 ?_; intro _ _ _ _
 unfold u7 at h
 refine Q0 ?_
 refine yH (zLX (size := 2) (lq rfl) rfl rfl) ?_
 refine yH (zLX (size := 2) (lq rfl) rfl rfl) ?_
 refine Q15 ?_
 refine z2 MX rfl ?_
 refine q23 zG8 ?_
 refine q27 O3 ?_
 refine q23 zG8 ?_
 refine q27 O3 ?_
 have ⟨t9, ht9, h⟩ := bE h
 refine q25 (xS ht9) ?_
 refine q23 zDP ?_
 refine q27 O3 ?_
 refine q23 zDP ?_
 refine q27 O3 ?_
 have ⟨t14, ht14, h⟩ := bE h
 refine q25 (xS ht14) ?_
 refine z9S yF ?_
 have ⟨t16, ht16, h⟩ := bE h
 refine q25 (zL7 ht16) ?_
 refine Q49 ?_
 cases h
 refine zB ?_
 exact zH rfl
theorem zTV {a0 r} (h : zFZ a0 = some r) : zF Tryz.prog 105 [(zR eRange a0)] [(eSet.dv r)] := by
 refine co Tryz.func105 ?_; intro _ _ _ _
 unfold zFZ at h
 refine Q0 ?_
 refine z2T ?_
 refine zJ <| Q3 ?_
 refine zQ (uD (t := 3) 1003 123 eRange.size (lq rfl) (lq rfl) rfl rfl) ?_
 refine Q4 ?_
 refine q5 S24 ?_
 refine Q25 ?_
 have ⟨y1, hy1, h⟩ := bE h
 refine tl (.exit 0) ⟨[(2, .ptr 2 0), (3, .row 1003)], [(2, .box 26 [.d (.v (.slice none 0 0))]), (1003, .row 123 eRange.size false (eRange.all y1))]⟩ ?_ ?_
 ·
  refine zD (fun x => ⟨[(2, .ptr 2 0), (3, .row 1003), (11, .d (zR eRange a0)), (12, .d (di (a0.length : Int))), (13, .d (di x.1))], [(2, .box 26 [.d (.v (.slice none 0 0))]), (1003, .row 123 eRange.size false (eRange.all x.2))]⟩) hy1 (wc) ?_
  rintro ⟨v13, r1003⟩ sy1 p1
  replace p1 : zAD a0 v13 r1003 = some sy1 := p1
  unfold zAD at p1
  refine Q27 ?_
  refine z6 p1 (fun p1 => ?_) (fun p1 => ?_)
  ·
   refine Q5 ?_
   have ⟨y2, hy2, p1⟩ := bE p1
   refine tl .normal ⟨[(2, .ptr 2 0), (3, .row 1003), (11, .d (zR eRange a0)), (12, .d (di (a0.length : Int))), (13, .d (di v13))], [(2, .box 26 [.d (.v (.slice none 0 0))]), (1003, .row 123 eRange.size false (eRange.all y2))]⟩ ?_ ?_
   ·
    refine zY8 ?_
    have ⟨t15, ht15, hy2⟩ := bE hy2
    refine q13 S24 ht15 ?_
    refine yH (xE (en := eRange) (l := a0) (i := v13) (v := t15) (off := 0) (lq rfl) zBP rfl ht15 rfl rfl (by decide)) ?_
    refine zYZ ?_
    refine zZB ?_
    refine zQ (zW (t := 5) (lq rfl) rfl rfl rfl) ?_
    refine Q0 ?_
    refine q7 zG8 ?_
    refine q8 O3 ?_
    refine z9U ?_
    refine q7 zDP ?_
    refine q8 O3 ?_
    refine z53 ?_
    refine q56 zWI ?_
    refine zYZ ?_
    refine zZB ?_
    refine zQ (zW (t := 6) (lq rfl) rfl rfl rfl) ?_
    refine Q0 ?_
    refine q7 zG8 ?_
    refine q8 O3 ?_
    refine q7 zDP ?_
    refine q8 O3 ?_
    refine q68 ?_
    refine zJ ?_
    refine z6 hy2 (fun hy2 => ?_) (fun hy2 => ?_)
    ·
     refine Q84 ?_
     refine q20 zBP ?_
     refine q38 S24 ?_
     have ⟨r1003_3, hr1003_3, hy2⟩ := bE hy2
     refine yW rfl (k7 (en := eRange) (l := r1003) (m := [({ Lo := max t15.Lo 0, Hi := min t15.Hi 1114111 } : Range)]) (lq rfl) S24 rfl rfl rfl hr1003_3 (by decide) (by decide) rfl rfl) ?_
     refine Q17 ?_
     cases hy2
     exact zI (wc)
    ·
     refine zP ?_
     cases hy2
     exact zI (wc)
   ·
    refine Q29 ?_
    cases p1
    exact wc
  ·
   refine zG ?_
   cases p1
   intro q; cases q
   exact zI (wc)
 ·
  refine Q75 ?_
  have ⟨t35, ht35, h⟩ := bE h
  refine yW rfl (jO [(3000, 1003)] (zCI (fun _ _ _ q => .inr ⟨_, rfl, zP8 q⟩) ht35) (lq rfl) (by decide) ⟨rfl, rfl, trivial⟩ rfl rfl ⟨rfl, trivial⟩ rfl rfl rfl (fun _ => rfl) rfl) ?_
  refine zJ <| Q3 ?_
  refine zQ (uD (t := 7) 1007 123 eRange.size (lq rfl) (lq rfl) rfl rfl) ?_
  refine Q32 ?_
  refine q11 ?_
  refine z59 S24 ?_
  refine Q25 ?_
  have ⟨y4, hy4, h⟩ := bE h
  refine tl (.exit 2) ⟨[(2, .ptr 2 0), (7, .row 1007)], [(2, .box 26 [.d (.v (.slice none 0 0))]), (1007, .row 123 eRange.size false (eRange.all y4))]⟩ ?_ ?_
  ·
   refine zD (fun x => ⟨[(2, .ptr 2 0), (7, .row 1007), (36, .row 1003), (37, .d (di (t35.length : Int))), (38, .d (di x.1))], [(2, .box 26 [.d (.v (.slice none 0 0))]), (1003, .row 123 eRange.size false (eRange.all t35)), (1007, .row 123 eRange.size false (eRange.all x.2))]⟩) hy4 (wc) ?_
   rintro ⟨v38, r1007⟩ sy4 p4
   replace p4 : zAE t35 v38 r1007 = some sy4 := p4
   unfold zAE at p4
   refine Q27 ?_
   refine z6 p4 (fun p4 => ?_) (fun p4 => ?_)
   ·
    refine Q5 ?_
    have ⟨y5, hy5, p4⟩ := bE p4
    refine tl .normal ⟨[(2, .ptr 2 0), (7, .row 1007), (36, .row 1003), (37, .d (di (t35.length : Int))), (38, .d (di v38))], [(2, .box 26 [.d (.v (.slice none 0 0))]), (1003, .row 123 eRange.size false (eRange.all t35)), (1007, .row 123 eRange.size false (eRange.all y5))]⟩ ?_ ?_
    ·
     refine zY8 ?_
     have ⟨t40, ht40, hy5⟩ := bE hy5
     refine q76 S24 ht40 ?_
     refine yH (wC (en := eRange) (l := t35) (i := v38) (v := t40) (off := 0) (lq rfl) zBP rfl rfl ht40 rfl rfl (by decide)) ?_
     refine zYZ ?_
     refine zZB ?_
     refine zQ (zW (t := 9) (lq rfl) rfl rfl rfl) ?_
     refine Q32 ?_
     refine q11 ?_
     refine z59 S24 ?_
     refine Q15 ?_
     refine z2 MX rfl ?_
     refine q4 ?_
     refine zYW ?_
     have ⟨b46, hb46, hy5⟩ := bE hy5
     refine w8 ((zC (lq rfl) rfl).bool (oi hb46)) ?_
     refine q51 (.ip (eRange.cells t40) (0 + 0)) zG8 ?_
     refine q70 (.d (di t40.Lo)) O3 ?_
     refine z58 (.row 1007) ?_
     refine q49 (.d (di (r1007.length : Int))) ?_
     refine z2Q (.d (di (wi ((r1007.length : Int) - 1)))) ?_
     have ⟨t52, ht52, hy5⟩ := bE hy5
     refine dat (.ptr 1007 ((wi ((r1007.length : Int) - 1)).toNat * eRange.size)) rfl (fun hb => by subst hb; exact zB4 (en := eRange) (l := r1007) (lq rfl) S24 rfl rfl rfl ht52) ?_
     refine dat (.ptr 1007 ((wi ((r1007.length : Int) - 1)).toNat * eRange.size + 1)) rfl (fun hb => by subst hb; exact zFA (lq rfl) zDP rfl) ?_
     refine dat (.d (di t52.Hi)) rfl (fun hb => by subst hb; exact zFW (en := eRange) (l := r1007) (i := (wi ((r1007.length : Int) - 1))) (v := t52) (off := 1) (lq rfl) O3 rfl rfl ht52 rfl) ?_
     refine dat (.d (di (wi (t52.Hi + 1)))) rfl (fun hb => by subst hb; exact zSF (lq rfl) rfl rfl) ?_
     refine dat (.d (db (decide (t40.Lo ≤ (wi (t52.Hi + 1)))))) rfl (fun hb => by subst hb; exact zHE (lq rfl) rfl rfl) ?_
     refine Q91 ?_
     refine z6 hy5 (fun hy5 => ?_) (fun hy5 => ?_)
     ·
      refine kP ?_
      refine zFU 14 MX rfl ?_
      refine zWU ?_
      refine q92 ?_
      refine zWU ?_
      refine q92 ?_
      have ⟨t64, ht64, hy5⟩ := bE hy5
      refine w8 (zB4 (en := eRange) (l := r1007) (lq rfl) S24 rfl rfl rfl ht64) ?_
      refine q91 zDP ?_
      refine w8 (zFW (en := eRange) (l := r1007) (i := (wi ((r1007.length : Int) - 1))) (v := t64) (off := 1) (lq rfl) O3 rfl rfl ht64 rfl) ?_
      refine q23 zDP ?_
      refine q27 O3 ?_
      refine w8 (zZZ (lq rfl) rfl rfl) ?_
      have ⟨t70, ht70, hy5⟩ := bE hy5
      refine w8 (zB4 (en := eRange) (l := r1007) (lq rfl) S24 rfl rfl rfl ht70) ?_
      refine q91 zDP ?_
      refine wB ?_
      have ⟨r1007_6, hr1007_6, hy5⟩ := bE hy5
      refine yW rfl (zGR (en := eRange) (l := r1007) (i := (wi ((r1007.length : Int) - 1))) (v := t70) (off := 1) O3 rfl rfl rfl ht70 rfl (by decide) hr1007_6 rfl rfl) ?_
      refine zJ <| zG ?_
      cases hy5
      exact zI (wc)
     ·
      refine zP <| Q84 ?_
      refine q20 zBP ?_
      refine q38 S24 ?_
      have ⟨r1007_7, hr1007_7, hy5⟩ := bE hy5
      refine yW rfl (k7 (en := eRange) (l := r1007) (m := [t40]) (lq rfl) S24 rfl rfl rfl hr1007_7 (by decide) (by decide) rfl rfl) ?_
      refine Q17 ?_
      cases hy5
      exact zI (wc)
    ·
     refine Q29 ?_
     cases p4
     exact wc
   ·
    refine zG ?_
    cases p4
    intro q; cases q
    exact zI (wc)
  ·
   refine Q75 ?_
   refine zHY (zD2 (t := 77) (lq rfl) rfl rfl) ?_ (by simp)
   refine q56 B26 ?_
   refine q17 G26 ?_
   refine zJ ?_
   cases h
   refine zB ?_
   exact vT rfl rfl G26 rfl
theorem zRC {a0 r} (h : zEV a0 = some r) : zF Tryz.prog 78 [(eSet.dv a0)] [(db r)] := by
 refine co Tryz.func78 ?_; intro _ _ _ _
 unfold zEV at h
 refine Q88 ?_
 refine Q47 ?_
 refine Q83 ?_
 have ⟨t8, ht8, h⟩ := bE h
 refine q6 (zTV ht8) ?_
 refine z2T ?_
 refine q17 G26 ?_
 refine zJ ?_
 refine zQ (zW (t := 3) (lq rfl) rfl rfl rfl) ?_
 refine Q32 ?_
 refine Q89 ?_
 refine Q89 ?_
 refine Q40 ?_
 refine z6 h (fun h => ?_) (fun h => ?_)
 ·
  refine Q3 ?_
  cases h
  refine zB ?_
  exact zH rfl
 ·
  refine Q79 ?_
  refine Q89 ?_
  refine Q25 ?_
  have ⟨y1, hy1, h⟩ := bE h
  refine zN y1 (.exit 0) (fun y1 => ⟨[], []⟩) .ret (fun y1 => ⟨[(2, .d (db y1))], []⟩) ?_ ?_ ?_
  ·
   refine zD (fun x => ⟨[(1, .d (.pt (eSet.cells a0))), (17, .d (zR eRange t8.Ranges)), (18, .d (di (t8.Ranges.length : Int))), (19, .d (di x))], []⟩) hy1 (wc) ?_
   rintro v19 sy1 p1
   replace p1 : zAQ t8 a0 v19 = some sy1 := p1
   unfold zAQ at p1
   refine Q27 ?_
   refine z6 p1 (fun p1 => ?_) (fun p1 => ?_)
   ·
    refine Q8 ?_
    refine Q2 ?_
    have ⟨t22, ht22, p1⟩ := bE p1
    refine q13 S24 ht22 ?_
    refine yH (xE (en := eRange) (l := t8.Ranges) (i := v19) (v := t22) (off := 0) (lq rfl) zBP rfl ht22 rfl rfl (by decide)) ?_
    refine zYZ ?_
    refine q1 ?_
    refine zZB ?_
    refine zQ (zW (t := 5) (lq rfl) rfl rfl rfl) ?_
    refine kP ?_
    refine z2 MX rfl ?_
    refine q67 zBP ?_
    refine q23 zHI ?_
    refine q27 O24 ?_
    refine q4 ?_
    have ⟨t28, ht28, p1⟩ := bE p1
    refine q21 S24 ht28 ?_
    refine w8 (xE (en := eRange) (l := a0.Ranges) (i := v19) (v := t28) (off := 0) (lq rfl) zBP rfl ht28 rfl rfl (by decide)) ?_
    refine w8 (zTL (en := eRange) (a := t22) (b := t28) (lq rfl) yFG rfl rfl) ?_
    refine wB ?_
    refine z6 p1 (fun p1 => ?_) (fun p1 => ?_)
    ·
     refine Q16 ?_
     cases p1
     intro q; cases q
     exact ⟨rfl, wc⟩
    ·
     refine Q53 ?_
     cases p1
     exact wc
   ·
    refine zG ?_
    cases p1
    intro q; cases q
    exact ⟨rfl, wc⟩
  ·
   rintro y1 rfl
   replace h := eL h
   refine Q3 ?_
   cases h
   refine zB ?_
   exact zH rfl
  ·
   rintro y1 rfl
   replace h := eR h
   cases h
   exact zH rfl
theorem zG9 {a0 r} (h : zB7 a0 = some r) : zF Tryz.prog 79 [(di a0)] [(di r)] := by
 refine co Tryz.func79 ?_; intro _ _ _ _
 unfold zB7 at h
 refine Q3 ?_
 refine kP <| zWV ?_
 refine q37 ?_
 have ⟨b6, hb6, h⟩ := bE h
 refine yH ((zC (lq rfl) rfl).bool (oi hb6)) ?_
 refine q12 (.d (di a0)) ?_
 refine q69 (.d (db (decide (a0 < 4371)))) ?_
 refine Q43 ?_
 refine z6 h (fun h => ?_) (fun h => ?_)
 ·
  refine Q3 ?_
  cases h
  refine zB ?_
  exact zH rfl
 ·
  refine Q2 ?_
  refine q37 ?_
  have ⟨b13, hb13, h⟩ := bE h
  refine yH ((zC (lq rfl) rfl).bool (oi hb13)) ?_
  refine q12 (.d (di a0)) ?_
  refine q69 (.d (db (decide (a0 < 4470)))) ?_
  refine Q43 ?_
  refine z6 h (fun h => ?_) (fun h => ?_)
  ·
   refine Q3 ?_
   cases h
   refine zB ?_
   exact zH rfl
  ·
   refine Q2 ?_
   refine q37 ?_
   have ⟨b20, hb20, h⟩ := bE h
   refine yH ((zC (lq rfl) rfl).bool (oi hb20)) ?_
   refine q12 (.d (di a0)) ?_
   refine q69 (.d (db (decide (a0 < 4547)))) ?_
   refine Q43 ?_
   refine z6 h (fun h => ?_) (fun h => ?_)
   ·
    refine Q3 ?_
    cases h
    refine zB ?_
    exact zH rfl
   ·
    refine Q2 ?_
    refine q3 ?_
    have ⟨b27, hb27, h⟩ := bE h
    refine yH ((zC (lq rfl) rfl).bool (oi hb27)) ?_
    refine q39 (.d (di a0)) ?_
    refine q98 (.d (db (decide (55204 ≤ a0)))) ?_
    refine q19 ?_
    refine Q1 ?_
    refine z6 h (fun h => ?_) (fun h => ?_)
    ·
     refine Q3 ?_
     cases h
     refine zB ?_
     exact zH rfl
    ·
     refine Q2 ?_
     refine q31 ?_
     have ⟨t34, ht34, h⟩ := bE h
     refine q86 ht34 ?_
     refine zZF ?_
     refine z6 h (fun h => ?_) (fun h => ?_)
     ·
      refine Q3 ?_
      cases h
      refine zB ?_
      exact zH rfl
     ·
      refine Q58 ?_
      cases h
      refine zB ?_
      exact zH rfl
theorem zG1 {a0 r} (h : uT a0 = some r) : zF Tryz.prog 93 [(zR eSpan a0)] [(zR eSpan r)] := by
 refine co Tryz.func93 ?_; intro _ _ _ _
 unfold uT at h
 refine Q44 ?_
 have ⟨t4, ht4, h⟩ := bE h
 refine q6 (zHO ht4) ?_
 refine Q40 ?_
 refine z6 h (fun h => ?_) (fun h => ?_)
 ·
  refine Q3 ?_
  refine zQ (zC5 (t := 2) eSpan.size (lq rfl) rfl) ?_
  cases h
  refine zB ?_
  exact zH rfl
 ·
  refine zP <| Q35 ?_
  cases h
  refine zB ?_
  exact zH rfl
theorem zAA {fv2 : DV} {a0 : (List Span)} {a1 : Int} {a2 : Span → Int → Option (Int)} (hf2 : ∀ x0 x1 y, a2 x0 x1 = some y → FnC Tryz.prog fv2 [(eSpan.dv x0), (di x1)] [(di y)]) {r : Int × Bool} (h : kE a0 a1 a2 = some r) : zF Tryz.prog 114 [(zR eSpan a0), (di a1), fv2] [(di r.1), (db r.2)] := by
 refine co Tryz.func114 ?_; intro _ _ _ _
 unfold kE at h
 refine Q0 ?_
 refine Q87 ?_
 refine q5 S22 ?_
 refine Q22 ?_
 refine q1 ?_
 refine Q69 ?_
 have ⟨y1, hy1, h⟩ := bE h
 refine tl (.exit 0) ⟨[(0, .d (zR eSpan a0)), (1, .d (di a1)), (2, .d fv2), (8, .d (di (a0.length : Int))), (9, .d (di y1))], []⟩ ?_ ?_
 ·
  refine zD (fun x => ⟨[(0, .d (zR eSpan a0)), (1, .d (di a1)), (2, .d fv2), (8, .d (di (a0.length : Int))), (9, .d (di x.1)), (10, .d (di x.2))], []⟩) hy1 (wc) ?_
  rintro ⟨v9, v10⟩ sy1 p1
  replace p1 : z3 a0 a2 a1 v9 v10 = some sy1 := p1
  unfold z3 at p1
  refine Q67 ?_
  refine z6 p1 (fun p1 => ?_) (fun p1 => ?_)
  ·
   refine zP ?_
   have ⟨y2, hy2, p1⟩ := bE p1
   refine tl .normal ⟨[(0, .d (zR eSpan a0)), (1, .d (di a1)), (2, .d fv2), (8, .d (di (a0.length : Int))), (9, .d (di y2.1)), (10, .d (di y2.2))], []⟩ ?_ ?_
   ·
    refine Q74 ?_
    refine zZG ?_
    refine Q1 ?_
    refine Q13 ?_
    refine q0 ?_
    have ⟨t27, ht27, hy2⟩ := bE hy2
    refine q13 S22 ht27 ?_
    refine z9R G61 ht27 ?_
    refine q0 ?_
    have ⟨t30, ht30, hy2⟩ := bE hy2
    refine yH (zEJ (lq rfl) rfl rfl (hf2 _ _ _ ht30)) ?_
    refine Q6 ?_
    refine z6 hy2 (fun hy2 => ?_) (fun hy2 => ?_)
    ·
     refine Q11 ?_
     cases hy2
     exact zI (wc)
    ·
     refine Q77 ?_
     cases hy2
     exact zI (wc)
   ·
    cases p1
    exact wc
  ·
   refine zG ?_
   cases p1
   intro q; cases q
   exact zI (wc)
 ·
  refine Q13 ?_
  refine q0 ?_
  refine q3 ?_
  have ⟨b39, hb39, h⟩ := bE h
  refine yH ((zC (lq rfl) rfl).bool (oi hb39)) ?_
  refine q12 (.d fv2) ?_
  refine q12 (.d (zR eSpan a0)) ?_
  refine q12 (.d (di y1)) ?_
  have ⟨t43, ht43, h⟩ := bE h
  refine sqt (.ip (eSpan.all a0) (y1.toNat * eSpan.size)) rfl (fun hb => by subst hb; exact kJ (en := eSpan) (lq rfl) S22 rfl rfl ht43) ?_
  refine sqt (.d (eSpan.dv t43)) rfl (fun hb => by subst hb; exact xE (en := eSpan) (l := a0) (i := y1) (v := t43) (off := 0) (lq rfl) G61 rfl ht43 rfl rfl (by decide)) ?_
  refine q12 (.d (di a1)) ?_
  have ⟨t46, ht46, h⟩ := bE h
  refine sqt (.d (di t46)) rfl (fun hb => by subst hb; exact zEJ (lq rfl) rfl rfl (hf2 _ _ _ ht46)) ?_
  refine zYX (.d (db (decide (t46 = 0)))) ?_
  refine q14 ?_
  refine Q34 ?_
  cases h
  refine zB ?_
  exact zEI rfl rfl
theorem zK8 {a0 a1 r} (h : vZ a0 a1 = some r) : zF Tryz.prog 115 [(eSpan.dv a0), (di a1)] [(di r)] := by
 refine co Tryz.func115 ?_; intro _ _ _ _
 unfold vZ at h
 refine Q39 ?_
 refine Q69 ?_
 refine Q0 ?_
 refine q7 zHK ?_
 refine q8 O3 ?_
 refine q0 ?_
 refine q3 ?_
 refine Q1 ?_
 refine z6 h (fun h => ?_) (fun h => ?_)
 ·
  refine Q3 ?_
  cases h
  refine zB ?_
  exact zH rfl
 ·
  refine Q0 ?_
  refine q7 zHJ ?_
  refine q8 O3 ?_
  refine q0 ?_
  refine q48 ?_
  refine Q1 ?_
  refine z6 h (fun h => ?_) (fun h => ?_)
  ·
   refine Q3 ?_
   cases h
   refine zB ?_
   exact zH rfl
  ·
   refine Q58 ?_
   cases h
   refine zB ?_
   exact zH rfl
theorem zEE {a0 a1 r} (h : kK a0 a1 = some r) : zF Tryz.prog 97 [(zR eSpan a0), (di a1)] [(di r)] := by
 refine co Tryz.func97 ?_; intro _ _ _ _
 unfold kK at h
 refine Q3 ?_
 refine Q13 ?_
 have ⟨t10, ht10, h⟩ := bE h
 refine q6 (zAA (fun _ _ _ q => .inr ⟨_, rfl, zK8 q⟩) ht10) ?_
 refine Q55 ?_
 refine Q34 ?_
 refine Q4 ?_
 refine Q38 ?_
 refine z6 h (fun h => ?_) (fun h => ?_)
 ·
  refine Q3 ?_
  cases h
  refine zB ?_
  exact zH rfl
 ·
  refine zP <| Q13 ?_
  have ⟨t17, ht17, h⟩ := bE h
  refine q13 S22 ht17 ?_
  refine q44 zIK ?_
  refine yH (z0 (en := eSpan) (l := a0) (i := t10.1) (v := t17) (off := 2) (lq rfl) O3 rfl ht17 rfl) ?_
  refine Q1 ?_
  cases h
  refine zB ?_
  exact zH rfl
theorem zG2  {items : List Range} {a1 : (List Int)} {a2 : (List Span)}  {r : Unit} (h : uU items a1 a2 = some r) : zVM Tryz.prog 112 [(.pt [(zR eI a1)]), (.pt [(zR eSpan a2)])] (items.map fun x => [eRange.dv x]) := by
 refine z8P Tryz.func112 (by kernel_rfl) rfl (lq rfl) (lq rfl) fun w0 I0 J hc hg hG l0 hE => ?_
 unfold uU at h
 refine Q3 ?_
 refine Q32 ?_
 refine zY1 O33 ?_
 refine Q99 ?_
 have ⟨y1, hy1, h⟩ := bE h
 refine zN y1 (.exit 0) (fun y1 => ⟨[(0, .d (.v (.func (.yield l0) #[] #[]))), (1, .d (.pt [(zR eI a1)])), (4, .d (di y1.1)), (1000000, .gh y1.2)], []⟩) .ret (fun y1 => ⟨[(1000000, .gh y1)], []⟩) ?_ ?_ ?_
 ·
  refine zD (fun x => ⟨[(0, .d (.v (.func (.yield l0) #[] #[]))), (1, .d (.pt [(zR eI a1)])), (2, .d (.pt [(zR eSpan a2)])), (4, .d (di x.1)), (8, .d (zR eI a1)), (9, .d (di (a1.length : Int))), (10, .d (di x.2.1)), (1000000, .gh x.2.2)], []⟩) hy1 (wc) ?_
  rintro ⟨v4, v10, v1000000⟩ sy1 p1
  replace p1 : yZ a1 a2 items v4 v10 v1000000 = some sy1 := p1
  unfold yZ at p1
  refine Q27 ?_
  refine z6 p1 (fun p1 => ?_) (fun p1 => ?_)
  ·
   refine Q5 ?_
   have ⟨y2, hy2, p1⟩ := bE p1
   refine zN y2 .normal (fun y2 => ⟨[(0, .d (.v (.func (.yield l0) #[] #[]))), (1, .d (.pt [(zR eI a1)])), (2, .d (.pt [(zR eSpan a2)])), (4, .d (di y2.1)), (8, .d (zR eI a1)), (9, .d (di (a1.length : Int))), (10, .d (di v10)), (1000000, .gh y2.2)], []⟩) .ret (fun y2 => ⟨[(1000000, .gh y2)], []⟩) ?_ ?_ ?_
   ·
    refine zWV ?_
    have ⟨t13, ht13, hy2⟩ := bE hy2
    refine q13 yF ht13 ?_
    refine q35 O3 ht13 ?_
    refine Q34 ?_
    refine Q0 ?_
    refine zY1 O22 ?_
    refine q0 ?_
    have ⟨t17, ht17, hy2⟩ := bE hy2
    refine q6 (zEE ht17) ?_
    refine zZF ?_
    have ⟨y3, hy3, hy2⟩ := bE hy2
    refine zN y3 .normal (fun y3 => ⟨[(0, .d (.v (.func (.yield l0) #[] #[]))), (1, .d (.pt [(zR eI a1)])), (2, .d (.pt [(zR eSpan a2)])), (4, .d (di y3.1)), (8, .d (zR eI a1)), (9, .d (di (a1.length : Int))), (10, .d (di v10)), (1000000, .gh y3.2)], []⟩) .ret (fun y3 => ⟨[(1000000, .gh y3)], []⟩) ?_ ?_ ?_
    ·
     refine zWV ?_
     refine q28 ?_
     have ⟨b22, hb22, hy3⟩ := bE hy3
     refine yH ((zC (lq rfl) rfl).bool (oi hb22)) ?_
     refine q12 (.d (di v4)) ?_
     refine q69 (.d (db (decide (v4 < 0)))) ?_
     refine Q43 ?_
     refine z6 hy3 (fun hy3 => ?_) (fun hy3 => ?_)
     ·
      refine Q77 ?_
      cases hy3
      exact ⟨rfl, wc⟩
     ·
      refine Q2 ?_
      have ⟨b29, hb29, hy3⟩ := bE hy3
      refine yH ((zC (lq rfl) rfl).bool (oi hb29)) ?_
      refine q12 (.d (di v4)) ?_
      refine sqt (.d (db (decide (0 ≤ v4)))) rfl (fun hb => by subst hb; exact zI3 (lq rfl) rfl rfl) ?_
      refine Q43 ?_
      refine z6 hy3 (fun hy3 => ?_) (fun hy3 => ?_)
      ·
       refine Q10 ?_
       refine q0 ?_
       refine q56 zWI ?_
       have ⟨u37, hu37, hy3⟩ := bE hy3
       refine yW rfl (zZ1 (k := v1000000) (lq rfl) hE rfl rfl rfl (z5P _ hu37)) ?_
       refine Q38 ?_
       refine z6 hy3 (fun hy3 => ?_) (fun hy3 => ?_)
       ·
        refine zB ?_
        cases hy3
        exact ⟨rfl, wc⟩
       ·
        refine zP <| zBC <| Q1 ?_
        cases hy3
        exact ⟨rfl, wc⟩
      ·
       refine zP ?_
       cases hy3
       exact ⟨rfl, wc⟩
    ·
     rintro y3 rfl
     replace hy2 := eL hy2
     cases hy2
     exact ⟨rfl, wc⟩
    ·
     rintro y3 rfl
     replace hy2 := eR hy2
     cases hy2
     exact ⟨rfl, wc⟩
   ·
    rintro y2 rfl
    replace p1 := eL p1
    refine Q29 ?_
    cases p1
    exact wc
   ·
    rintro y2 rfl
    replace p1 := eR p1
    cases p1
    intro q; cases q
    exact ⟨rfl, wc⟩
  ·
   refine zG ?_
   cases p1
   intro q; cases q
   exact ⟨rfl, wc⟩
 ·
  rintro y1 rfl
  replace h := eL h
  refine Q2 ?_
  refine Q92 ?_
  refine z6 h (fun h => ?_) (fun h => ?_)
  ·
   refine Q94 ?_
   refine zY1 O33 ?_
   refine q5 yF ?_
   refine q56 zWI ?_
   have ⟨u47, hu47, h⟩ := bE h
   refine yW rfl (zZ1 (k := y1.2) (lq rfl) hE rfl rfl rfl (z5P _ hu47)) ?_
   refine zJ ?_
   exact ⟨rfl, zP1 _ h⟩
  ·
   refine zP ?_
   exact ⟨rfl, zP1 _ h⟩
 ·
  rintro y1 rfl
  replace h := eR h
  exact ⟨rfl, zP1 _ h⟩
theorem zIQ {a0 : List Span} {a1 : List Int} : zF Tryz.prog 94 [(zR eSpan a0), (zR eI a1)] [.fn 112 [.pt [zR eI a1], .pt [zR eSpan a0]]] := by
 refine co Tryz.func94 ?_; intro _ _ _ _
 refine Q88 ?_
 refine q62 ?_
 refine Q47 ?_
 refine yH (zK0 (lq rfl) rfl) ?_
 refine Q1 ?_
 refine zB ?_
 exact zH rfl
theorem zWY {f : FuncId} {caps : List DV} {r : List Range} (hit : zVM Tryz.prog f caps (r.map fun x => [eRange.dv x])) (hr : r.length ≤ LIM) : zF Tryz.prog 123 [.v (.slice none 0 0), .fn f caps] [zR eRange r] := by
 refine co Tryz.func123 ?_; intro _ _ _ _
 refine Q0 ?_
 refine yW rfl (zZ0 (lq rfl) rfl rfl rfl) ?_
 refine Q1 ?_
 refine zQ (zLT (bid := 2) (off := 0) 100 123 eRange.size (lq rfl) (by decide) rfl rfl rfl) ?_
 refine zY9 ?_
 refine kB ?_
 refine zR9 [(2, .ptr 2 0), (4, .d (.v (.slice none 0 0)))] [2] (fun k => [(2, .box 24 [.row 100]), (100, .row 123 eRange.size false (eRange.all (r.take k)))]) rfl hit rfl (fun _ _ _ _ h => h) ?hk ?hT rfl (fun _ => rfl) ?hbx (fun _ _ => rfl) ?hl ?hpn ?rd ?hK
 case hk => exact ⟨rfl, rfl, trivial⟩
 case hT => exact ⟨rfl, rfl, trivial⟩
 case hbx => intro k id hi; simp at hi; subst hi; exact fun (h : Blk.box _ _ = Blk.none) => by cases h
 case hl => intro x hx; obtain ⟨y, _, rfl⟩ := List.mem_map.1 hx; rfl
 case hpn => intro p hp; simp at hp; subst hp; exact (lq rfl)
 case rd =>
  intro w1 Iall X C0 ρ0 defs l1 D lp1 lp2 hok k x hx
  rw [List.getElem?_map] at hx
  obtain ⟨v, hv, rfl⟩ := Option.map_eq_some_iff.1 hx
  have hlt := (List.getElem?_eq_some_iff.1 hv).1
  have happ : app (r.take k) [v] = some (r.take (k + 1)) := by
   unfold app
   rw [if_pos (by simp; omega), List.take_add_one, hv]
   rfl
  refine zBC <| zYZ ?_
  refine zZB ?_
  refine kB <| zBC <| q40 O24 ?_
  refine yH ((zBB (lq rfl) zBP rfl rfl rfl rfl).data rfl) ?_
  refine q38 S24 ?_
  refine yW rfl (k7 (en := eRange) (l := r.take k) (m := [v]) (lq rfl) S24 rfl rfl rfl happ (by decide) (by decide) rfl rfl) ?_
  refine z6A O24 ?_
  refine zJ ?_
  exact ⟨rfl, rfl, trivial⟩
 case hK =>
  rw [List.length_map, List.take_length]
  refine Q0 ?_
  refine q40 O24 ?_
  refine Q17 ?_
  refine zB ?_
  exact zH rfl
theorem z3C {f : FuncId} {caps : List DV} {r : List Range} (hit : zVM Tryz.prog f caps (r.map fun x => [eRange.dv x])) (hr : r.length ≤ LIM) : zF Tryz.prog 106 [.fn f caps] [zR eRange r] := by
 refine co Tryz.func106 ?_; intro _ _ _ _
 refine Q57 ?_
 refine q6 (zWY hit hr) ?_
 refine Q1 ?_
 refine zB ?_
 exact zH rfl
theorem zOJ {a0 : List Span} {a1 : List Int} {r : List Range} (h : zCV a0 a1 = some r) : zF Tryz.prog 80 [(zR eSpan a0), (zR eI a1)] [zR eRange r] := by
 unfold zCV at h
 have ⟨t6, ht6, h'⟩ := bE h; clear h
 have ⟨t8, ht8, h⟩ := bE h'; clear h'
 unfold yC9 at h
 split at h
 case isFalse => cases h
 rename_i hlen
 cases h
 refine co Tryz.func80 ?_; intro _ _ _ _
 refine Q57 ?_
 refine q6 (zG1 ht6) ?_
 refine q0 ?_
 refine q6 zIQ ?_
 refine q6 (z3C (zG2 ht8) hlen) ?_
 refine Q1 ?_
 refine zB ?_
 exact zH rfl
theorem zP9 {a0 r} (h : zFH a0 = some r) : zF Tryz.prog 108 [(di a0)] [(eA3Int.dv r)] := by
 refine co Tryz.func108 ?_; intro _ _ _ _
 unfold zFH at h
 refine Q0 ?_
 refine z2S ?_
 refine zJ <| Q4 ?_
 have ⟨t6, ht6, h⟩ := bE h
 refine q6 (zG9 ht6) ?_
 refine Q6 ?_
 refine z6 h (fun h => ?_) (fun h => ?_)
 ·
  refine Q0 ?_
  refine z52 zM7 ?_
  refine q17 zWK ?_
  refine zJ ?_
  cases h
  refine zB ?_
  exact vT rfl rfl zWK rfl
 ·
  refine zP <| Q2 ?_
  refine q31 ?_
  refine Q22 ?_
  have ⟨t12, ht12, h⟩ := bE h
  refine zY2 ht12 ?_
  have ⟨t13, ht13, h⟩ := bE h
  refine zY2 ht13 ?_
  refine q2 ?_
  refine q0 ?_
  have ⟨t16, ht16, h⟩ := bE h
  refine zY2 ht16 ?_
  have ⟨t17, ht17, h⟩ := bE h
  refine q86 ht17 ?_
  refine q2 ?_
  refine z52 zM7 ?_
  refine z2S ?_
  refine q17 zWK ?_
  refine zJ <| Q4 ?_
  have ⟨t21, ht21, h⟩ := bE h
  refine q86 ht21 ?_
  refine Q60 ?_
  have ⟨y1, hy1, h⟩ := bE h
  refine tl .normal ⟨[(2, .ptr 2 0), (4, .ptr 4 0)], [(2, .box 132 [.d (di 0), .d (di 0), .d (di 0)]), (4, .box 132 [.d (di (({ x0 := wi (4352 + t13), x1 := wi (4449 + t17), x2 := 0 } : A3Int).x0)), .d (di (({ x0 := wi (4352 + t13), x1 := wi (4449 + t17), x2 := 0 } : A3Int).x1)), .d (di y1)])]⟩ ?_ ?_
  ·
   refine z6 hy1 (fun hy1 => ?_) (fun hy1 => ?_)
   ·
    refine Q7 ?_
    have ⟨t24, ht24, hy1⟩ := bE hy1
    refine q86 ht24 ?_
    refine q2 ?_
    refine q31 ?_
    refine yH (zOB (k := 2) (lq rfl) zM7 rfl rfl (by decide)) ?_
    refine zYY O3 ?_
    refine zJ ?_
    cases hy1
    exact zI (wc)
   ·
    refine zP ?_
    cases hy1
    exact zI (wc)
  ·
   refine Q0 ?_
   refine yH ((zBB (lq rfl) zWK rfl rfl rfl rfl).data rfl) ?_
   refine q17 zWK ?_
   refine zJ ?_
   cases h
   refine zB ?_
   exact vT rfl rfl zWK rfl
theorem zK9 {a0 r} (h : zAR a0 = some r) : zF Tryz.prog 84 [(di a0)] [(zR eI r)] := by
 refine co Tryz.func84 ?_; intro _ _ _ _
 unfold zAR at h
 refine Q57 ?_
 have ⟨t5, ht5, h⟩ := bE h
 refine q6 (zP9 ht5) ?_
 refine z2S ?_
 refine q17 zWK ?_
 refine zJ ?_
 refine zQ (zW (t := 3) (lq rfl) rfl rfl rfl) ?_
 refine kP <| zY8 ?_
 refine q20 zWK ?_
 refine z52 zM7 ?_
 refine yH (z8W (en := eA3Int) (a := t5) (b := ({ x0 := 0, x1 := 0, x2 := 0 } : A3Int)) (lq rfl) yG2 rfl rfl) ?_
 refine Q1 ?_
 refine z6 h (fun h => ?_) (fun h => ?_)
 ·
  refine Q2 ?_
  refine q38 yF ?_
  refine Q1 ?_
  cases h
  refine zB ?_
  exact zH rfl
 ·
  refine Q0 ?_
  refine z2U zM7 ?_
  refine q8 O3 ?_
  refine zZF ?_
  refine z6 h (fun h => ?_) (fun h => ?_)
  ·
   refine Q0 ?_
   refine z2U zM7 ?_
   refine q8 O3 ?_
   refine z2U zM7 ?_
   refine q8 O3 ?_
   refine q38 yF ?_
   refine Q1 ?_
   cases h
   refine zB ?_
   exact zH rfl
  ·
   refine Q48 ?_
   refine z2U zM7 ?_
   refine q8 O3 ?_
   refine z2U zM7 ?_
   refine q8 O3 ?_
   refine z2U zM7 ?_
   refine q8 O3 ?_
   refine q38 yF ?_
   refine Q1 ?_
   cases h
   refine zB ?_
   exact zH rfl
theorem vJ {fv2 : DV} {a0 : (List Mapping)} {a1 : Int} {a2 : Mapping → Int → Option (Int)} (hf2 : ∀ x0 x1 y, a2 x0 x1 = some y → FnC Tryz.prog fv2 [(eMapping.dv x0), (di x1)] [(di y)]) {r : Int × Bool} (h : yA a0 a1 a2 = some r) : zF Tryz.prog 85 [(zR eMapping a0), (di a1), fv2] [(di r.1), (db r.2)] := by
 refine co Tryz.func85 ?_; intro _ _ _ _
 unfold yA at h
 refine Q0 ?_
 refine Q87 ?_
 refine q5 S23 ?_
 refine Q22 ?_
 refine q1 ?_
 refine Q69 ?_
 have ⟨y1, hy1, h⟩ := bE h
 refine tl (.exit 0) ⟨[(0, .d (zR eMapping a0)), (1, .d (di a1)), (2, .d fv2), (8, .d (di (a0.length : Int))), (9, .d (di y1))], []⟩ ?_ ?_
 ·
  refine zD (fun x => ⟨[(0, .d (zR eMapping a0)), (1, .d (di a1)), (2, .d fv2), (8, .d (di (a0.length : Int))), (9, .d (di x.1)), (10, .d (di x.2))], []⟩) hy1 (wc) ?_
  rintro ⟨v9, v10⟩ sy1 p1
  replace p1 : zU a0 a2 a1 v9 v10 = some sy1 := p1
  unfold zU at p1
  refine Q67 ?_
  refine z6 p1 (fun p1 => ?_) (fun p1 => ?_)
  ·
   refine zP ?_
   have ⟨y2, hy2, p1⟩ := bE p1
   refine tl .normal ⟨[(0, .d (zR eMapping a0)), (1, .d (di a1)), (2, .d fv2), (8, .d (di (a0.length : Int))), (9, .d (di y2.1)), (10, .d (di y2.2))], []⟩ ?_ ?_
   ·
    refine Q74 ?_
    refine zZG ?_
    refine Q1 ?_
    refine Q13 ?_
    refine q0 ?_
    have ⟨t27, ht27, hy2⟩ := bE hy2
    refine q13 S23 ht27 ?_
    refine q85 zJI ht27 ?_
    refine q0 ?_
    have ⟨t30, ht30, hy2⟩ := bE hy2
    refine yH (zEJ (lq rfl) rfl rfl (hf2 _ _ _ ht30)) ?_
    refine Q6 ?_
    refine z6 hy2 (fun hy2 => ?_) (fun hy2 => ?_)
    ·
     refine Q11 ?_
     cases hy2
     exact zI (wc)
    ·
     refine Q77 ?_
     cases hy2
     exact zI (wc)
   ·
    cases p1
    exact wc
  ·
   refine zG ?_
   cases p1
   intro q; cases q
   exact zI (wc)
 ·
  refine Q13 ?_
  refine q0 ?_
  refine q3 ?_
  have ⟨b39, hb39, h⟩ := bE h
  refine yH ((zC (lq rfl) rfl).bool (oi hb39)) ?_
  refine q12 (.d fv2) ?_
  refine q12 (.d (zR eMapping a0)) ?_
  refine q12 (.d (di y1)) ?_
  have ⟨t43, ht43, h⟩ := bE h
  refine sqt (.ip (eMapping.all a0) (y1.toNat * eMapping.size)) rfl (fun hb => by subst hb; exact kJ (en := eMapping) (lq rfl) S23 rfl rfl ht43) ?_
  refine sqt (.d (eMapping.dv t43)) rfl (fun hb => by subst hb; exact xE (en := eMapping) (l := a0) (i := y1) (v := t43) (off := 0) (lq rfl) zJI rfl ht43 rfl rfl (by decide)) ?_
  refine q12 (.d (di a1)) ?_
  have ⟨t46, ht46, h⟩ := bE h
  refine sqt (.d (di t46)) rfl (fun hb => by subst hb; exact zEJ (lq rfl) rfl rfl (hf2 _ _ _ ht46)) ?_
  refine zYX (.d (db (decide (t46 = 0)))) ?_
  refine q14 ?_
  refine Q34 ?_
  cases h
  refine zB ?_
  exact zEI rfl rfl
theorem zLA {a0 a1 r} (h : wH a0 a1 = some r) : zF Tryz.prog 86 [(eMapping.dv a0), (di a1)] [(di r)] := by
 refine co Tryz.func86 ?_; intro _ _ _ _
 unfold wH at h
 refine Q39 ?_
 refine Q47 ?_
 refine Q93 ?_
 refine q0 ?_
 have ⟨t8, ht8, h⟩ := bE h
 refine q6 (xS ht8) ?_
 refine Q1 ?_
 cases h
 refine zB ?_
 exact zH rfl
theorem zHP {a0 a1 a2 r} (h : wW a0 a1 a2 = some r) : zF Tryz.prog 60 [(eNorm.dv a0), (di a1), (db a2)] [(zR eI r.1), (db r.2)] := by
 refine co Tryz.func60 ?_; intro _ _ _ _
 unfold wW at h
 refine Q39 ?_
 refine Q34 ?_
 refine Q4 ?_
 have ⟨t11, ht11, h⟩ := bE h
 refine q6 (zG9 ht11) ?_
 refine Q92 ?_
 refine z6 h (fun h => ?_) (fun h => ?_)
 ·
  refine Q2 ?_
  have ⟨t14, ht14, h⟩ := bE h
  refine q6 (zK9 ht14) ?_
  refine Q34 ?_
  cases h
  refine zB ?_
  exact zEI rfl rfl
 ·
  refine Q48 ?_
  refine Q95 ?_
  refine q0 ?_
  have ⟨t19, ht19, h⟩ := bE h
  refine q6 (vJ (fun _ _ _ q => .inr ⟨_, rfl, zLA q⟩) ht19) ?_
  refine Q55 ?_
  refine Q34 ?_
  refine Q4 ?_
  refine q28 ?_
  have ⟨b24, hb24, h⟩ := bE h
  refine yH ((zC (lq rfl) rfl).bool (oi hb24)) ?_
  refine q29 (.ip (eNorm.cells a0) (0 + 1)) zP2 ?_
  refine q30 (.d (zR eMapping a0.Decomp)) O23 ?_
  refine q39 (.d (di t19.1)) ?_
  have ⟨t28, ht28, h⟩ := bE h
  refine sqf (.ip (eMapping.all a0.Decomp) (t19.1.toNat * eMapping.size)) rfl (fun hb => by subst hb; exact kJ (en := eMapping) (lq rfl) S23 rfl rfl ht28) ?_
  refine z9I (.ip (eMapping.all a0.Decomp) (t19.1.toNat * eMapping.size + 2)) zA7 ?_
  refine sqf (.d (ds t28.Tag)) rfl (fun hb => by subst hb; exact z0 (en := eMapping) (l := a0.Decomp) (i := t19.1) (v := t28) (off := 2) (lq rfl) O9 rfl ht28 rfl) ?_
  refine sqf (.d (db (!(t28.Tag == [])))) rfl (fun hb => by subst hb; exact zYF (a := t28.Tag) (b := []) (lq rfl) rfl rfl) ?_
  have ⟨b32, hb32, h⟩ := bE h
  refine sqf (.d (db b32)) rfl (fun hb => by subst hb; exact (zC (lq rfl) rfl).bool (oi hb32)) ?_
  refine jW (x := .d (db a2)) rfl rfl rfl (lq rfl) (lq rfl) rfl (fun hb => by obtain ⟨hb, hb1⟩ := zM hb; obtain rfl := gF hb; obtain rfl : b32 = true := hb1; exact zC (lq rfl) rfl) ?_
  refine jW (x := .d (db (!a2))) rfl rfl rfl (lq rfl) (lq rfl) rfl (fun hb => by obtain ⟨hb, hb1⟩ := zM hb; obtain rfl := gF hb; obtain rfl : b32 = true := hb1; exact zR1 (lq rfl) rfl) ?_
  refine q81 (.d (db (b32 && (!a2)))) ?_
  refine Q50 ?_
  refine z6 h (fun h => ?_) (fun h => ?_)
  ·
   refine Q0 ?_
   refine Q34 ?_
   refine zQ (zC5 (t := 6) eI.size (lq rfl) rfl) ?_
   cases h
   refine zB ?_
   exact zEI rfl rfl
  ·
   refine Q48 ?_
   refine Q95 ?_
   refine q0 ?_
   have ⟨t40, ht40, h⟩ := bE h
   refine q13 S23 ht40 ?_
   refine q44 zCE ?_
   refine q84 O33 ht40 ?_
   refine Q34 ?_
   cases h
   refine zB ?_
   exact zEI rfl rfl
theorem zIV : ∀ (n : Nat) {a0 : Int} {a1 : Norm} {a2 : (List (Int × Int))} {a3 : Bool} {a5 : Bool} {r : Int × Bool × Bool × (List (Int × Int))}, z4 n a0 a1 a2 a3 a5 = some r → GC Tryz.prog 107 [.d (di a0), .d (.pt (eNorm.cells a1)), .ptr 3002 0, .ptr 3003 0, .ptr 3004 0, .ptr 3005 0] [(3002, .box 140 [.row 3140]), (3003, .box 4 [.d (db a3)]), (3004, .box 94 [.clo 107 [.d (.pt (eNorm.cells a1)), .ptr 3002 0, .ptr 3003 0, .ptr 3004 0, .ptr 3005 0]]), (3005, .box 4 [.d (db a5)]), (3140, .map (wU kI eI a2))] [3002, 3003, 3004, 3005, 3140] [.d (di r.1)] [(3002, .box 140 [.row 3140]), (3003, .box 4 [.d (db r.2.1)]), (3004, .box 94 [.clo 107 [.d (.pt (eNorm.cells a1)), .ptr 3002 0, .ptr 3003 0, .ptr 3004 0, .ptr 3005 0]]), (3005, .box 4 [.d (db r.2.2.1)]), (3140, .map (wU kI eI r.2.2.2))] := by
 intro n
 induction n with
 | zero => intro a0 a1 a2 a3 a5 r h; cases h
 | succ n ih =>
 intro a0 a1 a2 a3 a5 r h
 replace h : kU (z4 n) a0 a1 a2 a3 a5 = some r := h
 generalize z4 n = rec at h ih
 refine zCN Tryz.func107 (by kernel_rfl) rfl (lq rfl) (lq rfl) fun w0 I0 hG0 p0 => ?_
 unfold kU at h
 refine Q3 ?_
 refine Q0 ?_
 refine q20 G28 ?_
 refine q0 ?_
 have ⟨t18, ht18, h⟩ := bE h
 refine q6 (zHP ht18) ?_
 refine Q55 ?_
 refine Q34 ?_
 refine Q4 ?_
 refine q28 ?_
 have ⟨b23, hb23, h⟩ := bE h
 refine yH ((zC (lq rfl) rfl).bool (oi hb23)) ?_
 refine q39 (.d (zR eI t18.1)) ?_
 refine q88 (.d (di (t18.1.length : Int))) yF ?_
 refine q99 (.d (db (decide ((t18.1.length : Int) = 0)))) ?_
 refine Q50 ?_
 refine z6 h (fun h => ?_) (fun h => ?_)
 ·
  refine Q3 ?_
  cases h
  refine zB ?_
  exact ⟨⟨_, _, rfl, rfl, rfl⟩, ⟨rfl, rfl, rfl, rfl, rfl, trivial⟩⟩
 ·
  refine Q79 ?_
  refine q40 z9A ?_
  refine q0 ?_
  refine yH (zSH (kv := kI) (ev := eI) (mp := a2) (k := a0) (zero := 0) (lq rfl) yDB K3 rfl rfl rfl (fun _ _ => .v _)) ?_
  refine z6J ?_
  refine zJ ?_
  refine z6 h (fun h => ?_) (fun h => ?_)
  ·
   refine Q0 ?_
   refine q40 O4 ?_
   have ⟨b36, hb36, h⟩ := bE h
   refine yH ((zC (lq rfl) rfl).bool (oi hb36)) ?_
   refine q39 (.d (di (uQ a2 a0 0))) ?_
   refine q99 (.d (db (decide ((uQ a2 a0 0) = (-1))))) ?_
   refine q19 ?_
   refine zYY O4 ?_
   refine zJ <| Q2 ?_
   refine z9U ?_
   refine Q1 ?_
   cases h
   refine zB ?_
   exact ⟨⟨_, _, rfl, rfl, rfl⟩, ⟨rfl, rfl, rfl, rfl, rfl, trivial⟩⟩
  ·
   refine Q48 ?_
   refine q40 z9A ?_
   refine q0 ?_
   refine z9N yDB K3 ?_
   refine zJ <| Q44 ?_
   refine Q99 ?_
   have ⟨y1, hy1, h⟩ := bE h
   refine tl (.exit 0) ⟨[(0, .d (di a0)), (2, .ptr 3002 0), (3, .ptr 3003 0), (4, .ptr 3004 0), (5, .ptr 3005 0), (12, .d (di y1.1))], [(3002, .box 140 [.row 3140]), (3003, .box 4 [.d (db y1.2.1)]), (3004, .box 94 [.clo 107 [.d (.pt (eNorm.cells a1)), .ptr 3002 0, .ptr 3003 0, .ptr 3004 0, .ptr 3005 0]]), (3005, .box 4 [.d (db y1.2.2.1)]), (3140, .map (wU kI eI y1.2.2.2))]⟩ ?_ ?_
   ·
    refine zD (fun x => ⟨[(0, .d (di a0)), (2, .ptr 3002 0), (3, .ptr 3003 0), (4, .ptr 3004 0), (5, .ptr 3005 0), (12, .d (di x.1)), (44, .d (zR eI t18.1)), (45, .d (di (t18.1.length : Int))), (46, .d (di x.2.1))], [(3002, .box 140 [.row 3140]), (3003, .box 4 [.d (db x.2.2.1)]), (3004, .box 94 [.clo 107 [.d (.pt (eNorm.cells a1)), .ptr 3002 0, .ptr 3003 0, .ptr 3004 0, .ptr 3005 0]]), (3005, .box 4 [.d (db x.2.2.2.1)]), (3140, .map (wU kI eI x.2.2.2.2))]⟩) hy1 (wc) ?_
    rintro ⟨v12, v46, k3003_0, k3005_0, r3140⟩ sy1 p1
    replace p1 : k4 t18 rec a1 v12 v46 k3003_0 k3005_0 r3140 = some sy1 := p1
    unfold k4 at p1
    refine Q27 ?_
    refine z6 p1 (fun p1 => ?_) (fun p1 => ?_)
    ·
     refine Q30 ?_
     have ⟨t48, ht48, p1⟩ := bE p1
     refine q13 yF ht48 ?_
     refine q35 O3 ht48 ?_
     refine Q1 ?_
     refine Q7 ?_
     refine q40 O94 ?_
     refine q0 ?_
     have ⟨t53, ht53, p1⟩ := bE p1
     refine yW rfl (zWE [(3002, 3002), (3003, 3003), (3004, 3004), (3005, 3005), (3140, 3140)] (ih ht53) (lq rfl) (by decide) rfl ⟨rfl, rfl, rfl, rfl, rfl, rfl, trivial⟩ rfl rfl ⟨rfl, rfl, rfl, rfl, rfl, trivial⟩ rfl rfl rfl rfl) ?_
     refine q2 ?_
     refine z53 ?_
     refine Q1 ?_
     refine Q29 ?_
     cases p1
     exact wc
    ·
     refine zG ?_
     cases p1
     intro q; cases q
     exact zI (wc)
   ·
    refine Q0 ?_
    refine q40 z9A ?_
    refine Q65 ?_
    refine z9N yDB K3 ?_
    refine Q64 ?_
    refine q40 O4 ?_
    have ⟨b61, hb61, h⟩ := bE h
    refine yH ((zC (lq rfl) rfl).bool (oi hb61)) ?_
    refine q39 (.d (di y1.1)) ?_
    refine q58 (.d (db (decide (64 < y1.1)))) ?_
    refine q19 ?_
    refine zYY O4 ?_
    refine zJ <| Q35 ?_
    cases h
    refine zB ?_
    exact ⟨⟨_, _, rfl, rfl, rfl⟩, ⟨rfl, rfl, rfl, rfl, rfl, trivial⟩⟩
set_option maxHeartbeats 8000000 in
theorem zKK {a0 r} (h : decompose_measure a0 = some r) : zF Tryz.prog 81 [(eNorm.dv a0)] [(db r.1), (db r.2)] := by
 refine co Tryz.func81 ?_; intro _ _ _ _
 unfold decompose_measure at h
 refine Q39 ?_
 refine yW rfl (kO (zs := [(.bool false)]) (lq rfl) (by kernel_rfl) rfl rfl) ?_
 refine yW rfl (kO (zs := [(.bool false)]) (lq rfl) (by kernel_rfl) rfl rfl) ?_
 refine Q64 ?_
 refine z51 ?_
 refine yW rfl (kO (zs := [(.map none)]) (lq rfl) (by kernel_rfl) rfl rfl) ?_
 refine z6A z9A ?_
 refine Q64 ?_
 refine yW rfl (kO (zs := [.nilFunc]) (lq rfl) (by kernel_rfl) rfl rfl) ?_
 refine Q64 ?_
 refine yH (zSO (cs := [.d (.pt (eNorm.cells a0)), .ptr 4 0, .ptr 2 0, .ptr 5 0, .ptr 3 0]) (lq rfl) ⟨_, _, rfl, rfl, ⟨_, _, rfl, rfl, ⟨_, _, rfl, rfl, ⟨_, _, rfl, rfl, ⟨_, _, rfl, rfl, rfl⟩⟩⟩⟩⟩) ?_
 refine yW rfl (zJF O94 rfl rfl (lq rfl) rfl rfl rfl rfl) ?_
 refine zJ <| Q32 ?_
 refine Q95 ?_
 refine zZC ?_
 have ⟨y1, hy1, h⟩ := bE h
 refine tl (.exit 0) ⟨[(2, .ptr 2 0), (3, .ptr 3 0)], [(2, .box 4 [.d (db y1.1)]), (3, .box 4 [.d (db y1.2)])]⟩ ?_ ?_
 ·
  refine zD (fun x => ⟨[(2, .ptr 2 0), (3, .ptr 3 0), (5, .ptr 5 0), (11, .d (zR eMapping a0.Decomp)), (12, .d (di (a0.Decomp.length : Int))), (13, .d (di x.1))], [(2, .box 4 [.d (db x.2.1)]), (3, .box 4 [.d (db x.2.2.1)]), (4, .box 140 [.row 8]), (5, .box 94 [.clo 107 [.d (.pt (eNorm.cells a0)), .ptr 4 0, .ptr 2 0, .ptr 5 0, .ptr 3 0]]), (8, .map (wU kI eI x.2.2.2))]⟩) hy1 (wc) ?_
  rintro ⟨v13, k2_0, k3_0, r8⟩ sy1 p1
  replace p1 : kC a0 v13 k2_0 k3_0 r8 = some sy1 := p1
  unfold kC at p1
  refine Q27 ?_
  refine z6 p1 (fun p1 => ?_) (fun p1 => ?_)
  ·
   refine Q30 ?_
   have ⟨t15, ht15, p1⟩ := bE p1
   refine q13 S23 ht15 ?_
   refine q85 zJI ht15 ?_
   refine zZD ?_
   refine zQ (zW (t := 7) (lq rfl) rfl rfl rfl) ?_
   refine zBC <| q40 O94 ?_
   refine Q93 ?_
   have ⟨t20, ht20, p1⟩ := bE p1
   refine yW rfl (z0A [(3002, 4), (3003, 2), (3004, 5), (3005, 3), (3140, 8)] (zIV _ ht20) (lq rfl) (by decide) rfl ⟨rfl, rfl, rfl, rfl, rfl, rfl, trivial⟩ rfl rfl ⟨rfl, rfl, rfl, rfl, rfl, trivial⟩ rfl rfl rfl (fun _ => rfl) rfl) ?_
   refine zJ <| Q29 ?_
   cases p1
   exact wc
  ·
   refine zG ?_
   cases p1
   intro q; cases q
   exact zI (wc)
 ·
  refine kP ?_
  refine tl .normal ⟨[(2, .ptr 2 0), (3, .ptr 3 0)], [(2, .box 4 [.d (db y1.1)]), (3, .box 4 [.d (db y1.2)])]⟩ ?_ ?_
  ·
   refine zCZ MX ?_
   refine xn [0,1] ?_
   refine xa rfl (zC4 (lq rfl) O4 rfl rfl rfl) ?_ ?_
   ·
    refine xn [1,2] ?_
    refine xa rfl (zC4 (lq rfl) O4 rfl rfl rfl) ?_ ?_
    ·
     refine xn [2] ?_
     refine z2V O4 ?_
     refine xn [3] ?_
     refine z2V O4 ?_
     exact ae
    refine z2V O4 ?_
    refine xn [1] ?_
    refine xc rfl (zC4 (lq rfl) O4 rfl rfl rfl) ?_
    refine xn [3] ?_
    refine z2V O4 ?_
    exact ae
   refine xc rfl (zC4 (lq rfl) O4 rfl rfl rfl) ?_
   refine xn [0] ?_
   refine xc rfl (zC4 (lq rfl) O4 rfl rfl rfl) ?_
   refine xn [2] ?_
   refine z2V O4 ?_
   refine xn [3] ?_
   refine z2V O4 ?_
   exact ae
  cases h
  refine zB ?_
  exact zYT rfl rfl O4 rfl rfl O4
theorem zG3 {a0 r} (h : uV a0 = some r) : zF Tryz.prog 55 [(eNorm.dv a0)] [(di r)] := by
 refine co Tryz.func55 ?_; intro _ _ _ _
 unfold uV at h
 refine Q39 ?_
 refine Q59 ?_
 refine q7 uM ?_
 refine q8 O22 ?_
 have ⟨t15, ht15, h⟩ := bE h
 refine q6 (zHO ht15) ?_
 refine Q72 ?_
 refine z6 h (fun h => ?_) (fun h => ?_)
 ·
  refine Q35 ?_
  cases h
  refine zB ?_
  exact zH rfl
 ·
  refine Q79 ?_
  refine Q95 ?_
  have ⟨t21, ht21, h⟩ := bE h
  refine q6 (zOH ht21) ?_
  refine Q72 ?_
  refine z6 h (fun h => ?_) (fun h => ?_)
  ·
   refine Q35 ?_
   cases h
   refine zB ?_
   exact zH rfl
  ·
   refine Q79 ?_
   refine q7 z5T ?_
   refine q89 G26 ?_
   have ⟨t27, ht27, h⟩ := bE h
   refine q6 (zRC ht27) ?_
   refine Q38 ?_
   refine z6 h (fun h => ?_) (fun h => ?_)
   ·
    refine Q3 ?_
    cases h
    refine zB ?_
    exact zH rfl
   ·
    refine Q98 ?_
    have ⟨y1, hy1, h⟩ := bE h
    refine zN y1 (.exit 0) (fun y1 => ⟨[(1, .d (.pt (eNorm.cells a0)))], []⟩) .ret (fun y1 => ⟨[(2, .d (di y1))], []⟩) ?_ ?_ ?_
    ·
     refine zD (fun x => ⟨[(1, .d (.pt (eNorm.cells a0))), (5, .d (di x))], []⟩) hy1 (wc) ?_
     rintro v5 sy1 p1
     replace p1 : wI a0 v5 = some sy1 := p1
     unfold wI at p1
     refine Q4 ?_
     refine Q95 ?_
     refine q5 S23 ?_
     refine Q6 ?_
     refine z6 p1 (fun p1 => ?_) (fun p1 => ?_)
     ·
      refine Q61 ?_
      refine z2 MX rfl ?_
      refine q23 zP2 ?_
      refine q27 O23 ?_
      refine q4 ?_
      have ⟨t39, ht39, p1⟩ := bE p1
      refine q21 S23 ht39 ?_
      refine q45 zED ?_
      refine z6B O3 ht39 ?_
      refine q23 zP2 ?_
      refine q27 O23 ?_
      refine q4 ?_
      refine q92 ?_
      have ⟨t46, ht46, p1⟩ := bE p1
      refine q21 S23 ht46 ?_
      refine q45 zED ?_
      refine z6B O3 ht46 ?_
      refine w8 (zIH (lq rfl) rfl rfl) ?_
      refine wB ?_
      refine z6 p1 (fun p1 => ?_) (fun p1 => ?_)
      ·
       refine Q16 ?_
       cases p1
       intro q; cases q
       exact ⟨rfl, wc⟩
      ·
       refine Q24 ?_
       cases p1
       exact wc
     ·
      refine zG ?_
      cases p1
      intro q; cases q
      exact ⟨rfl, wc⟩
    ·
     rintro y1 rfl
     replace h := eL h
     refine Q32 ?_
     refine Q95 ?_
     refine zZC ?_
     have ⟨y2, hy2, h⟩ := bE h
     refine zN y2 (.exit 2) (fun y2 => ⟨[(1, .d (.pt (eNorm.cells a0)))], []⟩) .ret (fun y2 => ⟨[(2, .d (di y2))], []⟩) ?_ ?_ ?_
     ·
      refine zD (fun x => ⟨[(1, .d (.pt (eNorm.cells a0))), (51, .d (zR eMapping a0.Decomp)), (52, .d (di (a0.Decomp.length : Int))), (53, .d (di x))], []⟩) hy2 (wc) ?_
      rintro v53 sy2 p2
      replace p2 : wJ a0 v53 = some sy2 := p2
      unfold wJ at p2
      refine Q27 ?_
      refine z6 p2 (fun p2 => ?_) (fun p2 => ?_)
      ·
       refine Q30 ?_
       have ⟨t55, ht55, p2⟩ := bE p2
       refine q13 S23 ht55 ?_
       refine q85 zJI ht55 ?_
       refine zZD ?_
       refine zQ (zW (t := 7) (lq rfl) rfl rfl rfl) ?_
       refine Q0 ?_
       refine q7 zA7 ?_
       refine q8 O9 ?_
       refine yH (zK3 (a := t55.Tag) (b := []) (lq rfl) rfl rfl) ?_
       have ⟨b60, hb60, p2⟩ := bE p2
       refine yH ((zC (lq rfl) rfl).bool (oi hb60)) ?_
       refine q59 (.ip (eMapping.cells t55) (0 + 1)) zCE ?_
       refine q63 (.d (zR eI t55.To)) O33 ?_
       refine z2O (.d (di (t55.To.length : Int))) yF ?_
       refine z57 (.d (db (!decide ((t55.To.length : Int) = 1)))) ?_
       refine q14 ?_
       have ⟨b66, hb66, p2⟩ := bE p2
       refine yH ((zC (lq rfl) rfl).bool (oi hb66)) ?_
       refine q59 (.ip (eMapping.cells t55) (0 + 1)) zCE ?_
       refine q63 (.d (zR eI t55.To)) O33 ?_
       refine z2O (.d (di (t55.To.length : Int))) yF ?_
       refine z57 (.d (db (!decide ((t55.To.length : Int) = 2)))) ?_
       refine Q37 ?_
       refine z6 p2 (fun p2 => ?_) (fun p2 => ?_)
       ·
        refine Q16 ?_
        cases p2
        intro q; cases q
        exact ⟨rfl, wc⟩
       ·
        refine Q53 ?_
        cases p2
        exact wc
      ·
       refine zG ?_
       cases p2
       intro q; cases q
       exact ⟨rfl, wc⟩
     ·
      rintro y2 rfl
      replace h := eL h
      refine Q3 ?_
      refine zQ (uD (t := 8) 1008 3 eI.size (lq rfl) (lq rfl) rfl rfl) ?_
      refine Q32 ?_
      refine Q95 ?_
      refine zZC ?_
      have ⟨y3, hy3, h⟩ := bE h
      refine zN y3 (.exit 4) (fun y3 => ⟨[(1, .d (.pt (eNorm.cells a0))), (8, .row 1008)], [(1008, .row 3 eI.size false (eI.all y3))]⟩) .ret (fun y3 => ⟨[(2, .d (di y3))], []⟩) ?_ ?_ ?_
      ·
       refine zD (fun x => ⟨[(1, .d (.pt (eNorm.cells a0))), (8, .row 1008), (74, .d (zR eMapping a0.Decomp)), (75, .d (di (a0.Decomp.length : Int))), (76, .d (di x.1))], [(1008, .row 3 eI.size false (eI.all x.2))]⟩) hy3 (wc) ?_
       rintro ⟨v76, r1008⟩ sy3 p3
       replace p3 : yK a0 v76 r1008 = some sy3 := p3
       unfold yK at p3
       refine Q27 ?_
       refine z6 p3 (fun p3 => ?_) (fun p3 => ?_)
       ·
        refine Q5 ?_
        have ⟨y4, hy4, p3⟩ := bE p3
        refine zN y4 .normal (fun y4 => ⟨[(1, .d (.pt (eNorm.cells a0))), (8, .row 1008), (74, .d (zR eMapping a0.Decomp)), (75, .d (di (a0.Decomp.length : Int))), (76, .d (di v76))], [(1008, .row 3 eI.size false (eI.all y4))]⟩) .ret (fun y4 => ⟨[(2, .d (di 11))], []⟩) ?_ ?_ ?_
        ·
         refine zY8 ?_
         have ⟨t78, ht78, hy4⟩ := bE hy4
         refine q13 S23 ht78 ?_
         refine q85 zJI ht78 ?_
         refine zZD ?_
         refine zQ (zW (t := 10) (lq rfl) rfl rfl rfl) ?_
         refine Q32 ?_
         refine Q93 ?_
         have ⟨t82, ht82, hy4⟩ := bE hy4
         refine q6 (zG9 ht82) ?_
         refine Q40 ?_
         refine z6 hy4 (fun hy4 => ?_) (fun hy4 => ?_)
         ·
          refine Q16 ?_
          cases hy4
          exact ⟨rfl, wc⟩
         ·
          refine Q48 ?_
          refine q7 zA7 ?_
          refine q8 O9 ?_
          refine z2P ?_
          refine zJ ?_
          refine z6 hy4 (fun hy4 => ?_) (fun hy4 => ?_)
          ·
           refine Q84 ?_
           refine Q93 ?_
           refine q38 yF ?_
           have ⟨r1008_5, hr1008_5, hy4⟩ := bE hy4
           refine yW rfl (k7 (en := eI) (l := r1008) (m := [t78.From]) (lq rfl) yF rfl rfl rfl hr1008_5 (by decide) (by decide) rfl rfl) ?_
           refine Q17 ?_
           cases hy4
           exact ⟨rfl, wc⟩
          ·
           refine zP ?_
           cases hy4
           exact ⟨rfl, wc⟩
        ·
         rintro y4 rfl
         replace p3 := eL p3
         refine Q29 ?_
         cases p3
         exact wc
        ·
         rintro y4 rfl
         replace p3 := eR p3
         cases p3
         intro q; cases q
         exact ⟨rfl, wc⟩
       ·
        refine zG ?_
        cases p3
        intro q; cases q
        exact ⟨rfl, wc⟩
      ·
       rintro y3 rfl
       replace h := eL h
       refine Q32 ?_
       refine q7 uM ?_
       refine q8 O22 ?_
       refine q11 ?_
       have ⟨t96, ht96, h⟩ := bE h
       refine yW rfl (z4S (lq rfl) rfl rfl (zOJ ht96)) ?_
       refine q5 S24 ?_
       refine Q60 ?_
       refine z6 h (fun h => ?_) (fun h => ?_)
       ·
        refine Q3 ?_
        cases h
        refine zB ?_
        exact zH rfl
       ·
        refine Q48 ?_
        refine q20 G28 ?_
        have ⟨t101, ht101, h⟩ := bE h
        refine q6 (zKK ht101) ?_
        refine Q55 ?_
        refine q1 ?_
        refine Q69 ?_
        refine Q35 ?_
        refine z6 h (fun h => ?_) (fun h => ?_)
        ·
         refine Q3 ?_
         cases h
         refine zB ?_
         exact zH rfl
        ·
         refine Q35 ?_
         refine z6 h (fun h => ?_) (fun h => ?_)
         ·
          refine Q3 ?_
          cases h
          refine zB ?_
          exact zH rfl
         ·
          refine Q58 ?_
          cases h
          refine zB ?_
          exact zH rfl
      ·
       rintro y3 rfl
       replace h := eR h
       cases h
       exact zH rfl
     ·
      rintro y2 rfl
      replace h := eR h
      cases h
      exact zH rfl
    ·
     rintro y1 rfl
     replace h := eR h
     cases h
     exact zH rfl
theorem kQ  {a0} {a1}  {r : Colltable_table} (h : jU a0 a1 = some r) : GC Tryz.prog 29 [.ptr 3000 0, .d (eNorm.dv a1)] [(3000, .box 90 [.d (zR eEntry a0.c.Entries), .d (zR eGroup a0.c.Groups), .d (di a0.c.Base), .d (di a0.c.Second), .d (di a0.c.Third), .row 3105, .d (di a0.longest), .d (zR eSpan a0.classes), .d (di a0.top)]), (3105, .map (wU zDJ (eL eElement) a0.entries))] [3000, 3105] [.ptr 3000 0] [(3000, .box 90 [.d (zR eEntry r.c.Entries), .d (zR eGroup r.c.Groups), .d (di r.c.Base), .d (di r.c.Second), .d (di r.c.Third), .row 3105, .d (di r.longest), .d (zR eSpan r.classes), .d (di r.top)]), (3105, .map (wU zDJ (eL eElement) r.entries))] := by
 refine zCN Tryz.func29 (by kernel_rfl) rfl (lq rfl) (lq rfl) fun w0 I0 hG0 p0 => ?_
 unfold jU at h
 refine Q39 ?_
 refine Q59 ?_
 refine q20 G28 ?_
 have ⟨t8, ht8, h⟩ := bE h
 refine q6 (zG3 ht8) ?_
 refine Q86 ?_
 have ⟨y1, hy1, h⟩ := bE h
 refine tl .normal ⟨[(0, .ptr 3000 0)], [(3000, .box 90 [.d (zR eEntry a0.c.Entries), .d (zR eGroup a0.c.Groups), .d (di a0.c.Base), .d (di a0.c.Second), .d (di a0.c.Third), .row 3105, .d (di a0.longest), .d (zR eSpan y1), .d (di a0.top)]), (3105, .map (wU zDJ (eL eElement) a0.entries))]⟩ ?_ ?_
 ·
  refine z6 hy1 (fun hy1 => ?_) (fun hy1 => ?_)
  ·
   refine zBC <| z9Q ?_
   refine q7 uM ?_
   refine q8 O22 ?_
   refine yH (zM6 (lq rfl) rfl) ?_
   refine q75 zP4 ?_
   refine zYY O22 ?_
   refine zJ ?_
   cases hy1
   exact zI (wc)
  ·
   refine zP ?_
   cases hy1
   exact zI (wc)
 ·
  refine Q32 ?_
  refine z9Q ?_
  refine yH (zM6 (lq rfl) rfl) ?_
  refine q75 zP4 ?_
  refine q40 O22 ?_
  refine q5 S22 ?_
  refine Q25 ?_
  have ⟨y2, hy2, h⟩ := bE h
  refine tl (.exit 0) ⟨[(0, .ptr 3000 0)], [(3000, .box 90 [.d (zR eEntry a0.c.Entries), .d (zR eGroup a0.c.Groups), .d (di a0.c.Base), .d (di a0.c.Second), .d (di a0.c.Third), .row 3105, .d (di a0.longest), .d (zR eSpan y1), .d (di y2)]), (3105, .map (wU zDJ (eL eElement) a0.entries))]⟩ ?_ ?_
  ·
   refine zD (fun x => ⟨[(0, .ptr 3000 0), (18, .d (zR eSpan y1)), (19, .d (di (y1.length : Int))), (20, .d (di x.1))], [(3000, .box 90 [.d (zR eEntry a0.c.Entries), .d (zR eGroup a0.c.Groups), .d (di a0.c.Base), .d (di a0.c.Second), .d (di a0.c.Third), .row 3105, .d (di a0.longest), .d (zR eSpan y1), .d (di x.2)]), (3105, .map (wU zDJ (eL eElement) a0.entries))]⟩) hy2 (wc) ?_
   rintro ⟨v20, k3000_8⟩ sy2 p2
   replace p2 : jB y1 v20 k3000_8 = some sy2 := p2
   unfold jB at p2
   refine Q27 ?_
   refine z6 p2 (fun p2 => ?_) (fun p2 => ?_)
   ·
    refine Q30 ?_
    have ⟨t22, ht22, p2⟩ := bE p2
    refine q13 S22 ht22 ?_
    refine z9R G61 ht22 ?_
    refine z2S ?_
    refine q17 G61 ?_
    refine zJ ?_
    refine zQ (zW (t := 6) (lq rfl) rfl rfl rfl) ?_
    refine zFU 10 MX rfl ?_
    refine z54 ?_
    refine z54 ?_
    refine z55 ?_
    refine q91 z5V ?_
    refine z9P O3 ?_
    refine q23 zIK ?_
    refine q27 O3 ?_
    refine w8 (zZZ (lq rfl) rfl rfl) ?_
    refine z55 ?_
    refine q91 z5V ?_
    refine wB <| zYY O3 ?_
    refine zJ <| Q29 ?_
    cases p2
    exact wc
   ·
    refine zG ?_
    cases p2
    intro q; cases q
    exact zI (wc)
  ·
   refine Q0 ?_
   refine z9Q ?_
   refine yH (zFD (lq rfl) rfl) ?_
   refine zJ ?_
   cases h
   refine zB ?_
   exact ⟨⟨_, _, rfl, rfl, rfl⟩, ⟨rfl, rfl, trivial⟩⟩
theorem zBG {a0 a1 r} (h : jE a0 a1 = some r) : zF Tryz.prog 44 [(.pt (eColltable_table.cells a0)), (zR eI a1)] [(zR eElement r.1), (db r.2)] := by
 refine co Tryz.func44 ?_; intro _ _ _ _
 unfold jE at h
 refine Q0 ?_
 refine Q34 ?_
 refine Q4 ?_
 refine q5 yF ?_
 refine q50 ?_
 have ⟨b11, hb11, h⟩ := bE h
 refine yH ((zC (lq rfl) rfl).bool (oi hb11)) ?_
 refine q39 (.d (zR eI a1)) ?_
 refine q88 (.d (di (a1.length : Int))) yF ?_
 refine q39 (.d (.pt (eColltable_table.cells a0))) ?_
 refine sqf (.d (.pt (eColltable_table.cells a0))) rfl (fun hb => by subst hb; exact zFY (lq rfl) rfl) ?_
 refine q29 (.ip (eColltable_table.cells a0) (0 + 6)) z0G ?_
 refine q30 (.d (di a0.longest)) O3 ?_
 refine q58 (.d (db (decide (a0.longest < (a1.length : Int))))) ?_
 refine Q50 ?_
 refine z6 h (fun h => ?_) (fun h => ?_)
 ·
  refine Q0 ?_
  refine Q34 ?_
  refine zQ (zC5 (t := 4) eElement.size (lq rfl) rfl) ?_
  cases h
  refine zB ?_
  exact zEI rfl rfl
 ·
  refine Q5 ?_
  refine z2 MX rfl ?_
  refine q4 ?_
  refine z2W ?_
  refine q23 yBW ?_
  refine q27 O88 ?_
  refine q4 ?_
  have ⟨t26, ht26, h⟩ := bE h
  refine q25 (zG0 ht26) ?_
  refine w8 (zYJ (kv := zDJ) (ev := (eL eElement)) (mp := a0.entries) (k := t26) (zero := []) (lq rfl) M88 K92 rfl rfl (z80 rfl) (fun _ _ => .nil _ _ _)) ?_
  refine yDJ ?_
  refine q87 ?_
  refine q87 ?_
  refine q32 ?_
  refine Q49 ?_
  refine Q13 ?_
  refine Q34 ?_
  cases h
  refine zB ?_
  exact zEI rfl rfl
theorem zF7 {a0 a1 r} (h : jM a0 a1 = some r) : zF Tryz.prog 45 [(.pt (eColltable_table.cells a0)), (di a1)] [(zR eElement r)] := by
 refine co Tryz.func45 ?_; intro _ _ _ _
 unfold jM at h
 refine Q44 ?_
 have ⟨t6, ht6, h⟩ := bE h
 refine q6 (zBZ ht6) ?_
 refine Q38 ?_
 refine z6 h (fun h => ?_) (fun h => ?_)
 ·
  refine Q3 ?_
  refine zQ (zC5 (t := 4) eElement.size (lq rfl) rfl) ?_
  cases h
  refine zB ?_
  exact zH rfl
 ·
  refine Q5 ?_
  refine z2 MX rfl ?_
  refine q4 ?_
  refine z2W ?_
  refine q23 z5U ?_
  refine q45 zKT ?_
  refine q27 O3 ?_
  refine q4 ?_
  have ⟨t14, ht14, h⟩ := bE h
  refine w8 (yBP (lq rfl) rfl rfl ht14) ?_
  refine z6C ?_
  refine q4 ?_
  refine z2W ?_
  refine q23 z5U ?_
  refine q45 z0E ?_
  refine q27 O3 ?_
  refine q4 ?_
  refine z2W ?_
  refine q23 z5U ?_
  refine q45 z0F ?_
  refine q27 O3 ?_
  refine w8 (zDF (lq rfl) B63 rfl rfl) ?_
  refine q4 ?_
  have ⟨t28, ht28, h⟩ := bE h
  refine w8 (yBQ (lq rfl) rfl rfl ht28) ?_
  refine z6C ?_
  refine w8 (zDF (lq rfl) B63 rfl rfl) ?_
  refine z9S S38 ?_
  refine Q49 ?_
  cases h
  refine zB ?_
  exact zH rfl
theorem zGM {a0 a1 a2 r} (h : xL a0 a1 a2 = some r) : zF Tryz.prog 83 [(di a0), (.pt [(.pt (eColltable_table.cells a1))]), (.pt [(di a2)])] [(db r)] := by
 refine co Tryz.func83 ?_; intro _ _ _ _
 unfold xL at h
 refine Q3 ?_
 refine kP ?_
 refine z2 MX rfl ?_
 refine z6D O66 ?_
 refine z2W ?_
 refine q23 zP4 ?_
 refine q27 O22 ?_
 refine q4 ?_
 have ⟨t10, ht10, h⟩ := bE h
 refine q21 S22 ht10 ?_
 refine q45 zHK ?_
 refine w8 (z0 (en := eSpan) (l := a1.classes) (i := a0) (v := t10) (off := 1) (lq rfl) O3 rfl ht10 rfl) ?_
 refine z6D O3 ?_
 refine w8 (zI3 (lq rfl) rfl rfl) ?_
 refine Q49 ?_
 cases h
 refine zB ?_
 exact zH rfl
theorem zRD {fv1 : DV} {a0 : Int} {a1 : Int → Option (Bool)} (hf1 : ∀ x0 y, a1 x0 = some y → FnC Tryz.prog fv1 [(di x0)] [(db y)]) {r : Int} (h : zGV a0 a1 = some r) : zF Tryz.prog 82 [(di a0), fv1] [(di r)] := by
 refine co Tryz.func82 ?_; intro _ _ _ _
 unfold zGV at h
 refine Q57 ?_
 refine q1 ?_
 refine Q69 ?_
 have ⟨y1, hy1, h⟩ := bE h
 refine tl (.exit 0) ⟨[(5, .d (di y1))], []⟩ ?_ ?_
 ·
  refine zD (fun x => ⟨[(1, .d fv1), (5, .d (di x.1)), (6, .d (di x.2))], []⟩) hy1 (wc) ?_
  rintro ⟨v5, v6⟩ sy1 p1
  replace p1 : zAS a1 v5 v6 = some sy1 := p1
  unfold zAS at p1
  refine Q67 ?_
  refine z6 p1 (fun p1 => ?_) (fun p1 => ?_)
  ·
   refine zP ?_
   have ⟨y2, hy2, p1⟩ := bE p1
   refine tl .normal ⟨[(1, .d fv1), (5, .d (di y2.1)), (6, .d (di y2.2))], []⟩ ?_ ?_
   ·
    refine Q74 ?_
    refine zZG ?_
    refine Q1 ?_
    refine Q13 ?_
    have ⟨t20, ht20, hy2⟩ := bE hy2
    refine yH (zEJ (lq rfl) rfl rfl (hf1 _ _ ht20)) ?_
    refine Q38 ?_
    refine z6 hy2 (fun hy2 => ?_) (fun hy2 => ?_)
    ·
     refine Q11 ?_
     cases hy2
     exact zI (wc)
    ·
     refine Q77 ?_
     cases hy2
     exact zI (wc)
   ·
    cases p1
    exact wc
  ·
   refine zG ?_
   cases p1
   intro q; cases q
   exact zI (wc)
 ·
  refine Q35 ?_
  cases h
  refine zB ?_
  exact zH rfl
theorem zHQ {a0 a1 r} (h : xZ a0 a1 = some r) : zF Tryz.prog 56 [(.pt (eColltable_table.cells a0)), (di a1)] [(di r)] := by
 refine co Tryz.func56 ?_; intro _ _ _ _
 unfold xZ at h
 refine Q88 ?_
 refine q62 ?_
 refine Q47 ?_
 refine zY1 O66 ?_
 refine yH (zFY (lq rfl) rfl) ?_
 refine q7 zP4 ?_
 refine q8 O22 ?_
 refine q5 S22 ?_
 refine yH (zK0 (lq rfl) rfl) ?_
 have ⟨t12, ht12, h⟩ := bE h
 refine q6 (zRD (fun _ _ q => .inl ⟨_, _, rfl, zGM q⟩) ht12) ?_
 refine Q15 ?_
 refine kP ?_
 refine z2 MX rfl ?_
 refine q4 ?_
 refine z6D O66 ?_
 refine z2W ?_
 refine q23 zP4 ?_
 refine q27 O22 ?_
 refine w8 (zPR (en := eSpan) (l := a0.classes) (lq rfl) S22 rfl) ?_
 refine z2X ?_
 have ⟨b20, hb20, h⟩ := bE h
 refine w8 ((zC (lq rfl) rfl).bool (oi hb20)) ?_
 refine dat (.d (.pt (eColltable_table.cells a0))) rfl (fun hb => by subst hb; exact zJY (lq rfl) O66 rfl) ?_
 refine dat (.d (.pt (eColltable_table.cells a0))) rfl (fun hb => by subst hb; exact zFY (lq rfl) rfl) ?_
 refine q51 (.ip (eColltable_table.cells a0) (0 + 7)) zP4 ?_
 refine q70 (.d (zR eSpan a0.classes)) O22 ?_
 refine q49 (.d (di t12)) ?_
 have ⟨t26, ht26, h⟩ := bE h
 refine dat (.ip (eSpan.all a0.classes) (t12.toNat * eSpan.size)) rfl (fun hb => by subst hb; exact kJ (en := eSpan) (lq rfl) S22 rfl rfl ht26) ?_
 refine q90 (.ip (eSpan.all a0.classes) (t12.toNat * eSpan.size + 0)) zHJ ?_
 refine dat (.d (di t26.Lo)) rfl (fun hb => by subst hb; exact z0 (en := eSpan) (l := a0.classes) (i := t12) (v := t26) (off := 0) (lq rfl) O3 rfl ht26 rfl) ?_
 refine dat (.d (di a1)) rfl (fun hb => by subst hb; exact zJY (lq rfl) O3 rfl) ?_
 refine dat (.d (db (decide (t26.Lo ≤ a1)))) rfl (fun hb => by subst hb; exact zHE (lq rfl) rfl rfl) ?_
 refine Q91 ?_
 refine z6 h (fun h => ?_) (fun h => ?_)
 ·
  refine Q0 ?_
  refine zY1 O66 ?_
  refine yH (zFY (lq rfl) rfl) ?_
  refine q7 zP4 ?_
  refine q8 O22 ?_
  refine q0 ?_
  have ⟨t37, ht37, h⟩ := bE h
  refine q13 S22 ht37 ?_
  refine q44 zIK ?_
  refine yH (z0 (en := eSpan) (l := a0.classes) (i := t12) (v := t37) (off := 2) (lq rfl) O3 rfl ht37 rfl) ?_
  refine Q1 ?_
  cases h
  refine zB ?_
  exact zH rfl
 ·
  refine Q58 ?_
  cases h
  refine zB ?_
  exact zH rfl
theorem xN  {a0} {a1}  {r : Int × (List Element) × Bool × (List Int)} (h : jP a0 a1 = some r) : GC Tryz.prog 30 [.d (.pt (eColltable_table.cells a0)), .row 3001] [(3001, .win 3 eI.size 0 (eI.all a1))] [3001] [.d (di r.1), .d (zR eElement r.2.1), .d (db r.2.2.1)] [(3001, .win 3 eI.size r.1.toNat (eI.all r.2.2.2))] := by
 refine zCN Tryz.func30 (by kernel_rfl) rfl (lq rfl) (lq rfl) fun w0 I0 hG0 p0 => ?_
 unfold jP at h
 refine Q0 ?_
 refine q1 ?_
 refine Q87 ?_
 refine yH (zFY (lq rfl) rfl) ?_
 refine q7 z0G ?_
 refine q8 O3 ?_
 refine q11 ?_
 refine z6E yF ?_
 refine z53 ?_
 refine Q69 ?_
 have ⟨y1, hy1, h⟩ := bE h
 refine tl (.exit 0) ⟨[(0, .d (.pt (eColltable_table.cells a0))), (1, .row 3001), (7, .d (di y1))], [(3001, .win 3 eI.size 0 (eI.all a1))]⟩ ?_ ?_
 ·
  refine zD (fun x => ⟨[(0, .d (.pt (eColltable_table.cells a0))), (1, .row 3001), (7, .d (di x))], [(3001, .win 3 eI.size 0 (eI.all a1))]⟩) hy1 (wc) ?_
  rintro v7 sy1 p1
  replace p1 : kT a1 a0 v7 = some sy1 := p1
  unfold kT at p1
  refine Q4 ?_
  refine Q60 ?_
  refine z6 p1 (fun p1 => ?_) (fun p1 => ?_)
  ·
   refine zP <| kB <| Q4 ?_
   refine Q19 ?_
   have ⟨t31, ht31, p1⟩ := bE p1
   refine yH (zSM (en := eI) (l := a1) (lq rfl) yF rfl rfl rfl ht31) ?_
   have ⟨t32, ht32, p1⟩ := bE p1
   refine yW rfl (z82 (lq rfl) ⟨_, _, rfl, .d _, ⟨_, _, rfl, .front rfl ht31, rfl⟩⟩ (zBG ht32)) ?_
   refine yH (zJB (lq rfl) rfl) ?_
   refine q93 ?_
   refine q93 ?_
   refine yH (zTM (lq rfl)) ?_
   refine Q22 ?_
   refine zJ ?_
   refine z6 p1 (fun p1 => ?_) (fun p1 => ?_)
   ·
    refine zG ?_
    cases p1
    intro q; cases q
    exact zI (wc)
   ·
    refine zP <| Q7 ?_
    refine Q68 ?_
    cases p1
    exact wc
  ·
   refine zG ?_
   cases p1
   intro q; cases q
   exact zI (wc)
 ·
  refine Q4 ?_
  refine Q86 ?_
  refine z6 h (fun h => ?_) (fun h => ?_)
  ·
   refine Q2 ?_
   refine q11 ?_
   have ⟨t42, ht42, h⟩ := bE h
   refine yH (zEQ (en := eI) (l := a1) (lq rfl) yF rfl rfl rfl ht42) ?_
   refine yH (zH7 (en := eI) (l := a1) (i := (0 : Int)) (v := t42) (lq rfl) O3 rfl rfl ht42 rfl) ?_
   have ⟨t44, ht44, h⟩ := bE h
   refine q6 (zF7 ht44) ?_
   refine Q78 ?_
   refine zQ (zYO (id := 3001) ((1 : Int).toNat) rfl (Nat.zero_le _)) ?_
   cases h
   refine zB ?_
   exact ⟨⟨_, _, rfl, rfl, ⟨_, _, rfl, rfl, ⟨_, _, rfl, rfl, rfl⟩⟩⟩, ⟨rfl, trivial⟩⟩
  ·
   refine zP <| Q44 ?_
   refine Q1 ?_
   refine kB ?_
   have ⟨y2, hy2, h⟩ := bE h
   refine tl (.exit 2) ⟨[(0, .d (.pt (eColltable_table.cells a0))), (1, .row 3001), (7, .d (di y2.1))], [(3001, .win 3 eI.size 0 (eI.all y2.2))]⟩ ?_ ?_
   ·
    refine zD (fun x => ⟨[(0, .d (.pt (eColltable_table.cells a0))), (1, .row 3001), (7, .d (di x.1)), (10, .d (di x.2.1)), (11, .d (di x.2.2.1))], [(3001, .win 3 eI.size 0 (eI.all x.2.2.2))]⟩) hy2 (wc) ?_
    rintro ⟨v7, v10, v11, r3001⟩ sy2 p2
    replace p2 : yS a0 v7 v10 v11 r3001 = some sy2 := p2
    unfold yS at p2
    refine Q4 ?_
    refine q11 ?_
    refine z6E yF ?_
    refine q3 ?_
    have ⟨b50, hb50, p2⟩ := bE p2
    refine yH ((zC (lq rfl) rfl).bool (oi hb50)) ?_
    refine q12 (.d (di v10)) ?_
    refine q12 (.d (.pt (eColltable_table.cells a0))) ?_
    refine sqt (.d (.pt (eColltable_table.cells a0))) rfl (fun hb => by subst hb; exact zFY (lq rfl) rfl) ?_
    refine q59 (.ip (eColltable_table.cells a0) (0 + 8)) z5V ?_
    refine q63 (.d (di a0.top)) O3 ?_
    refine q69 (.d (db (decide (v10 < a0.top)))) ?_
    refine Q37 ?_
    refine z6 p2 (fun p2 => ?_) (fun p2 => ?_)
    ·
     refine Q5 ?_
     have ⟨y3, hy3, p2⟩ := bE p2
     refine zN y3 (.exit 2) (fun y3 => ⟨[(0, .d (.pt (eColltable_table.cells a0))), (1, .row 3001), (7, .d (di v7))], [(3001, .win 3 eI.size 0 (eI.all r3001))]⟩) .normal (fun y3 => ⟨[(0, .d (.pt (eColltable_table.cells a0))), (1, .row 3001), (7, .d (di y3.1)), (10, .d (di y3.2.1)), (11, .d (di v11))], [(3001, .win 3 eI.size 0 (eI.all y3.2.2))]⟩) ?_ ?_ ?_
     ·
      refine zY8 ?_
      refine Q19 ?_
      have ⟨t62, ht62, hy3⟩ := bE hy3
      refine yH (zEQ (en := eI) (l := r3001) (lq rfl) yF rfl rfl rfl ht62) ?_
      refine yH (zH7 (en := eI) (l := r3001) (i := v11) (v := t62) (lq rfl) O3 rfl rfl ht62 rfl) ?_
      refine Q1 ?_
      refine Q13 ?_
      have ⟨t66, ht66, hy3⟩ := bE hy3
      refine q6 (zHQ ht66) ?_
      refine Q1 ?_
      refine Q4 ?_
      refine Q86 ?_
      refine z6 hy3 (fun hy3 => ?_) (fun hy3 => ?_)
      ·
       refine zG ?_
       cases hy3
       exact ⟨rfl, wc⟩
      ·
       refine zP <| Q10 ?_
       refine q68 ?_
       refine zJ ?_
       refine z6 hy3 (fun hy3 => ?_) (fun hy3 => ?_)
       ·
        refine zG ?_
        cases hy3
        exact ⟨rfl, wc⟩
       ·
        refine Q85 ?_
        refine Q36 ?_
        have ⟨t77, ht77, hy3⟩ := bE hy3
        refine yH (z2I (en := eI) (l := r3001) (lq rfl) yF rfl rfl rfl rfl ht77) ?_
        refine q0 ?_
        refine q38 yF ?_
        have ⟨r80_4, hr80_4, hy3⟩ := bE hy3
        refine yW rfl (z2J (en := eI) (l := r3001) (b := v7) (lq rfl) yF rfl rfl ht77 rfl (by simp) hr80_4 (by decide) rfl) ?_
        have ⟨t81, ht81, hy3⟩ := bE hy3
        refine yW rfl (z4S (lq rfl) rfl rfl (zBG ht81)) ?_
        refine z6J ?_
        refine Q38 ?_
        refine z6 hy3 (fun hy3 => ?_) (fun hy3 => ?_)
        ·
         refine Q35 ?_
         refine zG ?_
         cases hy3
         exact ⟨rfl, wc⟩
        ·
         refine Q5 ?_
         refine zFU 10 MX rfl ?_
         refine zWU ?_
         refine z6C ?_
         refine q4 ?_
         refine z6C ?_
         have ⟨t92, ht92, hy3⟩ := bE hy3
         refine w8 (zWA (en := eI) (l := r3001) (lq rfl) yF rfl rfl rfl rfl ht92) ?_
         refine q77 ?_
         refine Q23 ?_
         have ⟨t96, ht96, hy3⟩ := bE hy3
         refine w8 (zWA (en := eI) (l := r3001) (lq rfl) yF rfl rfl rfl rfl ht96) ?_
         refine wB ?_
         refine yW rfl (z83 (en := eI) (l := r3001) (a1 := (wi (v7 + 1))) (b1 := (wi (v11 + 1))) (a2 := v7) (b2 := v11) (lq rfl) yF rfl rfl rfl ht92 ht96 rfl) ?_
         refine Q64 ?_
         refine Q36 ?_
         have ⟨t101, ht101, hy3⟩ := bE hy3
         refine yH (zEQ (en := eI) (l := (cpM r3001 (wi (v7 + 1)) (wi (v11 + 1)) v7 v11)) (lq rfl) yF rfl rfl rfl ht101) ?_
         have ⟨r3001_5, hr3001_5, hy3⟩ := bE hy3
         refine yW rfl (zWC (en := eI) (l := (cpM r3001 (wi (v7 + 1)) (wi (v11 + 1)) v7 v11)) (i := v7) (v := t62) O3 rfl rfl rfl ht101 hr3001_5 rfl rfl rfl rfl) ?_
         refine zJ <| Q11 ?_
         cases hy3
         exact ⟨rfl, wc⟩
     ·
      rintro y3 rfl
      replace p2 := eL p2
      cases p2
      intro q; cases q
      exact zI (wc)
     ·
      rintro y3 rfl
      replace p2 := eR p2
      refine Q11 ?_
      cases p2
      exact wc
    ·
     refine zG ?_
     cases p2
     intro q; cases q
     exact zI (wc)
   ·
    refine Q2 ?_
    refine Q19 ?_
    have ⟨t108, ht108, h⟩ := bE h
    refine yH (zSM (en := eI) (l := y2.2) (lq rfl) yF rfl rfl rfl ht108) ?_
    refine zHY (zYP (tm := 108) (en := eI) (l := y2.2) (b := y2.1) (lq rfl) rfl rfl ht108) ?_ (by simp)
    have ⟨t109, ht109, h⟩ := bE h
    refine yW rfl ((wA (lq rfl) rfl (zBG ht109)).step) ?_
    refine Q55 ?_
    refine Q34 ?_
    refine Q13 ?_
    refine Q78 ?_
    cases h
    refine zB ?_
    exact ⟨⟨_, _, rfl, rfl, ⟨_, _, rfl, rfl, ⟨_, _, rfl, rfl, rfl⟩⟩⟩, ⟨rfl, trivial⟩⟩
theorem yB {a0 r : (List Element)} (h : k8 a0 = some r) : GC Tryz.prog 31 [.d (zR eElement a0)] [] [] [.row 5] [(5, .row 63 eElement.size false (eElement.all r))] := by
 unfold k8 at h
 cases a0 with
 | nil =>
  refine zV9 (by decide) fun B c => ?_
  refine zCN Tryz.func31 (by kernel_rfl) rfl (lq rfl) (lq rfl) fun w0 I0 hG0 p0 => ?_
  refine Q44 ?_
  refine yH (zSL (lq rfl) Tryz.underlying38 rfl) ?_
  refine zJ ?_
  refine zPM rfl ⟨fun c1 => ?_, fun c1 => ?_⟩
  ·
   obtain ⟨rfl, _⟩ := zLZ h
   refine Q3 ?_
   refine zQ (uD (t := 2) 5 63 eElement.size (lq rfl) (lq rfl) rfl rfl) ?_
   refine zB ?_
   exact ⟨⟨_, _, rfl, rfl, rfl⟩, rfl, trivial⟩
  ·
   refine zP ?_
   refine Q0 ?_
   refine q80 S38 ?_
   refine q0 ?_
   refine zHY (zL4 (t := 6) eElement.size (lq rfl) rfl) ?_ (by simp)
   refine yW rfl (k7 (en := eElement) (l := []) (m := []) (lq rfl) S38 rfl rfl rfl h (by decide) (by decide) rfl rfl) ?_
   refine Q17 ?_
   refine zB ?_
   exact ⟨⟨_, _, rfl, rfl, rfl⟩, rfl, trivial⟩
 | cons x l =>
  refine zCN Tryz.func31 (by kernel_rfl) rfl (lq rfl) (lq rfl) fun w0 I0 hG0 p0 => ?_
  refine Q44 ?_
  refine yH (zZ5 (lq rfl) Tryz.underlying38 rfl (z5L (by decide))) ?_
  refine zJ ?_
  refine zPM rfl ⟨fun c1 => (by cases c1), fun c1 => ?_⟩
  refine Q48 ?_
  refine q80 S38 ?_
  refine q0 ?_
  refine yW rfl (k7 (en := eElement) (l := []) (m := x :: l) (lq rfl) S38 rfl rfl rfl h (by decide) (by decide) rfl rfl) ?_
  refine Q17 ?_
  refine zB ?_
  exact ⟨⟨_, _, rfl, rfl, rfl⟩, rfl, trivial⟩
set_option maxHeartbeats 8000000 in
theorem zND {a0 a1 a2 r} (h : zAT a0 a1 a2 = some r) : zF Tryz.prog 9 [(eNorm.dv a0), (eCollation.dv a1), (zR eI a2)] [(di r.1), (zR eI r.2.1), (zR eElement r.2.2)] := by
 refine co Tryz.func9 ?_; intro _ _ _ _
 unfold zAT at h
 refine z3B ?_
 refine Q78 ?_
 refine Q4 ?_
 refine q5 yF ?_
 refine Q86 ?_
 refine z6 h (fun h => ?_) (fun h => ?_)
 ·
  refine Q0 ?_
  refine Q78 ?_
  refine zQ (zC5 (t := 7) eI.size (lq rfl) rfl) ?_
  refine zQ (zC5 (t := 8) eElement.size (lq rfl) rfl) ?_
  cases h
  refine zB ?_
  exact zJX rfl rfl rfl
 ·
  refine zP <| Q2 ?_
  have ⟨t17, ht17, h⟩ := bE h
  refine yW rfl (jO [(5, 2517)] (zDQ ht17) (lq rfl) (by decide) ⟨rfl, trivial⟩ rfl rfl trivial rfl rfl rfl (fun _ => rfl) rfl) ?_
  refine Q17 ?_
  refine kP ?_
  have ⟨t20, ht20, h⟩ := bE h
  have ⟨t22, ht22, h⟩ := bE h
  have ⟨t24, ht24, h⟩ := bE h
  refine tl .normal ⟨[(9, .row 2517), (10, .d (di t24.1)), (11, .d (zR eElement t24.2.1))], [(2517, .win 3 eI.size t24.1.toNat (eI.all t24.2.2.2))]⟩ ?_ ?_
  ·
   refine zCZ MX ?_
   refine xm 4 ?_
   refine xn [0,2] ?_
   refine q83 G32 ?_ ?_
   ·
    refine xn [1,2] ?_
    refine xb rfl (jO [(13, 2520), (11, 3020)] (jZ ht20) (lq rfl) (by decide) ⟨rfl, trivial⟩ rfl rfl trivial rfl rfl rfl (fun _ => rfl) rfl) ?_ ?_
    ·
     refine xn [2] ?_
     refine q42 G28 ?_
     refine xn [3] ?_
     refine xd rfl (jO [(3000, 2520), (3105, 3020)] (kQ ht22) (lq rfl) (by decide) ⟨rfl, rfl, trivial⟩ rfl rfl ⟨rfl, rfl, trivial⟩ rfl rfl rfl (fun _ => rfl) rfl) ?_
     refine zL5 (zDH (bid := 2520) (off := 5) rfl rfl rfl) ?_
     refine zL5 (zW (t := 22) (lq rfl) rfl rfl rfl) ?_
     refine zL5 (zDG (id := 2517) rfl) ?_
     refine xn [5] ?_
     refine xd rfl (jO [(3001, 2517)] (xN ht24) (lq rfl) (by decide) ⟨rfl, rfl, trivial⟩ rfl rfl ⟨rfl, trivial⟩ rfl rfl rfl (fun _ => rfl) rfl) ?_
     refine xm 6 ?_
     refine vP (i := 7) rfl (lq rfl) rfl rfl rfl rfl rfl rfl ?_
     refine vP (i := 8) rfl (lq rfl) rfl rfl rfl rfl rfl rfl ?_
     refine vP (i := 9) rfl (lq rfl) rfl rfl rfl rfl rfl rfl ?_
     refine Q81 ?_
     refine Q46 ?_
     refine q10 ?_
     exact ae
    refine q42 G28 ?_
    refine xn [1] ?_
    refine xd rfl (jO [(13, 2520), (11, 3020)] (jZ ht20) (lq rfl) (by decide) ⟨rfl, trivial⟩ rfl rfl trivial rfl rfl rfl (fun _ => rfl) rfl) ?_
    refine xn [3] ?_
    refine xd rfl (jO [(3000, 2520), (3105, 3020)] (kQ ht22) (lq rfl) (by decide) ⟨rfl, rfl, trivial⟩ rfl rfl ⟨rfl, rfl, trivial⟩ rfl rfl rfl (fun _ => rfl) rfl) ?_
    refine zL5 (zDH (bid := 2520) (off := 5) rfl rfl rfl) ?_
    refine zL5 (zW (t := 22) (lq rfl) rfl rfl rfl) ?_
    refine zL5 (zDG (id := 2517) rfl) ?_
    refine xn [5] ?_
    refine xd rfl (jO [(3001, 2517)] (xN ht24) (lq rfl) (by decide) ⟨rfl, rfl, trivial⟩ rfl rfl ⟨rfl, trivial⟩ rfl rfl rfl (fun _ => rfl) rfl) ?_
    refine xm 6 ?_
    refine vP (i := 7) rfl (lq rfl) rfl rfl rfl rfl rfl rfl ?_
    refine vP (i := 8) rfl (lq rfl) rfl rfl rfl rfl rfl rfl ?_
    refine vP (i := 9) rfl (lq rfl) rfl rfl rfl rfl rfl rfl ?_
    refine Q81 ?_
    refine Q46 ?_
    refine q10 ?_
    exact ae
   refine q42 G28 ?_
   refine xn [0] ?_
   refine q42 G32 ?_
   refine xn [1] ?_
   refine xd rfl (jO [(13, 2520), (11, 3020)] (jZ ht20) (lq rfl) (by decide) ⟨rfl, trivial⟩ rfl rfl trivial rfl rfl rfl (fun _ => rfl) rfl) ?_
   refine xn [3] ?_
   refine xd rfl (jO [(3000, 2520), (3105, 3020)] (kQ ht22) (lq rfl) (by decide) ⟨rfl, rfl, trivial⟩ rfl rfl ⟨rfl, rfl, trivial⟩ rfl rfl rfl (fun _ => rfl) rfl) ?_
   refine zL5 (zDH (bid := 2520) (off := 5) rfl rfl rfl) ?_
   refine zL5 (zW (t := 22) (lq rfl) rfl rfl rfl) ?_
   refine zL5 (zDG (id := 2517) rfl) ?_
   refine xn [5] ?_
   refine xd rfl (jO [(3001, 2517)] (xN ht24) (lq rfl) (by decide) ⟨rfl, rfl, trivial⟩ rfl rfl ⟨rfl, trivial⟩ rfl rfl rfl (fun _ => rfl) rfl) ?_
   refine xm 6 ?_
   refine vP (i := 7) rfl (lq rfl) rfl rfl rfl rfl rfl rfl ?_
   refine vP (i := 8) rfl (lq rfl) rfl rfl rfl rfl rfl rfl ?_
   refine vP (i := 9) rfl (lq rfl) rfl rfl rfl rfl rfl rfl ?_
   refine Q81 ?_
   refine Q46 ?_
   refine q10 ?_
   exact ae
  refine zQ (zYH (t := 9) (lq rfl) rfl rfl) ?_
  refine kP ?_
  have ⟨t35, ht35, h⟩ := bE h
  have ⟨t37, ht37, h⟩ := bE h
  refine tl .normal ⟨[(6, .d (di t24.1)), (7, .d (zR eI t35)), (8, .row 2537)], [(2537, .row 63 eElement.size false (eElement.all t37))]⟩ ?_ ?_
  ·
   refine zCZ MX ?_
   refine zZA ?_
   refine xm 2 ?_
   refine xm 3 ?_
   refine xm 5 ?_
   refine xm 8 ?_
   refine xn [4,6,9] ?_
   refine q78 yF ?_ ?_
   ·
    refine xn [6,9] ?_
    refine q78 yF ?_ ?_
    ·
     refine xn [7,9] ?_
     refine q94 yF ht35 ?_ ?_
     ·
      refine xn [9] ?_
      refine xd rfl (jO [(5, 2537)] (yB ht37) (lq rfl) (by decide) ⟨rfl, trivial⟩ rfl rfl trivial rfl rfl rfl (fun _ => rfl) rfl) ?_
      refine zWW ?_
      exact ae
     refine xd rfl (jO [(5, 2537)] (yB ht37) (lq rfl) (by decide) ⟨rfl, trivial⟩ rfl rfl trivial rfl rfl rfl (fun _ => rfl) rfl) ?_
     refine xn [7,10] ?_
     refine q94 yF ht35 ?_ ?_
     ·
      refine zWW ?_
      exact ae
     refine Q18 ?_
     refine q72 yF ht35 ?_
     refine Q51 ?_
     exact ae
    refine xd rfl (jO [(5, 2537)] (yB ht37) (lq rfl) (by decide) ⟨rfl, trivial⟩ rfl rfl trivial rfl rfl rfl (fun _ => rfl) rfl) ?_
    refine xn [6,10] ?_
    refine q78 yF ?_ ?_
    ·
     refine xn [7,10] ?_
     refine q94 yF ht35 ?_ ?_
     ·
      refine zWW ?_
      exact ae
     refine Q18 ?_
     refine q72 yF ht35 ?_
     refine Q51 ?_
     exact ae
    refine q10 ?_
    refine xn [6] ?_
    refine zY3 yF ?_
    refine xn [7] ?_
    refine q72 yF ht35 ?_
    refine Q51 ?_
    exact ae
   refine q78 yF ?_ ?_
   ·
    refine xn [4,9] ?_
    refine q78 yF ?_ ?_
    ·
     refine xn [7,9] ?_
     refine q94 yF ht35 ?_ ?_
     ·
      refine xn [9] ?_
      refine xd rfl (jO [(5, 2537)] (yB ht37) (lq rfl) (by decide) ⟨rfl, trivial⟩ rfl rfl trivial rfl rfl rfl (fun _ => rfl) rfl) ?_
      refine zWW ?_
      exact ae
     refine xd rfl (jO [(5, 2537)] (yB ht37) (lq rfl) (by decide) ⟨rfl, trivial⟩ rfl rfl trivial rfl rfl rfl (fun _ => rfl) rfl) ?_
     refine xn [7,10] ?_
     refine q94 yF ht35 ?_ ?_
     ·
      refine zWW ?_
      exact ae
     refine Q18 ?_
     refine q72 yF ht35 ?_
     refine Q51 ?_
     exact ae
    refine xd rfl (jO [(5, 2537)] (yB ht37) (lq rfl) (by decide) ⟨rfl, trivial⟩ rfl rfl trivial rfl rfl rfl (fun _ => rfl) rfl) ?_
    refine xn [4,10] ?_
    refine q78 yF ?_ ?_
    ·
     refine xn [7,10] ?_
     refine q94 yF ht35 ?_ ?_
     ·
      refine zWW ?_
      exact ae
     refine Q18 ?_
     refine q72 yF ht35 ?_
     refine Q51 ?_
     exact ae
    refine q10 ?_
    refine xn [4] ?_
    refine zY3 yF ?_
    refine xn [7] ?_
    refine q72 yF ht35 ?_
    refine Q51 ?_
    exact ae
   refine xd rfl (jO [(5, 2537)] (yB ht37) (lq rfl) (by decide) ⟨rfl, trivial⟩ rfl rfl trivial rfl rfl rfl (fun _ => rfl) rfl) ?_
   refine xn [4,6,10] ?_
   refine q78 yF ?_ ?_
   ·
    refine xn [6,10] ?_
    refine q78 yF ?_ ?_
    ·
     refine xn [7,10] ?_
     refine q94 yF ht35 ?_ ?_
     ·
      refine zWW ?_
      exact ae
     refine Q18 ?_
     refine q72 yF ht35 ?_
     refine Q51 ?_
     exact ae
    refine q10 ?_
    refine xn [6] ?_
    refine zY3 yF ?_
    refine xn [7] ?_
    refine q72 yF ht35 ?_
    refine Q51 ?_
    exact ae
   refine q78 yF ?_ ?_
   ·
    refine xn [4,10] ?_
    refine q78 yF ?_ ?_
    ·
     refine xn [7,10] ?_
     refine q94 yF ht35 ?_ ?_
     ·
      refine zWW ?_
      exact ae
     refine Q18 ?_
     refine q72 yF ht35 ?_
     refine Q51 ?_
     exact ae
    refine q10 ?_
    refine xn [4] ?_
    refine zY3 yF ?_
    refine xn [7] ?_
    refine q72 yF ht35 ?_
    refine Q51 ?_
    exact ae
   refine q10 ?_
   refine xn [4,6] ?_
   refine q78 yF ?_ ?_
   ·
    refine xn [6] ?_
    refine zY3 yF ?_
    refine xn [7] ?_
    refine q72 yF ht35 ?_
    refine Q51 ?_
    exact ae
   refine zY3 yF ?_
   refine xn [4] ?_
   refine zY3 yF ?_
   refine xn [7] ?_
   refine q72 yF ht35 ?_
   refine Q51 ?_
   exact ae
  cases h
  refine zB ?_
  exact zJX rfl rfl rfl
theorem zIR {a0 a1 r} (h : zBT a0 a1 = some r) : zF Tryz.prog 35 [(zR eI a0), (zR eI a1)] [(di r)] := by
 refine co Tryz.func35 ?_; intro _ _ _ _
 unfold zBT at h
 refine Q70 ?_
 have ⟨y1, hy1, h⟩ := bE h
 refine zN y1 (.exit 0) (fun y1 => ⟨[(0, .d (zR eI a0)), (1, .d (zR eI a1))], []⟩) .ret (fun y1 => ⟨[(4, .d (di y1))], []⟩) ?_ ?_ ?_
 ·
  refine zD (fun x => ⟨[(0, .d (zR eI a0)), (1, .d (zR eI a1)), (5, .d (di x))], []⟩) hy1 (wc) ?_
  rintro v5 sy1 p1
  replace p1 : uA a0 a1 v5 = some sy1 := p1
  unfold uA at p1
  refine Q10 ?_
  refine q5 yF ?_
  refine q3 ?_
  have ⟨b10, hb10, p1⟩ := bE p1
  refine yH ((zC (lq rfl) rfl).bool (oi hb10)) ?_
  refine q12 (.d (di v5)) ?_
  refine q12 (.d (zR eI a1)) ?_
  refine z2O (.d (di (a1.length : Int))) yF ?_
  refine q69 (.d (db (decide (v5 < (a1.length : Int))))) ?_
  refine Q37 ?_
  refine z6 p1 (fun p1 => ?_) (fun p1 => ?_)
  ·
   refine Q61 ?_
   refine kP ?_
   refine z2 MX rfl ?_
   refine Q23 ?_
   have ⟨t20, ht20, p1⟩ := bE p1
   refine q21 yF ht20 ?_
   refine q65 O3 ht20 ?_
   refine Q23 ?_
   have ⟨t24, ht24, p1⟩ := bE p1
   refine q21 yF ht24 ?_
   refine q65 O3 ht24 ?_
   refine z2X ?_
   refine wB ?_
   refine z6 p1 (fun p1 => ?_) (fun p1 => ?_)
   ·
    refine Q16 ?_
    cases p1
    intro q; cases q
    exact ⟨rfl, wc⟩
   ·
    refine Q5 ?_
    refine z2 MX rfl ?_
    refine Q23 ?_
    have ⟨t29, ht29, p1⟩ := bE p1
    refine q21 yF ht29 ?_
    refine q65 O3 ht29 ?_
    refine Q23 ?_
    have ⟨t33, ht33, p1⟩ := bE p1
    refine q21 yF ht33 ?_
    refine q65 O3 ht33 ?_
    refine zYW ?_
    refine wB ?_
    refine z6 p1 (fun p1 => ?_) (fun p1 => ?_)
    ·
     refine Q16 ?_
     cases p1
     intro q; cases q
     exact ⟨rfl, wc⟩
    ·
     refine Q24 ?_
     cases p1
     exact wc
  ·
   refine zG ?_
   cases p1
   intro q; cases q
   exact ⟨rfl, wc⟩
 ·
  rintro y1 rfl
  replace h := eL h
  refine Q4 ?_
  refine q5 yF ?_
  refine q0 ?_
  refine Q82 ?_
  refine z6 h (fun h => ?_) (fun h => ?_)
  ·
   refine Q3 ?_
   cases h
   refine zB ?_
   exact zH rfl
  ·
   refine Q85 ?_
   refine q5 yF ?_
   refine q0 ?_
   refine q5 yF ?_
   refine Q60 ?_
   refine z6 h (fun h => ?_) (fun h => ?_)
   ·
    refine Q3 ?_
    cases h
    refine zB ?_
    exact zH rfl
   ·
    refine Q58 ?_
    cases h
    refine zB ?_
    exact zH rfl
 ·
  rintro y1 rfl
  replace h := eR h
  cases h
  exact zH rfl
theorem zKV {a0 a1 r} (h : zB8 a0 a1 = some r) : zF Tryz.prog 11 [(zR eI a0), (zR eI a1)] [(db r)] := by
 refine co Tryz.func11 ?_; intro _ _ _ _
 unfold zB8 at h
 refine Q3 ?_
 refine Q13 ?_
 have ⟨t7, ht7, h⟩ := bE h
 refine q6 (zIR ht7) ?_
 refine zZF ?_
 cases h
 refine zB ?_
 exact zH rfl
theorem zMA {a0 a1 r} (h : zBE a0 a1 = some r) : zF Tryz.prog 12 [(zR eElement a0), (zR eElement a1)] [(db r)] := by
 refine co Tryz.func12 ?_; intro _ _ _ _
 unfold zBE at h
 refine Q44 ?_
 refine q5 S38 ?_
 refine q0 ?_
 refine q5 S38 ?_
 refine Q40 ?_
 refine z6 h (fun h => ?_) (fun h => ?_)
 ·
  refine Q3 ?_
  cases h
  refine zB ?_
  exact zH rfl
 ·
  refine Q98 ?_
  have ⟨y1, hy1, h⟩ := bE h
  refine zN y1 (.exit 0) (fun y1 => ⟨[], []⟩) .ret (fun y1 => ⟨[(4, .d (db y1))], []⟩) ?_ ?_ ?_
  ·
   refine zD (fun x => ⟨[(0, .d (zR eElement a0)), (1, .d (zR eElement a1)), (5, .d (di x))], []⟩) hy1 (wc) ?_
   rintro v5 sy1 p1
   replace p1 : wN a0 a1 v5 = some sy1 := p1
   unfold wN at p1
   refine Q10 ?_
   refine q5 S38 ?_
   refine Q6 ?_
   refine z6 p1 (fun p1 => ?_) (fun p1 => ?_)
   ·
    refine Q61 ?_
    refine z2 MX rfl ?_
    refine Q23 ?_
    have ⟨t19, ht19, p1⟩ := bE p1
    refine q21 S38 ht19 ?_
    refine w8 (xE (en := eElement) (l := a0) (i := v5) (v := t19) (off := 0) (lq rfl) G63 rfl ht19 rfl rfl (by decide)) ?_
    refine Q23 ?_
    have ⟨t23, ht23, p1⟩ := bE p1
    refine q21 S38 ht23 ?_
    refine w8 (xE (en := eElement) (l := a1) (i := v5) (v := t23) (off := 0) (lq rfl) G63 rfl ht23 rfl rfl (by decide)) ?_
    refine w8 (zTL (en := eElement) (a := t19) (b := t23) (lq rfl) E63 rfl rfl) ?_
    refine wB ?_
    refine z6 p1 (fun p1 => ?_) (fun p1 => ?_)
    ·
     refine Q16 ?_
     cases p1
     intro q; cases q
     exact ⟨rfl, wc⟩
    ·
     refine Q24 ?_
     cases p1
     exact wc
   ·
    refine zG ?_
    cases p1
    intro q; cases q
    exact ⟨rfl, wc⟩
  ·
   rintro y1 rfl
   replace h := eL h
   refine Q3 ?_
   cases h
   refine zB ?_
   exact zH rfl
  ·
   rintro y1 rfl
   replace h := eR h
   cases h
   exact zH rfl
set_option maxRecDepth 40000 in
theorem zKW {r} (h : zC8  = some r) : zF Tryz.prog 8 [] [(db r)] := by
 refine co Tryz.func8 ?_; intro _ _ _ _
 unfold zC8 at h
 refine Q3 ?_
 refine Q0 ?_
 refine q56 B61 ?_
 refine q56 B61 ?_
 refine q38 S22 ?_
 refine yH ((zDF (lq rfl) B28 rfl rfl).nils (bs := eNorm.cells ({ Classes := [({ Lo := 769, Hi := 769, Value := 230 } : Span), ({ Lo := 803, Hi := 803, Value := 220 } : Span)], Decomp := [], Excluded := (({ Ranges := [] }) : Set) } : Norm)) (nlE (nlN (nlN nl0)))) ?_
 refine z9V ?_
 refine q17 G28 ?_
 refine zJ ?_
 refine zQ (zW (t := 1) (lq rfl) rfl rfl rfl) ?_
 refine Q0 ?_
 refine q56 B63 ?_
 refine q38 S38 ?_
 refine Q47 ?_
 refine q56 B63 ?_
 refine q38 S38 ?_
 refine Q47 ?_
 refine q38 yF ?_
 refine q0 ?_
 refine q56 B45 ?_
 refine q38 yF ?_
 refine q0 ?_
 refine q56 B45 ?_
 refine q38 S29 ?_
 refine yH ((zDF (lq rfl) B32 rfl rfl).nils (bs := eCollation.cells ({ Entries := [({ Codes := [97], Elements := [({ Primary := 7, Secondary := 1, Tertiary := 1, Variable := false } : Element)] } : Entry), ({ Codes := [97, 769], Elements := [({ Primary := 8, Secondary := 1, Tertiary := 1, Variable := false } : Element)] } : Entry)], Groups := [], Base := 100, Second := 1, Third := 1 } : Collation)) (nlE (nlN (nlE (nlE (nlE nl0)))))) ?_
 refine yDI ?_
 refine z6I ?_
 refine zQ (zW (t := 4) (lq rfl) rfl rfl rfl) ?_
 refine Q0 ?_
 refine q20 G28 ?_
 refine q20 G32 ?_
 refine q38 yF ?_
 have ⟨t28, ht28, h⟩ := bE h
 refine q6 (zND ht28) ?_
 refine Q55 ?_
 refine q22 ?_
 refine Q78 ?_
 refine Q0 ?_
 refine q20 G32 ?_
 have ⟨t33, ht33, h⟩ := bE h
 refine q6 (zGZ ht33) ?_
 refine q50 ?_
 have ⟨b35, hb35, h⟩ := bE h
 refine yH ((zC (lq rfl) rfl).bool (oi hb35)) ?_
 refine q12 (.d (di t28.1)) ?_
 refine zYX (.d (db (decide (t28.1 = 2)))) ?_
 refine q14 ?_
 have ⟨b39, hb39, h⟩ := bE h
 refine yH ((zC (lq rfl) rfl).bool (oi hb39)) ?_
 refine q12 (.d (zR eI t28.2.1)) ?_
 refine sqt (.d (zR eI [803])) rfl (fun hb => by subst hb; exact z4U (lq rfl) yF rfl rfl rfl rfl (by decide) rfl) ?_
 have ⟨t42, ht42, h⟩ := bE h
 refine sqt (.d (db t42)) rfl (fun hb => by subst hb; exact wA (lq rfl) rfl (zKV ht42)) ?_
 refine q14 ?_
 have ⟨b44, hb44, h⟩ := bE h
 refine yH ((zC (lq rfl) rfl).bool (oi hb44)) ?_
 refine q12 (.d (zR eElement t28.2.2)) ?_
 refine q12 (.d (zR eElement [({ Primary := 8, Secondary := 1, Tertiary := 1, Variable := false } : Element)])) ?_
 have ⟨t47, ht47, h⟩ := bE h
 refine sqt (.d (db t47)) rfl (fun hb => by subst hb; exact wA (lq rfl) rfl (zMA ht47)) ?_
 refine Q43 ?_
 cases h
 refine zB ?_
 exact zH rfl
theorem zJN {a0 r} (h : zDK a0 = some r) : zF Tryz.prog 41 [(di a0)] [(db r)] := by
 refine co Tryz.func41 ?_; intro _ _ _ _
 unfold zDK at h
 refine Q57 ?_
 refine q37 ?_
 have ⟨b5, hb5, h⟩ := bE h
 refine yH ((zC (lq rfl) rfl).bool (oi hb5)) ?_
 refine q12 (.d (di a0)) ?_
 refine q54 (.d (db (decide (a0 ≤ 65535)))) ?_
 refine Q43 ?_
 cases h
 refine zB ?_
 exact zH rfl
theorem zMB {a0 r} (h : zD4 a0 = some r) : zF Tryz.prog 69 [(ds a0)] [(db r)] := by
 refine co Tryz.func69 ?_; intro _ _ _ _
 unfold zD4 at h
 refine Q70 ?_
 have ⟨y1, hy1, h⟩ := bE h
 refine zN y1 (.exit 0) (fun y1 => ⟨[(0, .d (ds a0))], []⟩) .ret (fun y1 => ⟨[(2, .d (db y1))], []⟩) ?_ ?_ ?_
 ·
  refine zD (fun x => ⟨[(0, .d (ds a0)), (3, .d (di x))], []⟩) hy1 (wc) ?_
  rintro v3 sy1 p1
  replace p1 : zEK a0 v3 = some sy1 := p1
  unfold zEK at p1
  refine Q10 ?_
  refine z9J Tryz.underlying9 ?_
  refine Q6 ?_
  refine z6 p1 (fun p1 => ?_) (fun p1 => ?_)
  ·
   refine Q66 ?_
   have ⟨t13, ht13, p1⟩ := bE p1
   refine z9K Tryz.underlying9 ht13 ?_
   refine Q22 ?_
   refine q37 ?_
   have ⟨b16, hb16, p1⟩ := bE p1
   refine yH ((zC (lq rfl) rfl).bool (oi hb16)) ?_
   refine q12 (.d (dby t13)) ?_
   refine q54 (.d (db (decide (t13 ≤ 90)))) ?_
   refine q14 ?_
   have ⟨b20, hb20, p1⟩ := bE p1
   refine yH ((zC (lq rfl) rfl).bool (oi hb20)) ?_
   refine q39 (.d (dby t13)) ?_
   refine q98 (.d (db (decide (97 ≤ t13)))) ?_
   have ⟨b23, hb23, p1⟩ := bE p1
   refine sqf (.d (db b23)) rfl (fun hb => by subst hb; exact (zC (lq rfl) rfl).bool (oi hb23)) ?_
   refine jW (x := .d (dby t13)) rfl rfl rfl (lq rfl) (lq rfl) rfl (fun hb => by obtain ⟨hb, hb1⟩ := zM hb; obtain rfl := gF hb; obtain rfl : b23 = true := hb1; exact zC (lq rfl) rfl) ?_
   refine jW (x := .d (db (decide (t13 ≤ 122)))) rfl rfl rfl (lq rfl) (lq rfl) rfl (fun hb => by obtain ⟨hb, hb1⟩ := zM hb; obtain rfl := gF hb; obtain rfl : b23 = true := hb1; exact zHE (lq rfl) rfl rfl) ?_
   refine q81 (.d (db (b23 && (decide (t13 ≤ 122))))) ?_
   refine q19 ?_
   have ⟨b28, hb28, p1⟩ := bE p1
   refine yH ((zC (lq rfl) rfl).bool (oi hb28)) ?_
   refine q39 (.d (dby t13)) ?_
   refine q98 (.d (db (decide (48 ≤ t13)))) ?_
   have ⟨b31, hb31, p1⟩ := bE p1
   refine sqf (.d (db b31)) rfl (fun hb => by subst hb; exact (zC (lq rfl) rfl).bool (oi hb31)) ?_
   refine jW (x := .d (dby t13)) rfl rfl rfl (lq rfl) (lq rfl) rfl (fun hb => by obtain ⟨hb, hb1⟩ := zM hb; obtain rfl := gF hb; obtain rfl : b31 = true := hb1; exact zC (lq rfl) rfl) ?_
   refine jW (x := .d (db (decide (t13 ≤ 57)))) rfl rfl rfl (lq rfl) (lq rfl) rfl (fun hb => by obtain ⟨hb, hb1⟩ := zM hb; obtain rfl := gF hb; obtain rfl : b31 = true := hb1; exact zHE (lq rfl) rfl rfl) ?_
   refine q81 (.d (db (b31 && (decide (t13 ≤ 57))))) ?_
   refine q19 ?_
   have ⟨b36, hb36, p1⟩ := bE p1
   refine yH ((zC (lq rfl) rfl).bool (oi hb36)) ?_
   refine q39 (.d (dby t13)) ?_
   refine q99 (.d (db (decide (t13 = 95)))) ?_
   refine q19 ?_
   refine Q38 ?_
   refine z6 p1 (fun p1 => ?_) (fun p1 => ?_)
   ·
    refine Q16 ?_
    cases p1
    intro q; cases q
    exact ⟨rfl, wc⟩
   ·
    refine Q24 ?_
    cases p1
    exact wc
  ·
   refine zG ?_
   cases p1
   intro q; cases q
   exact ⟨rfl, wc⟩
 ·
  rintro y1 rfl
  replace h := eL h
  refine Q2 ?_
  refine z9J Tryz.underlying9 ?_
  refine q37 ?_
  have ⟨b44, hb44, h⟩ := bE h
  refine yH ((zC (lq rfl) rfl).bool (oi hb44)) ?_
  refine q12 (.d (ds a0)) ?_
  refine sqt (.d (di (a0.length : Int))) rfl (fun hb => by subst hb; exact zPQ (s := a0) (lq rfl) Tryz.underlying9 rfl) ?_
  refine q54 (.d (db (decide ((a0.length : Int) ≤ 32)))) ?_
  refine Q43 ?_
  cases h
  refine zB ?_
  exact zH rfl
 ·
  rintro y1 rfl
  replace h := eR h
  cases h
  exact zH rfl
theorem zQA {a0 r} (h : zDL a0 = some r) : zF Tryz.prog 42 [(eCollation.dv a0)] [(di r)] := by
 refine co Tryz.func42 ?_; intro _ _ _ _
 unfold zDL at h
 refine Q71 ?_
 refine Q47 ?_
 refine q7 zP3 ?_
 refine q8 O30 ?_
 refine Q96 ?_
 have ⟨y1, hy1, h⟩ := bE h
 refine zN y1 (.exit 0) (fun y1 => ⟨[(1, .d (.pt (eCollation.cells a0))), (3, .d (zR eGroup a0.Groups))], []⟩) .ret (fun y1 => ⟨[(2, .d (di y1))], []⟩) ?_ ?_ ?_
 ·
  refine zD (fun x => ⟨[(1, .d (.pt (eCollation.cells a0))), (3, .d (zR eGroup a0.Groups)), (4, .d (di x))], []⟩) hy1 (wc) ?_
  rintro v4 sy1 p1
  replace p1 : uW a0 v4 = some sy1 := p1
  unfold uW at p1
  refine Q10 ?_
  refine q5 S30 ?_
  refine Q6 ?_
  refine z6 p1 (fun p1 => ?_) (fun p1 => ?_)
  ·
   refine Q66 ?_
   have ⟨t19, ht19, p1⟩ := bE p1
   refine q13 S30 ht19 ?_
   refine q44 zM8 ?_
   refine yH (z0 (en := eGroup) (l := a0.Groups) (i := v4) (v := t19) (off := 0) (lq rfl) O9 rfl ht19 rfl) ?_
   have ⟨t22, ht22, p1⟩ := bE p1
   refine q6 (zMB ht22) ?_
   refine Q38 ?_
   refine z6 p1 (fun p1 => ?_) (fun p1 => ?_)
   ·
    refine Q16 ?_
    cases p1
    intro q; cases q
    exact ⟨rfl, wc⟩
   ·
    refine Q24 ?_
    cases p1
    exact wc
  ·
   refine zG ?_
   cases p1
   intro q; cases q
   exact ⟨rfl, wc⟩
 ·
  rintro y1 rfl
  replace h := eL h
  refine Q31 ?_
  have ⟨y2, hy2, h⟩ := bE h
  refine zN y2 (.exit 2) (fun y2 => ⟨[(1, .d (.pt (eCollation.cells a0))), (3, .d (zR eGroup a0.Groups))], []⟩) .ret (fun y2 => ⟨[(2, .d (di y2))], []⟩) ?_ ?_ ?_
  ·
   refine zD (fun x => ⟨[(1, .d (.pt (eCollation.cells a0))), (3, .d (zR eGroup a0.Groups)), (5, .d (di x))], []⟩) hy2 (wc) ?_
   rintro v5 sy2 p2
   replace p2 : uY a0 v5 = some sy2 := p2
   unfold uY at p2
   refine Q10 ?_
   refine q5 S30 ?_
   refine Q6 ?_
   refine z6 p2 (fun p2 => ?_) (fun p2 => ?_)
   ·
    refine Q8 ?_
    refine Q14 ?_
    have ⟨y3, hy3, p2⟩ := bE p2
    refine zN y3 (.exit 4) (fun y3 => ⟨[(1, .d (.pt (eCollation.cells a0))), (3, .d (zR eGroup a0.Groups)), (5, .d (di v5))], []⟩) .ret (fun y3 => ⟨[(2, .d (di y3))], []⟩) ?_ ?_ ?_
    ·
     refine zD (fun x => ⟨[(1, .d (.pt (eCollation.cells a0))), (3, .d (zR eGroup a0.Groups)), (5, .d (di v5)), (6, .d (di x))], []⟩) hy3 (wc) ?_
     rintro v6 sy3 p3
     replace p3 : uX v5 a0 v6 = some sy3 := p3
     unfold uX at p3
     refine Q67 ?_
     refine z6 p3 (fun p3 => ?_) (fun p3 => ?_)
     ·
      refine Q61 ?_
      refine z2 MX rfl ?_
      refine Q23 ?_
      have ⟨t37, ht37, p3⟩ := bE p3
      refine q21 S30 ht37 ?_
      refine q45 zM8 ?_
      refine w8 (z0 (en := eGroup) (l := a0.Groups) (i := v6) (v := t37) (off := 0) (lq rfl) O9 rfl ht37 rfl) ?_
      refine Q23 ?_
      have ⟨t42, ht42, p3⟩ := bE p3
      refine q21 S30 ht42 ?_
      refine q45 zM8 ?_
      refine w8 (z0 (en := eGroup) (l := a0.Groups) (i := v5) (v := t42) (off := 0) (lq rfl) O9 rfl ht42 rfl) ?_
      refine w8 (zK3 (a := t37.Name) (b := t42.Name) (lq rfl) rfl rfl) ?_
      refine wB ?_
      refine z6 p3 (fun p3 => ?_) (fun p3 => ?_)
      ·
       refine Q16 ?_
       cases p3
       intro q; cases q
       exact ⟨rfl, wc⟩
      ·
       refine Q24 ?_
       cases p3
       exact wc
     ·
      refine zG ?_
      cases p3
      intro q; cases q
      exact ⟨rfl, wc⟩
    ·
     rintro y3 rfl
     replace p2 := eL p2
     refine Q11 ?_
     cases p2
     exact wc
    ·
     rintro y3 rfl
     replace p2 := eR p2
     cases p2
     intro q; cases q
     exact ⟨rfl, wc⟩
   ·
    refine zG ?_
    cases p2
    intro q; cases q
    exact ⟨rfl, wc⟩
  ·
   rintro y2 rfl
   replace h := eL h
   refine Q31 ?_
   have ⟨y4, hy4, h⟩ := bE h
   refine zN y4 (.exit 6) (fun y4 => ⟨[(3, .d (zR eGroup a0.Groups))], []⟩) .ret (fun y4 => ⟨[(2, .d (di y4))], []⟩) ?_ ?_ ?_
   ·
    refine zD (fun x => ⟨[(1, .d (.pt (eCollation.cells a0))), (3, .d (zR eGroup a0.Groups)), (7, .d (di x))], []⟩) hy4 (wc) ?_
    rintro v7 sy4 p4
    replace p4 : uZ a0 v7 = some sy4 := p4
    unfold uZ at p4
    refine Q10 ?_
    refine q5 S30 ?_
    refine Q6 ?_
    refine z6 p4 (fun p4 => ?_) (fun p4 => ?_)
    ·
     refine Q61 ?_
     refine z2 MX rfl ?_
     refine Q23 ?_
     have ⟨t54, ht54, p4⟩ := bE p4
     refine q21 S30 ht54 ?_
     refine q45 zM9 ?_
     refine w8 (z0 (en := eGroup) (l := a0.Groups) (i := v7) (v := t54) (off := 1) (lq rfl) O3 rfl ht54 rfl) ?_
     refine z2X ?_
     have ⟨b58, hb58, p4⟩ := bE p4
     refine w8 ((zC (lq rfl) rfl).bool (oi hb58)) ?_
     refine q46 (.d (zR eGroup a0.Groups)) ?_
     refine q46 (.d (di v7)) ?_
     have ⟨t61, ht61, p4⟩ := bE p4
     refine daf (.ip (eGroup.all a0.Groups) (v7.toNat * eGroup.size)) rfl (fun hb => by subst hb; exact kJ (en := eGroup) (lq rfl) S30 rfl rfl ht61) ?_
     refine q79 (.ip (eGroup.all a0.Groups) (v7.toNat * eGroup.size + 2)) zNA ?_
     refine daf (.d (di t61.Hi)) rfl (fun hb => by subst hb; exact z0 (en := eGroup) (l := a0.Groups) (i := v7) (v := t61) (off := 2) (lq rfl) O3 rfl ht61 rfl) ?_
     refine q46 (.d (zR eGroup a0.Groups)) ?_
     refine q46 (.d (di v7)) ?_
     have ⟨t66, ht66, p4⟩ := bE p4
     refine daf (.ip (eGroup.all a0.Groups) (v7.toNat * eGroup.size)) rfl (fun hb => by subst hb; exact kJ (en := eGroup) (lq rfl) S30 rfl rfl ht66) ?_
     refine q79 (.ip (eGroup.all a0.Groups) (v7.toNat * eGroup.size + 1)) zM9 ?_
     refine daf (.d (di t66.Lo)) rfl (fun hb => by subst hb; exact z0 (en := eGroup) (l := a0.Groups) (i := v7) (v := t66) (off := 1) (lq rfl) O3 rfl ht66 rfl) ?_
     refine daf (.d (db (decide (t61.Hi < t66.Lo)))) rfl (fun hb => by subst hb; exact zLP (lq rfl) rfl rfl) ?_
     refine q95 ?_
     have ⟨b71, hb71, p4⟩ := bE p4
     refine w8 ((zC (lq rfl) rfl).bool (oi hb71)) ?_
     refine q46 (.d (zR eGroup a0.Groups)) ?_
     refine q46 (.d (di v7)) ?_
     have ⟨t74, ht74, p4⟩ := bE p4
     refine daf (.ip (eGroup.all a0.Groups) (v7.toNat * eGroup.size)) rfl (fun hb => by subst hb; exact kJ (en := eGroup) (lq rfl) S30 rfl rfl ht74) ?_
     refine q79 (.ip (eGroup.all a0.Groups) (v7.toNat * eGroup.size + 2)) zNA ?_
     refine daf (.d (di t74.Hi)) rfl (fun hb => by subst hb; exact z0 (en := eGroup) (l := a0.Groups) (i := v7) (v := t74) (off := 2) (lq rfl) O3 rfl ht74 rfl) ?_
     refine daf (.ip (eCollation.cells a0) (0 + 2)) rfl (fun hb => by subst hb; exact wD (lq rfl) zKT rfl) ?_
     refine daf (.d (di a0.Base)) rfl (fun hb => by subst hb; exact xU (lq rfl) O3 rfl rfl) ?_
     refine daf (.d (db (decide (a0.Base ≤ t74.Hi)))) rfl (fun hb => by subst hb; exact zI3 (lq rfl) rfl rfl) ?_
     refine q95 ?_
     refine wB ?_
     refine z6 p4 (fun p4 => ?_) (fun p4 => ?_)
     ·
      refine Q16 ?_
      cases p4
      intro q; cases q
      exact ⟨rfl, wc⟩
     ·
      refine Q24 ?_
      cases p4
      exact wc
    ·
     refine zG ?_
     cases p4
     intro q; cases q
     exact ⟨rfl, wc⟩
   ·
    rintro y4 rfl
    replace h := eL h
    refine Q31 ?_
    have ⟨y5, hy5, h⟩ := bE h
    refine zN y5 (.exit 8) (fun y5 => ⟨[], []⟩) .ret (fun y5 => ⟨[(2, .d (di y5))], []⟩) ?_ ?_ ?_
    ·
     refine zD (fun x => ⟨[(3, .d (zR eGroup a0.Groups)), (8, .d (di x))], []⟩) hy5 (wc) ?_
     rintro v8 sy5 p5
     replace p5 : vI a0 v8 = some sy5 := p5
     unfold vI at p5
     refine Q10 ?_
     refine q5 S30 ?_
     refine Q6 ?_
     refine z6 p5 (fun p5 => ?_) (fun p5 => ?_)
     ·
      refine Q61 ?_
      refine z2 MX rfl ?_
      refine Q23 ?_
      have ⟨t89, ht89, p5⟩ := bE p5
      refine q21 S30 ht89 ?_
      refine q45 zM9 ?_
      refine w8 (z0 (en := eGroup) (l := a0.Groups) (i := v8) (v := t89) (off := 1) (lq rfl) O3 rfl ht89 rfl) ?_
      refine Q23 ?_
      refine q92 ?_
      have ⟨t95, ht95, p5⟩ := bE p5
      refine q21 S30 ht95 ?_
      refine q45 zNA ?_
      refine w8 (z0 (en := eGroup) (l := a0.Groups) (i := (wi (v8 - 1))) (v := t95) (off := 2) (lq rfl) O3 rfl ht95 rfl) ?_
      refine z6C ?_
      refine w8 (zNV (lq rfl) rfl rfl) ?_
      refine wB ?_
      refine z6 p5 (fun p5 => ?_) (fun p5 => ?_)
      ·
       refine Q16 ?_
       cases p5
       intro q; cases q
       exact ⟨rfl, wc⟩
      ·
       refine Q24 ?_
       cases p5
       exact wc
     ·
      refine zG ?_
      cases p5
      intro q; cases q
      exact ⟨rfl, wc⟩
    ·
     rintro y5 rfl
     replace h := eL h
     refine Q3 ?_
     cases h
     refine zB ?_
     exact zH rfl
    ·
     rintro y5 rfl
     replace h := eR h
     cases h
     exact zH rfl
   ·
    rintro y4 rfl
    replace h := eR h
    cases h
    exact zH rfl
  ·
   rintro y2 rfl
   replace h := eR h
   cases h
   exact zH rfl
 ·
  rintro y1 rfl
  replace h := eR h
  cases h
  exact zH rfl
theorem vS {a0 r} (h : wX a0 = some r) : zF Tryz.prog 58 [(di a0)] [(db r)] := by
 refine co Tryz.func58 ?_; intro _ _ _ _
 unfold wX at h
 refine Q57 ?_
 refine q37 ?_
 have ⟨b5, hb5, h⟩ := bE h
 refine yH ((zC (lq rfl) rfl).bool (oi hb5)) ?_
 refine q12 (.d (di a0)) ?_
 refine q54 (.d (db (decide (a0 ≤ 1114111)))) ?_
 refine Q43 ?_
 cases h
 refine zB ?_
 exact zH rfl
theorem zF8 {a0 r} (h : zCG a0 = some r) : zF Tryz.prog 98 [(di a0)] [(db r)] := by
 refine co Tryz.func98 ?_; intro _ _ _ _
 unfold zCG at h
 refine Q57 ?_
 refine q37 ?_
 have ⟨b5, hb5, h⟩ := bE h
 refine yH ((zC (lq rfl) rfl).bool (oi hb5)) ?_
 refine q12 (.d (di a0)) ?_
 refine q54 (.d (db (decide (a0 ≤ 65535)))) ?_
 refine Q43 ?_
 cases h
 refine zB ?_
 exact zH rfl
theorem zRE {a0 r} (h : zEW a0 = some r) : zF Tryz.prog 70 [(eElement.dv a0)] [(di r)] := by
 refine co Tryz.func70 ?_; intro _ _ _ _
 unfold zEW at h
 refine Q0 ?_
 refine yH (zLX (size := 4) (lq rfl) rfl rfl) ?_
 refine Q59 ?_
 refine q7 zN1 ?_
 refine q8 O3 ?_
 have ⟨t5, ht5, h⟩ := bE h
 refine q6 (zF8 ht5) ?_
 refine q28 ?_
 have ⟨b7, hb7, h⟩ := bE h
 refine yH ((zC (lq rfl) rfl).bool (oi hb7)) ?_
 refine q29 (.ip (eElement.cells a0) (0 + 1)) zSS ?_
 refine q30 (.d (di a0.Secondary)) O3 ?_
 have ⟨t10, ht10, h⟩ := bE h
 refine sqf (.d (db t10)) rfl (fun hb => by subst hb; exact wA (lq rfl) rfl (zF8 ht10)) ?_
 refine z2R (.d (db (!t10))) ?_
 refine q19 ?_
 have ⟨b13, hb13, h⟩ := bE h
 refine yH ((zC (lq rfl) rfl).bool (oi hb13)) ?_
 refine q29 (.ip (eElement.cells a0) (0 + 2)) zST ?_
 refine q30 (.d (di a0.Tertiary)) O3 ?_
 have ⟨t16, ht16, h⟩ := bE h
 refine sqf (.d (db t16)) rfl (fun hb => by subst hb; exact wA (lq rfl) rfl (zF8 ht16)) ?_
 refine z2R (.d (db (!t16))) ?_
 refine Q50 ?_
 refine z6 h (fun h => ?_) (fun h => ?_)
 ·
  refine Q3 ?_
  cases h
  refine zB ?_
  exact zH rfl
 ·
  refine Q79 ?_
  refine q7 zN1 ?_
  refine q8 O3 ?_
  refine q33 ?_
  have ⟨b22, hb22, h⟩ := bE h
  refine yH ((zC (lq rfl) rfl).bool (oi hb22)) ?_
  refine q59 (.ip (eElement.cells a0) (0 + 1)) zSS ?_
  refine q63 (.d (di a0.Secondary)) O3 ?_
  refine zYX (.d (db (decide (a0.Secondary = 0)))) ?_
  have ⟨b26, hb26, h⟩ := bE h
  refine sqt (.d (db b26)) rfl (fun hb => by subst hb; exact (zC (lq rfl) rfl).bool (oi hb26)) ?_
  refine jW (x := .ip (eElement.cells a0) (0 + 2)) rfl rfl rfl (lq rfl) (lq rfl) rfl (fun hb => by obtain ⟨hb, hb1⟩ := zM hb; obtain rfl : b22 = true := hb; obtain rfl := gF hb1; exact wD (lq rfl) zST rfl) ?_
  refine jW (x := .d (di a0.Tertiary)) rfl rfl rfl (lq rfl) (lq rfl) rfl (fun hb => by obtain ⟨hb, hb1⟩ := zM hb; obtain rfl : b22 = true := hb; obtain rfl := gF hb1; exact xU (lq rfl) O3 rfl rfl) ?_
  refine jW (x := .d (db (decide (a0.Tertiary = 0)))) rfl rfl rfl (lq rfl) (lq rfl) rfl (fun hb => by obtain ⟨hb, hb1⟩ := zM hb; obtain rfl : b22 = true := hb; obtain rfl := gF hb1; exact zIH (lq rfl) rfl rfl) ?_
  refine z9O (.d (db (b26 || (decide (a0.Tertiary = 0))))) ?_
  refine q14 ?_
  have ⟨b32, hb32, h⟩ := bE h
  refine yH ((zC (lq rfl) rfl).bool (oi hb32)) ?_
  refine q29 (.ip (eElement.cells a0) (0 + 1)) zSS ?_
  refine q30 (.d (di a0.Secondary)) O3 ?_
  refine sqf (.d (db (!decide (a0.Secondary = 0)))) rfl (fun hb => by subst hb; exact zNV (lq rfl) rfl rfl) ?_
  have ⟨b36, hb36, h⟩ := bE h
  refine sqf (.d (db b36)) rfl (fun hb => by subst hb; exact (zC (lq rfl) rfl).bool (oi hb36)) ?_
  refine jW (x := .ip (eElement.cells a0) (0 + 2)) rfl rfl rfl (lq rfl) (lq rfl) rfl (fun hb => by obtain ⟨hb, hb1⟩ := zM hb; obtain rfl := gF hb; obtain rfl : b36 = true := hb1; exact wD (lq rfl) zST rfl) ?_
  refine jW (x := .d (di a0.Tertiary)) rfl rfl rfl (lq rfl) (lq rfl) rfl (fun hb => by obtain ⟨hb, hb1⟩ := zM hb; obtain rfl := gF hb; obtain rfl : b36 = true := hb1; exact xU (lq rfl) O3 rfl rfl) ?_
  refine jW (x := .d (db (decide (a0.Tertiary = 0)))) rfl rfl rfl (lq rfl) (lq rfl) rfl (fun hb => by obtain ⟨hb, hb1⟩ := zM hb; obtain rfl := gF hb; obtain rfl : b36 = true := hb1; exact zIH (lq rfl) rfl rfl) ?_
  refine q81 (.d (db (b36 && (decide (a0.Tertiary = 0))))) ?_
  refine q19 ?_
  have ⟨b42, hb42, h⟩ := bE h
  refine yH ((zC (lq rfl) rfl).bool (oi hb42)) ?_
  refine q29 (.ip (eElement.cells a0) (0 + 3)) yBV ?_
  refine q30 (.d (db a0.Variable)) O4 ?_
  have ⟨b45, hb45, h⟩ := bE h
  refine sqf (.d (db b45)) rfl (fun hb => by subst hb; exact (zC (lq rfl) rfl).bool (oi hb45)) ?_
  refine jW (x := .ip (eElement.cells a0) (0 + 0)) rfl rfl rfl (lq rfl) (lq rfl) rfl (fun hb => by obtain ⟨hb, hb1⟩ := zM hb; obtain rfl := gF hb; obtain rfl : b45 = true := hb1; exact wD (lq rfl) zN1 rfl) ?_
  refine jW (x := .d (di a0.Primary)) rfl rfl rfl (lq rfl) (lq rfl) rfl (fun hb => by obtain ⟨hb, hb1⟩ := zM hb; obtain rfl := gF hb; obtain rfl : b45 = true := hb1; exact xU (lq rfl) O3 rfl rfl) ?_
  refine jW (x := .d (db (decide (a0.Primary = 0)))) rfl rfl rfl (lq rfl) (lq rfl) rfl (fun hb => by obtain ⟨hb, hb1⟩ := zM hb; obtain rfl := gF hb; obtain rfl : b45 = true := hb1; exact zIH (lq rfl) rfl rfl) ?_
  refine q81 (.d (db (b45 && (decide (a0.Primary = 0))))) ?_
  refine Q50 ?_
  refine z6 h (fun h => ?_) (fun h => ?_)
  ·
   refine Q3 ?_
   cases h
   refine zB ?_
   exact zH rfl
  ·
   refine Q58 ?_
   cases h
   refine zB ?_
   exact zH rfl
theorem zRF {a0 a1 r} (h : zEX a0 a1 = some r) : zF Tryz.prog 43 [(eCollation.dv a0), (di a1)] [(di r)] := by
 refine co Tryz.func43 ?_; intro _ _ _ _
 unfold zEX at h
 refine Q71 ?_
 refine Q47 ?_
 refine Q90 ?_
 refine q0 ?_
 have ⟨t13, ht13, h⟩ := bE h
 refine q13 S29 ht13 ?_
 refine yH (xE (en := eEntry) (l := a0.Entries) (i := a1) (v := t13) (off := 0) (lq rfl) G45 rfl ht13 rfl rfl (by decide)) ?_
 refine yW rfl (kO (zs := [(.slice none 0 0), (.slice none 0 0)]) (lq rfl) (by kernel_rfl) rfl rfl) ?_
 refine q17 G45 ?_
 refine zJ ?_
 refine zQ (zW (t := 5) (lq rfl) rfl rfl rfl) ?_
 refine Q32 ?_
 refine q7 zF5 ?_
 refine q8 O33 ?_
 refine q5 yF ?_
 refine q3 ?_
 have ⟨b19, hb19, h⟩ := bE h
 refine yH ((zC (lq rfl) rfl).bool (oi hb19)) ?_
 refine q29 (.ip (eEntry.cells t13) (0 + 0)) zF5 ?_
 refine q30 (.d (zR eI t13.Codes)) O33 ?_
 refine q88 (.d (di (t13.Codes.length : Int))) yF ?_
 refine q58 (.d (db (decide (8 < (t13.Codes.length : Int))))) ?_
 refine q19 ?_
 have ⟨b25, hb25, h⟩ := bE h
 refine yH ((zC (lq rfl) rfl).bool (oi hb25)) ?_
 refine q29 (.ip (eEntry.cells t13) (0 + 1)) zJJ ?_
 refine q30 (.d (zR eElement t13.Elements)) O38 ?_
 refine q88 (.d (di (t13.Elements.length : Int))) S38 ?_
 refine q58 (.d (db (decide (16 < (t13.Elements.length : Int))))) ?_
 refine Q50 ?_
 refine z6 h (fun h => ?_) (fun h => ?_)
 ·
  refine Q3 ?_
  cases h
  refine zB ?_
  exact zH rfl
 ·
  refine Q98 ?_
  have ⟨y1, hy1, h⟩ := bE h
  refine zN y1 (.exit 0) (fun y1 => ⟨[(1, .d (di a1)), (2, .d (.pt (eCollation.cells a0))), (5, .d (.pt (eEntry.cells t13)))], []⟩) .ret (fun y1 => ⟨[(4, .d (di y1))], []⟩) ?_ ?_ ?_
  ·
   refine zD (fun x => ⟨[(1, .d (di a1)), (2, .d (.pt (eCollation.cells a0))), (5, .d (.pt (eEntry.cells t13))), (6, .d (di x))], []⟩) hy1 (wc) ?_
   rintro v6 sy1 p1
   replace p1 : zDM t13 v6 = some sy1 := p1
   unfold zDM at p1
   refine Q4 ?_
   refine q7 zF5 ?_
   refine q8 O33 ?_
   refine Q82 ?_
   refine z6 p1 (fun p1 => ?_) (fun p1 => ?_)
   ·
    refine Q30 ?_
    refine q7 zF5 ?_
    refine q8 O33 ?_
    refine q0 ?_
    have ⟨t41, ht41, p1⟩ := bE p1
    refine q13 yF ht41 ?_
    refine q35 O3 ht41 ?_
    have ⟨t43, ht43, p1⟩ := bE p1
    refine q6 (vS ht43) ?_
    refine Q38 ?_
    refine z6 p1 (fun p1 => ?_) (fun p1 => ?_)
    ·
     refine Q16 ?_
     cases p1
     intro q; cases q
     exact ⟨rfl, wc⟩
    ·
     refine Q24 ?_
     cases p1
     exact wc
   ·
    refine zG ?_
    cases p1
    intro q; cases q
    exact ⟨rfl, wc⟩
  ·
   rintro y1 rfl
   replace h := eL h
   refine Q31 ?_
   have ⟨y2, hy2, h⟩ := bE h
   refine zN y2 (.exit 2) (fun y2 => ⟨[(1, .d (di a1)), (2, .d (.pt (eCollation.cells a0))), (5, .d (.pt (eEntry.cells t13)))], []⟩) .ret (fun y2 => ⟨[(4, .d (di y2))], []⟩) ?_ ?_ ?_
   ·
    refine zD (fun x => ⟨[(1, .d (di a1)), (2, .d (.pt (eCollation.cells a0))), (5, .d (.pt (eEntry.cells t13))), (7, .d (di x))], []⟩) hy2 (wc) ?_
    rintro v7 sy2 p2
    replace p2 : zAU t13 v7 = some sy2 := p2
    unfold zAU at p2
    refine Q4 ?_
    refine q7 zJJ ?_
    refine q8 O38 ?_
    refine q5 S38 ?_
    refine Q6 ?_
    refine z6 p2 (fun p2 => ?_) (fun p2 => ?_)
    ·
     refine Q30 ?_
     refine q7 zJJ ?_
     refine q8 O38 ?_
     refine q0 ?_
     have ⟨t55, ht55, p2⟩ := bE p2
     refine q13 S38 ht55 ?_
     refine yH (xE (en := eElement) (l := t13.Elements) (i := v7) (v := t55) (off := 0) (lq rfl) G63 rfl ht55 rfl rfl (by decide)) ?_
     have ⟨t57, ht57, p2⟩ := bE p2
     refine q6 (zRE ht57) ?_
     refine Q72 ?_
     refine z6 p2 (fun p2 => ?_) (fun p2 => ?_)
     ·
      refine Q35 ?_
      refine zB ?_
      cases p2
      intro q; cases q
      exact ⟨rfl, wc⟩
     ·
      refine Q24 ?_
      cases p2
      exact wc
    ·
     refine zG ?_
     cases p2
     intro q; cases q
     exact ⟨rfl, wc⟩
   ·
    rintro y2 rfl
    replace h := eL h
    refine Q31 ?_
    have ⟨y3, hy3, h⟩ := bE h
    refine zN y3 (.exit 4) (fun y3 => ⟨[(1, .d (di a1)), (2, .d (.pt (eCollation.cells a0))), (5, .d (.pt (eEntry.cells t13)))], []⟩) .ret (fun y3 => ⟨[(4, .d (di y3))], []⟩) ?_ ?_ ?_
    ·
     refine zD (fun x => ⟨[(1, .d (di a1)), (2, .d (.pt (eCollation.cells a0))), (5, .d (.pt (eEntry.cells t13))), (9, .d (di x))], []⟩) hy3 (wc) ?_
     rintro v9 sy3 p3
     replace p3 : zDN t13 a0 v9 = some sy3 := p3
     unfold zDN at p3
     refine Q4 ?_
     refine q7 zJJ ?_
     refine q8 O38 ?_
     refine q5 S38 ?_
     refine Q6 ?_
     refine z6 p3 (fun p3 => ?_) (fun p3 => ?_)
     ·
      refine Q61 ?_
      refine z2 MX rfl ?_
      refine q23 zJJ ?_
      refine q27 O38 ?_
      refine q4 ?_
      have ⟨t71, ht71, p3⟩ := bE p3
      refine q21 S38 ht71 ?_
      refine q45 zN1 ?_
      refine w8 (z0 (en := eElement) (l := t13.Elements) (i := v9) (v := t71) (off := 0) (lq rfl) O3 rfl ht71 rfl) ?_
      refine q23 zKT ?_
      refine q27 O3 ?_
      refine w8 (zI3 (lq rfl) rfl rfl) ?_
      refine wB ?_
      refine z6 p3 (fun p3 => ?_) (fun p3 => ?_)
      ·
       refine Q16 ?_
       cases p3
       intro q; cases q
       exact ⟨rfl, wc⟩
      ·
       refine Q24 ?_
       cases p3
       exact wc
     ·
      refine zG ?_
      cases p3
      intro q; cases q
      exact ⟨rfl, wc⟩
    ·
     rintro y3 rfl
     replace h := eL h
     refine kP <| kP ?_
     refine z2 MX rfl ?_
     refine q4 ?_
     refine zYW ?_
     have ⟨b79, hb79, h⟩ := bE h
     refine w8 ((zC (lq rfl) rfl).bool (oi hb79)) ?_
     refine q51 (.ip (eCollation.cells a0) (0 + 0)) zWL ?_
     refine q70 (.d (zR eEntry a0.Entries)) O29 ?_
     refine q49 (.d (di a1)) ?_
     refine z2Q (.d (di (wi (a1 - 1)))) ?_
     have ⟨t84, ht84, h⟩ := bE h
     refine dat (.ip (eEntry.all a0.Entries) ((wi (a1 - 1)).toNat * eEntry.size)) rfl (fun hb => by subst hb; exact kJ (en := eEntry) (lq rfl) S29 rfl rfl ht84) ?_
     refine q90 (.ip (eEntry.all a0.Entries) ((wi (a1 - 1)).toNat * eEntry.size + 0)) zF5 ?_
     refine dat (.d (zR eI t84.Codes)) rfl (fun hb => by subst hb; exact z0 (en := eEntry) (l := a0.Entries) (i := (wi (a1 - 1))) (v := t84) (off := 0) (lq rfl) O33 rfl ht84 rfl) ?_
     refine q51 (.ip (eEntry.cells t13) (0 + 0)) zF5 ?_
     refine q70 (.d (zR eI t13.Codes)) O33 ?_
     have ⟨t89, ht89, h⟩ := bE h
     refine dat (.d (di t89)) rfl (fun hb => by subst hb; exact wA (lq rfl) rfl (zIR ht89)) ?_
     refine dat (.d (db (decide (0 ≤ t89)))) rfl (fun hb => by subst hb; exact zI3 (lq rfl) rfl rfl) ?_
     refine Q91 ?_
     refine z6 h (fun h => ?_) (fun h => ?_)
     ·
      refine Q3 ?_
      cases h
      refine zB ?_
      exact zH rfl
     ·
      refine Q58 ?_
      cases h
      refine zB ?_
      exact zH rfl
    ·
     rintro y3 rfl
     replace h := eR h
     cases h
     exact zH rfl
   ·
    rintro y2 rfl
    replace h := eR h
    cases h
    exact zH rfl
  ·
   rintro y1 rfl
   replace h := eR h
   cases h
   exact zH rfl
theorem zRG {a0 r} (h : zEY a0 = some r) : zF Tryz.prog 18 [(eCollation.dv a0)] [(di r)] := by
 refine co Tryz.func18 ?_; intro _ _ _ _
 unfold zEY at h
 refine Q71 ?_
 refine Q59 ?_
 refine q7 zKT ?_
 refine q8 O3 ?_
 refine q3 ?_
 have ⟨b9, hb9, h⟩ := bE h
 refine yH ((zC (lq rfl) rfl).bool (oi hb9)) ?_
 refine q29 (.ip (eCollation.cells a0) (0 + 2)) zKT ?_
 refine q30 (.d (di a0.Base)) O3 ?_
 refine q58 (.d (db (decide (65502 < a0.Base)))) ?_
 refine q19 ?_
 have ⟨b14, hb14, h⟩ := bE h
 refine yH ((zC (lq rfl) rfl).bool (oi hb14)) ?_
 refine q29 (.ip (eCollation.cells a0) (0 + 3)) z0E ?_
 refine q30 (.d (di a0.Second)) O3 ?_
 have ⟨t17, ht17, h⟩ := bE h
 refine sqf (.d (db t17)) rfl (fun hb => by subst hb; exact wA (lq rfl) rfl (zJN ht17)) ?_
 refine z2R (.d (db (!t17))) ?_
 refine q19 ?_
 have ⟨b20, hb20, h⟩ := bE h
 refine yH ((zC (lq rfl) rfl).bool (oi hb20)) ?_
 refine q29 (.ip (eCollation.cells a0) (0 + 4)) z0F ?_
 refine q30 (.d (di a0.Third)) O3 ?_
 have ⟨t23, ht23, h⟩ := bE h
 refine sqf (.d (db t23)) rfl (fun hb => by subst hb; exact wA (lq rfl) rfl (zJN ht23)) ?_
 refine z2R (.d (db (!t23))) ?_
 refine Q50 ?_
 refine z6 h (fun h => ?_) (fun h => ?_)
 ·
  refine Q3 ?_
  cases h
  refine zB ?_
  exact zH rfl
 ·
  refine Q79 ?_
  refine q20 G32 ?_
  have ⟨t27, ht27, h⟩ := bE h
  refine q6 (zQA ht27) ?_
  refine Q72 ?_
  refine z6 h (fun h => ?_) (fun h => ?_)
  ·
   refine Q35 ?_
   cases h
   refine zB ?_
   exact zH rfl
  ·
   refine Q98 ?_
   have ⟨y1, hy1, h⟩ := bE h
   refine zN y1 (.exit 0) (fun y1 => ⟨[], []⟩) .ret (fun y1 => ⟨[(2, .d (di y1))], []⟩) ?_ ?_ ?_
   ·
    refine zD (fun x => ⟨[(1, .d (.pt (eCollation.cells a0))), (4, .d (di x))], []⟩) hy1 (wc) ?_
    rintro v4 sy1 p1
    replace p1 : zAV a0 v4 = some sy1 := p1
    unfold zAV at p1
    refine Q4 ?_
    refine Q90 ?_
    refine q5 S29 ?_
    refine Q6 ?_
    refine z6 p1 (fun p1 => ?_) (fun p1 => ?_)
    ·
     refine Q30 ?_
     refine q20 G32 ?_
     refine q0 ?_
     have ⟨t40, ht40, p1⟩ := bE p1
     refine q6 (zRF ht40) ?_
     refine Q72 ?_
     refine z6 p1 (fun p1 => ?_) (fun p1 => ?_)
     ·
      refine Q35 ?_
      refine zB ?_
      cases p1
      intro q; cases q
      exact ⟨rfl, wc⟩
     ·
      refine Q24 ?_
      cases p1
      exact wc
    ·
     refine zG ?_
     cases p1
     intro q; cases q
     exact ⟨rfl, wc⟩
   ·
    rintro y1 rfl
    replace h := eL h
    refine Q3 ?_
    cases h
    refine zB ?_
    exact zH rfl
   ·
    rintro y1 rfl
    replace h := eR h
    cases h
    exact zH rfl
theorem zS {a0 r} (h : zD5 a0 = some r) : zF Tryz.prog 13 [(eCollation.dv a0)] [(eCollation.dv r)] := by
 refine co Tryz.func13 ?_; intro _ _ _ _
 unfold zD5 at h
 refine Q71 ?_
 refine yDI ?_
 refine zJ <| Q32 ?_
 refine q20 G32 ?_
 have ⟨t4, ht4, h⟩ := bE h
 refine q6 (zRG ht4) ?_
 refine Q40 ?_
 refine z6 h (fun h => ?_) (fun h => ?_)
 ·
  refine Q0 ?_
  refine yH ((zDF (lq rfl) B32 rfl rfl).nils (bs := eCollation.cells ({ Entries := [], Groups := [], Base := 64448, Second := 32, Third := 2 } : Collation)) (nlN (nlN (nlE (nlE (nlE nl0)))))) ?_
  refine z6I ?_
  cases h
  refine zB ?_
  exact vT rfl rfl G32 rfl
 ·
  refine Q48 ?_
  refine q20 G32 ?_
  refine z6I ?_
  cases h
  refine zB ?_
  exact vT rfl rfl G32 rfl
theorem zQB {r} (h : zFI  = some r) : zF Tryz.prog 87 [] [(zR eRange r)] := by
 refine co Tryz.func87 ?_; intro _ _ _ _
 unfold zFI at h
 refine Q3 ?_
 refine Q0 ?_
 refine q56 zWI ?_
 refine q56 zWI ?_
 refine q56 zWI ?_
 refine q56 zWI ?_
 refine q38 S24 ?_
 refine Q1 ?_
 cases h
 refine zB ?_
 exact zH rfl
end Go.Proofs.YtgeaoceiacdadaaGreatDoor.Walk


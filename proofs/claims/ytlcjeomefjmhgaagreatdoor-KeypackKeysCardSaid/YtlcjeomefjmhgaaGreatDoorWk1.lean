/- Each function of the program answers as its plain counterpart does, where that answers. Conditions: none. -/
import Derived.Test.YtlcjeomefjmhgaaGreatDoorMir
import Derived.Test.YtlcjeomefjmhgaaGreatDoorLa3
import Derived.Test.YtlcjeomefjmhgaaGreatDoorProg
set_option linter.unusedSimpArgs false
set_option linter.unusedVariables false
set_option linter.unnecessarySimpa false
namespace Go.Proofs.YtlcjeomefjmhgaaGreatDoor.Walk
open Go.AV Go.M Go.RowKit Go.Proofs
theorem zLJ:ArTy Tryz.prog 101 4 1 3 [(.int IntKind.i64 (0)),(.int IntKind.i64 (0)),(.int IntKind.i64 (0)),(.int IntKind.i64 (0))]:=ArTy.of Tryz.underlying101 (by kernel_rfl) (by decide) (by kernel_rfl) rfl
theorem yG9:ArTy Tryz.prog 133 9 1 3 [(.int IntKind.i64 (0)),(.int IntKind.i64 (0)),(.int IntKind.i64 (0)),(.int IntKind.i64 (0)),(.int IntKind.i64 (0)),(.int IntKind.i64 (0)),(.int IntKind.i64 (0)),(.int IntKind.i64 (0)),(.int IntKind.i64 (0))]:=ArTy.of Tryz.underlying133 (by kernel_rfl) (by decide) (by kernel_rfl) rfl
theorem zQN:ArTy Tryz.prog 173 3 1 3 [(.int IntKind.i64 (0)),(.int IntKind.i64 (0)),(.int IntKind.i64 (0))]:=ArTy.of Tryz.underlying173 (by kernel_rfl) (by decide) (by kernel_rfl) rfl
theorem yPP:ArTy Tryz.prog 207 4 2 184 [(.int IntKind.i64 (0)),(.int IntKind.i64 (0)),(.int IntKind.i64 (0)),(.int IntKind.i64 (0)),(.int IntKind.i64 (0)),(.int IntKind.i64 (0)),(.int IntKind.i64 (0)),(.int IntKind.i64 (0))]:=ArTy.of Tryz.underlying207 (by kernel_rfl) (by decide) (by kernel_rfl) rfl
theorem A96:ArTy Tryz.prog 96 4 1 37 [(.slice none 0 0),(.slice none 0 0),(.slice none 0 0),(.slice none 0 0)]:=ArTy.of Tryz.underlying96 (by kernel_rfl) (by decide) (by kernel_rfl) rfl
theorem yHA:StTy Tryz.prog 100 [(0,1),(1,1),(2,1),(3,1)] [(.int IntKind.i64 (0)),(.int IntKind.i64 (0)),(.int IntKind.i64 (0)),(.bool false)]:=fx Tryz.underlying100
theorem yPQ:StTy Tryz.prog 131 [(0,5),(5,1),(6,1),(7,1),(8,1)] [(.slice none 0 0),(.slice none 0 0),(.int IntKind.i64 (0)),(.int IntKind.i64 (0)),(.int IntKind.i64 (0)),(.map none),(.int IntKind.i64 (0)),(.slice none 0 0),(.int IntKind.i64 (0))]:=fx Tryz.underlying131
theorem z1U:StTy Tryz.prog 184 [(0,1),(1,1)] [(.int IntKind.i64 (0)),(.int IntKind.i64 (0))]:=fx Tryz.underlying184
theorem yPR:StTy Tryz.prog 195 [(0,1),(1,1)] [(.int IntKind.i64 (0)),(.string ⟨#[]⟩)]:=fx Tryz.underlying195
theorem B26:StTy Tryz.prog 26 [(0,1)] [(.slice none 0 0)]:=fx Tryz.underlying26
theorem B28:StTy Tryz.prog 28 [(0,1),(1,1),(2,1)] [(.slice none 0 0),(.slice none 0 0),(.slice none 0 0)]:=fx Tryz.underlying28
theorem B32:StTy Tryz.prog 32 [(0,1),(1,1),(2,1),(3,1),(4,1)] [(.slice none 0 0),(.slice none 0 0),(.int IntKind.i64 (0)),(.int IntKind.i64 (0)),(.int IntKind.i64 (0))]:=fx Tryz.underlying32
theorem B34:StTy Tryz.prog 34 [(0,1),(1,1),(2,1),(3,1)] [(.int IntKind.i64 (0)),(.int IntKind.i64 (0)),(.bool false),(.bool false)]:=fx Tryz.underlying34
theorem zTY:AggTy Tryz.prog 100 4:=fx Tryz.underlying100
theorem zQO:AggTy Tryz.prog 101 4:=fx Tryz.underlying101
theorem yHB:AggTy Tryz.prog 133 9:=fx Tryz.underlying133
theorem vF:AggTy Tryz.prog 137 3:=fx Tryz.underlying137
theorem z1V:AggTy Tryz.prog 173 3:=fx Tryz.underlying173
theorem zA9:AggTy Tryz.prog 184 2:=fx Tryz.underlying184
theorem yN4:AggTy Tryz.prog 195 2:=fx Tryz.underlying195
theorem yPT:AggTy Tryz.prog 207 8:=fx Tryz.underlying207
theorem G26:AggTy Tryz.prog 26 1:=fx Tryz.underlying26
theorem G28:AggTy Tryz.prog 28 3:=fx Tryz.underlying28
theorem G32:AggTy Tryz.prog 32 5:=fx Tryz.underlying32
theorem G34:AggTy Tryz.prog 34 4:=fx Tryz.underlying34
theorem G36:AggTy Tryz.prog 36 12:=fx Tryz.underlying36
theorem G72:AggTy Tryz.prog 72 3:=fx Tryz.underlying72
theorem G82:AggTy Tryz.prog 82 2:=fx Tryz.underlying82
theorem G85:AggTy Tryz.prog 85 3:=fx Tryz.underlying85
theorem K3:KeyTy Tryz.prog 3 kI:=yLF Tryz.underlying3
theorem K9:KeyTy Tryz.prog 9 kS:=yLG Tryz.underlying9
theorem zT0:FldTy Tryz.prog 100 0 0 1 3:=fx Tryz.underlying100
theorem zKS:FldTy Tryz.prog 100 1 1 1 3:=fx Tryz.underlying100
theorem zKT:FldTy Tryz.prog 100 2 2 1 3:=fx Tryz.underlying100
theorem zQP:FldTy Tryz.prog 100 3 3 1 4:=fx Tryz.underlying100
theorem z4P:FldTy Tryz.prog 131 0 0 5 32:=fx Tryz.underlying131
theorem yCR:FldTy Tryz.prog 131 1 5 1 129:=fx Tryz.underlying131
theorem zYS:FldTy Tryz.prog 131 2 6 1 3:=fx Tryz.underlying131
theorem zN2:FldTy Tryz.prog 131 3 7 1 22:=fx Tryz.underlying131
theorem z4Q:FldTy Tryz.prog 131 4 8 1 3:=fx Tryz.underlying131
theorem zF8:FldTy Tryz.prog 137 0 0 1 3:=fx Tryz.underlying137
theorem zF9:FldTy Tryz.prog 137 1 1 1 3:=fx Tryz.underlying137
theorem zHH:FldTy Tryz.prog 137 2 2 1 3:=fx Tryz.underlying137
theorem zJN:FldTy Tryz.prog 184 0 0 1 3:=fx Tryz.underlying184
theorem zFD:FldTy Tryz.prog 184 1 1 1 3:=fx Tryz.underlying184
theorem zI8:FldTy Tryz.prog 26 0 0 1 24:=fx Tryz.underlying26
theorem zAL:FldTy Tryz.prog 28 0 0 1 22:=fx Tryz.underlying28
theorem zRI:FldTy Tryz.prog 28 1 1 1 23:=fx Tryz.underlying28
theorem yCS:FldTy Tryz.prog 28 2 2 1 26:=fx Tryz.underlying28
theorem z1X:FldTy Tryz.prog 32 0 0 1 29:=fx Tryz.underlying32
theorem yCT:FldTy Tryz.prog 32 1 1 1 30:=fx Tryz.underlying32
theorem zNQ:FldTy Tryz.prog 32 2 2 1 3:=fx Tryz.underlying32
theorem zW8:FldTy Tryz.prog 32 3 3 1 3:=fx Tryz.underlying32
theorem zW9:FldTy Tryz.prog 32 4 4 1 3:=fx Tryz.underlying32
theorem zXA:FldTy Tryz.prog 34 0 0 1 3:=fx Tryz.underlying34
theorem z1Y:FldTy Tryz.prog 34 1 1 1 3:=fx Tryz.underlying34
theorem yJ4:FldTy Tryz.prog 34 2 2 1 4:=fx Tryz.underlying34
theorem yJ5:FldTy Tryz.prog 34 3 3 1 4:=fx Tryz.underlying34
theorem zXB:FldTy Tryz.prog 36 0 0 3 28:=fx Tryz.underlying36
theorem zXC:FldTy Tryz.prog 36 1 3 5 32:=fx Tryz.underlying36
theorem z6T:FldTy Tryz.prog 36 2 8 4 34:=fx Tryz.underlying36
theorem zJZ:FldTy Tryz.prog 72 0 0 1 3:=fx Tryz.underlying72
theorem zG7:FldTy Tryz.prog 72 1 1 1 37:=fx Tryz.underlying72
theorem zEZ:FldTy Tryz.prog 72 2 2 1 9:=fx Tryz.underlying72
theorem zIJ:FldTy Tryz.prog 82 0 0 1 37:=fx Tryz.underlying82
theorem zMF:FldTy Tryz.prog 82 1 1 1 66:=fx Tryz.underlying82
theorem zT1:FldTy Tryz.prog 85 0 0 1 9:=fx Tryz.underlying85
theorem zXD:FldTy Tryz.prog 85 1 1 1 3:=fx Tryz.underlying85
theorem zXE:FldTy Tryz.prog 85 2 2 1 3:=fx Tryz.underlying85
theorem yN5:MapTy Tryz.prog 126 9 4 (.bool false):=MapTy.of Tryz.underlying126 (by kernel_rfl)
theorem yN6:MapTy Tryz.prog 129 133 66 (.slice none 0 0):=MapTy.of Tryz.underlying129 (by kernel_rfl)
theorem yN7:MapTy Tryz.prog 193 195 4 (.bool false):=MapTy.of Tryz.underlying193 (by kernel_rfl)
theorem yLU:MapTy Tryz.prog 209 3 3 (.int IntKind.i64 (0)):=MapTy.of Tryz.underlying209 (by kernel_rfl)
theorem M73:MapTy Tryz.prog 73 3 37 (.slice none 0 0):=MapTy.of Tryz.underlying73 (by kernel_rfl)
theorem yCU:OneTy Tryz.prog 102:=fx Tryz.underlying102
theorem yN8:OneTy Tryz.prog 129:=fx Tryz.underlying129
theorem yLV:OneTy Tryz.prog 138:=fx Tryz.underlying138
theorem yHC:OneTy Tryz.prog 209:=fx Tryz.underlying209
theorem O22:OneTy Tryz.prog 22:=fx Tryz.underlying22
theorem O23:OneTy Tryz.prog 23:=fx Tryz.underlying23
theorem O24:OneTy Tryz.prog 24:=fx Tryz.underlying24
theorem O29:OneTy Tryz.prog 29:=fx Tryz.underlying29
theorem O3:OneTy Tryz.prog 3:=fx Tryz.underlying3
theorem O30:OneTy Tryz.prog 30:=fx Tryz.underlying30
theorem O37:OneTy Tryz.prog 37:=fx Tryz.underlying37
theorem O4:OneTy Tryz.prog 4:=fx Tryz.underlying4
theorem O66:OneTy Tryz.prog 66:=fx Tryz.underlying66
theorem O73:OneTy Tryz.prog 73:=fx Tryz.underlying73
theorem O86:OneTy Tryz.prog 86:=fx Tryz.underlying86
theorem O9:OneTy Tryz.prog 9:=fx Tryz.underlying9
theorem z9N:SlTy Tryz.prog 107 101 4 32 (.agg #[(.int IntKind.i64 (0)),(.int IntKind.i64 (0)),(.int IntKind.i64 (0)),(.int IntKind.i64 (0))]):=fx Tryz.underlying107
theorem yHD:SlTy Tryz.prog 189 4 1 1 (.bool false):=fx Tryz.underlying189
theorem S22:SlTy Tryz.prog 22 137 3 24 (.agg #[(.int IntKind.i64 (0)),(.int IntKind.i64 (0)),(.int IntKind.i64 (0))]):=fx Tryz.underlying22
theorem S23:SlTy Tryz.prog 23 72 3 48 (.agg #[(.int IntKind.i64 (0)),(.slice none 0 0),(.string ⟨#[]⟩)]):=fx Tryz.underlying23
theorem S24:SlTy Tryz.prog 24 184 2 16 (.agg #[(.int IntKind.i64 (0)),(.int IntKind.i64 (0))]):=fx Tryz.underlying24
theorem S29:SlTy Tryz.prog 29 82 2 48 (.agg #[(.slice none 0 0),(.slice none 0 0)]):=fx Tryz.underlying29
theorem S30:SlTy Tryz.prog 30 85 3 32 (.agg #[(.string ⟨#[]⟩),(.int IntKind.i64 (0)),(.int IntKind.i64 (0))]):=fx Tryz.underlying30
theorem z3:SlTy Tryz.prog 37 3 1 8 (.int IntKind.i64 (0)):=fx Tryz.underlying37
theorem S64:SlTy Tryz.prog 64 37 1 24 (.slice none 0 0):=fx Tryz.underlying64
theorem S66:SlTy Tryz.prog 66 100 4 32 (.agg #[(.int IntKind.i64 (0)),(.int IntKind.i64 (0)),(.int IntKind.i64 (0)),(.bool false)]):=fx Tryz.underlying66
theorem S92:SlTy Tryz.prog 92 5 1 1 (.int IntKind.u8 (0)):=fx Tryz.underlying92
theorem Z0:zBO Tryz.prog 0=some [.int .i64 4352,.int .i64 4370,.int .i64 4449,.int .i64 4469,.int .i64 4520,.int .i64 4546,.int .i64 44032,.int .i64 55203]:=by kernel_rfl
theorem yPX:EqTy Tryz.prog 101 eA4Int:=EqTy.ofA (vals:=fun (x:A4Int)=>[.int IntKind.i64 x.x0,.int IntKind.i64 x.x1,.int IntKind.i64 x.x2,.int IntKind.i64 x.x3]) (cs:=fun (a b:A4Int)=>[decide (a.x0=b.x0),decide (a.x1=b.x1),decide (a.x2=b.x2),decide (a.x3=b.x3)]) zLJ O3 (by kernel_rfl) (fun _=>rfl) (fun a b w=>(Pw.cons ⟨_,_,rfl,rfl,Go.AV.run_equalIn_int Tryz.underlying3 _ _ _ _⟩ (Pw.cons ⟨_,_,rfl,rfl,Go.AV.run_equalIn_int Tryz.underlying3 _ _ _ _⟩ (Pw.cons ⟨_,_,rfl,rfl,Go.AV.run_equalIn_int Tryz.underlying3 _ _ _ _⟩ (Pw.cons ⟨_,_,rfl,rfl,Go.AV.run_equalIn_int Tryz.underlying3 _ _ _ _⟩ Pw.nil))))) (fun a b=>by cases a;cases b;simp)
theorem yPY:EqTy Tryz.prog 133 eA9Int:=EqTy.ofA (vals:=fun (x:A9Int)=>[.int IntKind.i64 x.x0,.int IntKind.i64 x.x1,.int IntKind.i64 x.x2,.int IntKind.i64 x.x3,.int IntKind.i64 x.x4,.int IntKind.i64 x.x5,.int IntKind.i64 x.x6,.int IntKind.i64 x.x7,.int IntKind.i64 x.x8]) (cs:=fun (a b:A9Int)=>[decide (a.x0=b.x0),decide (a.x1=b.x1),decide (a.x2=b.x2),decide (a.x3=b.x3),decide (a.x4=b.x4),decide (a.x5=b.x5),decide (a.x6=b.x6),decide (a.x7=b.x7),decide (a.x8=b.x8)]) yG9 O3 (by kernel_rfl) (fun _=>rfl) (fun a b w=>(Pw.cons ⟨_,_,rfl,rfl,Go.AV.run_equalIn_int Tryz.underlying3 _ _ _ _⟩ (Pw.cons ⟨_,_,rfl,rfl,Go.AV.run_equalIn_int Tryz.underlying3 _ _ _ _⟩ (Pw.cons ⟨_,_,rfl,rfl,Go.AV.run_equalIn_int Tryz.underlying3 _ _ _ _⟩ (Pw.cons ⟨_,_,rfl,rfl,Go.AV.run_equalIn_int Tryz.underlying3 _ _ _ _⟩ (Pw.cons ⟨_,_,rfl,rfl,Go.AV.run_equalIn_int Tryz.underlying3 _ _ _ _⟩ (Pw.cons ⟨_,_,rfl,rfl,Go.AV.run_equalIn_int Tryz.underlying3 _ _ _ _⟩ (Pw.cons ⟨_,_,rfl,rfl,Go.AV.run_equalIn_int Tryz.underlying3 _ _ _ _⟩ (Pw.cons ⟨_,_,rfl,rfl,Go.AV.run_equalIn_int Tryz.underlying3 _ _ _ _⟩ (Pw.cons ⟨_,_,rfl,rfl,Go.AV.run_equalIn_int Tryz.underlying3 _ _ _ _⟩ Pw.nil)))))))))) (fun a b=>by cases a;cases b;simp)
theorem yPZ:EqTy Tryz.prog 173 eA3Int:=EqTy.ofA (vals:=fun (x:A3Int)=>[.int IntKind.i64 x.x0,.int IntKind.i64 x.x1,.int IntKind.i64 x.x2]) (cs:=fun (a b:A3Int)=>[decide (a.x0=b.x0),decide (a.x1=b.x1),decide (a.x2=b.x2)]) zQN O3 (by kernel_rfl) (fun _=>rfl) (fun a b w=>(Pw.cons ⟨_,_,rfl,rfl,Go.AV.run_equalIn_int Tryz.underlying3 _ _ _ _⟩ (Pw.cons ⟨_,_,rfl,rfl,Go.AV.run_equalIn_int Tryz.underlying3 _ _ _ _⟩ (Pw.cons ⟨_,_,rfl,rfl,Go.AV.run_equalIn_int Tryz.underlying3 _ _ _ _⟩ Pw.nil)))) (fun a b=>by cases a;cases b;simp)
set_option maxRecDepth 10000 in
theorem yOA:EqTy Tryz.prog 184 eRange:=EqTy.of (vals:=fun (x:Range)=>[.int IntKind.i64 x.Lo,.int IntKind.i64 x.Hi]) (cs:=fun (a b:Range)=>[decide (a.Lo=b.Lo),decide (a.Hi=b.Hi)]) Tryz.underlying184 (by kernel_rfl) (by kernel_rfl) (fun _=>rfl) (fun a b w=>(zYI (d:=9998) rfl O3 (zYI (d:=9998) rfl O3 z6H Tryz.underlying3 rfl rfl) Tryz.underlying3 rfl rfl)) (fun a b=>by cases a;cases b;simp)
set_option maxRecDepth 10000 in
theorem yP0:EqTy Tryz.prog 195 eMapping_key:=EqTy.of (vals:=fun (x:Mapping_key)=>[.int IntKind.i64 x.from_,.string ⟨x.tag.toArray⟩]) (cs:=fun (a b:Mapping_key)=>[decide (a.from_=b.from_),decide (a.tag=b.tag)]) Tryz.underlying195 (by kernel_rfl) (by kernel_rfl) (fun _=>rfl) (fun a b w=>(zYI (d:=9998) rfl O3 (yGT (d:=9998) rfl O9 z6H Tryz.underlying9 rfl rfl) Tryz.underlying3 rfl rfl)) (fun a b=>by cases a;cases b;simp)
theorem yOB:KeyTy Tryz.prog 133 zFU:=yCE (vals:=fun (x:A9Int)=>[.int IntKind.i64 x.x0,.int IntKind.i64 x.x1,.int IntKind.i64 x.x2,.int IntKind.i64 x.x3,.int IntKind.i64 x.x4,.int IntKind.i64 x.x5,.int IntKind.i64 x.x6,.int IntKind.i64 x.x7,.int IntKind.i64 x.x8]) Tryz.underlying133 yPY (fun _=>rfl) (fun _=>rfl) (fun _=>rfl) (fun _=>by simp[Instr.sameBits,zTQ]) (fun a b w=>z9H yG9 O3 Tryz.underlying3 rfl rfl b w)
theorem yOC:KeyTy Tryz.prog 195 zHQ:=yCE (vals:=fun (x:Mapping_key)=>[.int IntKind.i64 x.from_,.string ⟨x.tag.toArray⟩]) Tryz.underlying195 yP0 (fun _=>rfl) (fun _=>rfl) (fun _=>rfl) (fun _=>by simp[Instr.sameBits,zTQ]) (fun a b w=>z4K Tryz.underlying195 (List.forall_mem_cons.2 ⟨⟨O3,⟨_,Tryz.underlying3,rfl⟩,lq rfl⟩,(List.forall_mem_cons.2 ⟨⟨O9,⟨_,Tryz.underlying9,rfl⟩,lq rfl⟩,(fun _ h=>by cases h)⟩)⟩) b w)
theorem MX:Tryz.prog.follows .mixedOrders=true:=by kernel_rfl
section
variable {P:Program} {r:Option Nat} {E:Env} {S S':AState} {ops:Array Oper} {o:Oper} {rest:List Oper} {J:AState→Prop} {d j t:Nat} {x:AV} {b:Bool} {G H I F0 F1 F2 F3 F4 F5 F6 F7:Prop}
theorem q0 (k:H) (h:H→G:=by exact fun k=>kE (zS lr rfl) k):G:=h k
theorem q1 (k:H) (h:H→G:=by exact fun k=>kE (xH lr rfl) k):G:=h k
theorem q2 (k:H) (h:H→G:=by exact fun k=>kE (zTM lr rfl rfl) k):G:=h k
theorem q3 (k:H) (h:H→G:=by exact fun k=>kE (zLX lr rfl rfl) k):G:=h k
theorem q4 (f0:F0) (k:H) (h:F0→H→G:=by exact fun f0 k=>kE (uG lr rfl f0) k):G:=h f0 k
theorem q5 (k:H) (h:H→G:=by exact fun k=>kE (zFR lr rfl) k):G:=h k
theorem q6 (f0:F0) (k:H) (h:F0→H→G:=by exact fun f0 k=>kE (z6G lr f0 rfl) k):G:=h f0 k
theorem q7 (f0:F0) (k:H) (h:F0→H→G:=by exact fun f0 k=>kE ((zS lr rfl).bool (Option.some.inj f0)) k):G:=h f0 k
theorem q8 (k:H) (h:H→G:=by exact fun k=>daa (zS lr rfl) k):G:=h k
theorem q9 (f0:F0) (k:H) (h:F0→H→G:=by exact fun f0 k=>kE (wR lr f0 rfl) k):G:=h f0 k
theorem q10 (f0:F0) (k:H) (h:F0→H→G:=by exact fun f0 k=>kE (xT lr f0 rfl rfl) k):G:=h f0 k
theorem q11 (f0:F0) (k:H) (h:F0→H→G:=by exact fun f0 k=>xd rfl (zO2 f0 rfl rfl rfl rfl rfl rfl) k):G:=h f0 k
theorem q12 (f0:F0) (f1:F1) (k:H) (h:F0→F1→H→G:=by exact fun f0 f1 k=>kE (yZ lr f0 rfl rfl f1) k):G:=h f0 f1 k
theorem q13 (k:H) (h:H→G:=by exact fun k=>kE (zX7 lr rfl) k):G:=h k
theorem q14 (x:AV) (k:Sq P r E ops rest (S.put d (.cond (gd true b) x)) J) (ha:GdO o ops S E j t d b true:=by exact rfl) (h:b=true→AOp P r E S o d x:=by exact fun hb=>by subst hb;exact zS lr rfl):Sq P r E ops (o::rest) S J:=sqt x ha h k
theorem q15 (k:H) (h:H→G:=by exact fun k=>kE (zFP lr rfl rfl) k):G:=h k
theorem q16 (f0:F0) (k:H) (h:F0→H→G:=by exact fun f0 k=>z2 rfl (zO2 f0 rfl rfl rfl rfl rfl rfl) k):G:=h f0 k
theorem q17 (f0:F0) (f1:F1) (k:H) (h:F0→F1→H→G:=by exact fun f0 f1 k=>xc rfl (zGT lr f0 rfl rfl rfl f1) k):G:=h f0 f1 k
theorem q18 (k:H) (h:H→G:=by exact fun k=>kE (zQD lr rfl rfl) k):G:=h k
theorem q19 (f0:F0) (k:H) (h:F0→H→G:=by exact fun f0 k=>kE (z0Y lr f0 rfl rfl rfl rfl (by decide) rfl) k):G:=h f0 k
theorem q20 (f0:F0) (f1:F1) (f2:F2) (k:H) (h:F0→F1→F2→H→G:=by exact fun f0 f1 f2 k=>xd rfl (z1N f0 rfl rfl rfl f1 f2 rfl rfl rfl rfl) k):G:=h f0 f1 f2 k
theorem q21 (k:H) (h:H→G:=by exact fun k=>kE (zWU lr rfl rfl) k):G:=h k
theorem q22 (f0:F0) (k:H) (h:F0→H→G:=by exact fun f0 k=>daa (wR lr f0 rfl) k):G:=h f0 k
theorem q23 (f0:F0) (k:H) (h:F0→H→G:=by exact fun f0 k=>kE (zCD lr f0 rfl rfl rfl) k):G:=h f0 k
theorem q24 (k:H) (h:H→G:=by exact fun k=>xc rfl (xH lr rfl) k):G:=h k
theorem q25 (f0:F0) (k:H) (h:F0→H→G:=by exact fun f0 k=>daa (uG lr rfl f0) k):G:=h f0 k
theorem q26 (k:H) (h:H→G:=by exact fun k=>kE (zOP lr rfl rfl) k):G:=h k
theorem q27 (f0:F0) (f1:F1) (k:H) (h:F0→F1→H→G:=by exact fun f0 f1 k=>kE (zT (en:=eI) (off:=0) lr f0 rfl f1 rfl) k):G:=h f0 f1 k
theorem q28 (f0:F0) (f1:F1) (k:H) (h:F0→F1→H→G:=by exact fun f0 f1 k=>daa (yZ lr f0 rfl rfl f1) k):G:=h f0 f1 k
theorem q29 (x:AV) (f0:F0) (k:Sq P r E ops rest (S.put d (.cond (gd false b) x)) J) (ha:GdO o ops S E j t d b false:=by exact rfl) (h:F0→b=false→AOp P r E S o d x:=by exact fun f0 hb=>by subst hb;exact wR lr f0 rfl):Sq P r E ops (o::rest) S J:=sqf x ha (h f0) k
theorem q30 (x:AV) (f0:F0) (k:Sq P r E ops rest (S.put d (.cond (gd false b) x)) J) (ha:GdO o ops S E j t d b false:=by exact rfl) (h:F0→b=false→AOp P r E S o d x:=by exact fun f0 hb=>by subst hb;exact xT lr f0 rfl rfl):Sq P r E ops (o::rest) S J:=sqf x ha (h f0) k
theorem q31 (f0:F0) (k:H) (h:F0→H→G:=by exact fun f0 k=>xc rfl (uG lr rfl f0) k):G:=h f0 k
theorem q32 (f0:F0) (k:H) (h:F0→H→G:=by exact fun f0 k=>kE (zOX lr f0 rfl rfl) k):G:=h f0 k
theorem q33 (k:H) (h:H→G:=by exact fun k=>kE (zWF lr rfl rfl) k):G:=h k
theorem q34 (f0:F0) (k:H) (h:F0→H→G:=by exact fun f0 k=>daa (xT lr f0 rfl rfl) k):G:=h f0 k
theorem q35 (f0:F0) (f1:F1) (k:H) (h:F0→F1→H→G:=by exact fun f0 f1 k=>xc rfl (zKQ lr f0 rfl rfl f1 rfl) k):G:=h f0 f1 k
theorem q36 (k:H) (h:H→G:=by exact fun k=>kE (zWE lr rfl) k):G:=h k
theorem q37 (k:H) (h:H→G:=by exact fun k=>kE (zI1 lr rfl rfl) k):G:=h k
theorem q38 (f0:F0) (f1:F1) (k:H) (h:F0→F1→H→G:=by exact fun f0 f1 k=>xc rfl (zD5 lr f0 rfl rfl rfl f1) k):G:=h f0 f1 k
theorem q39 (x:AV) (k:Sq P r E ops rest (S.put d (.cond (gd false b) x)) J) (ha:GdO o ops S E j t d b false:=by exact rfl) (h:b=false→AOp P r E S o d x:=by exact fun hb=>by subst hb;exact zS lr rfl):Sq P r E ops (o::rest) S J:=sqf x ha h k
theorem q40 (k:H) (h:H→G:=by exact fun k=>daa (xH lr rfl) k):G:=h k
theorem q41 (k:H) (h:H→G:=by exact fun k=>kE (zOO lr rfl rfl) k):G:=h k
theorem q42 (x:AV) (k:Sq P r E ops rest (S.put d (.cond (gd false b) x)) J) (ha:GdO o ops S E j t d b false:=by exact rfl) (h:b=false→AOp P r E S o d x:=by exact fun hb=>by subst hb;exact zOO lr rfl rfl):Sq P r E ops (o::rest) S J:=sqf x ha h k
theorem q43 (k:H) (h:H→G:=by exact fun k=>kE (zLY lr rfl rfl) k):G:=h k
theorem q44 (k:H) (h:H→G:=by exact fun k=>xd rfl (yE (zs:=[(.int IntKind.i64 (0)),(.int IntKind.i64 (0)),(.int IntKind.i64 (0))]) lr (by kernel_rfl) rfl rfl) k):G:=h k
theorem q45 (k:H) (h:H→G:=by exact fun k=>kE (zOY (size:=3) lr rfl rfl) k):G:=h k
theorem q46 (f0:F0) (f1:F1) (k:H) (m:I) (h:F0→F1→H→I→G:=by exact fun f0 f1 k m=>xa rfl (vI (en:=eSpan) (off:=0) lr f0 rfl f1 rfl rfl (by decide)) k m):G:=h f0 f1 k m
theorem q47 (k:H) (h:H→G:=by exact fun k=>xd rfl (yE (zs:=[(.slice none 0 0),(.slice none 0 0),(.int IntKind.i64 (0)),(.int IntKind.i64 (0)),(.int IntKind.i64 (0))]) lr (by kernel_rfl) rfl rfl) k):G:=h k
theorem q48 (f0:F0) (k:H) (h:F0→H→G:=by exact fun f0 k=>kE (xO lr f0 rfl) k):G:=h f0 k
theorem q49 (f0:F0) (f1:F1) (k:H) (h:F0→F1→H→G:=by exact fun f0 f1 k=>kE (yLC lr f0 f1 rfl) k):G:=h f0 f1 k
theorem q50 (f0:F0) (k:H) (h:F0→H→G:=by exact fun f0 k=>daa (xO lr f0 rfl) k):G:=h f0 k
theorem q51 (x:AV) (k:DA P r E ops rest (S.put d (.cond (gd false b) x)) J) (ha:GdO o ops S E j t d b false:=by exact rfl) (h:b=false→AOp P r E S o d x:=by exact fun hb=>by subst hb;exact zS lr rfl):DA P r E ops (o::rest) S J:=daf x ha h k
theorem q52 (f0:F0) (f1:F1) (k:H) (m:I) (h:F0→F1→H→I→G:=by exact fun f0 f1 k m=>xa rfl (z6D lr f0 f1 rfl rfl) k m):G:=h f0 f1 k m
theorem q53 (x:AV) (k:DA P r E ops rest (S.put d (.cond (gd true b) x)) J) (ha:GdO o ops S E j t d b true:=by exact rfl) (h:b=true→AOp P r E S o d x:=by exact fun hb=>by subst hb;exact zS lr rfl):DA P r E ops (o::rest) S J:=dat x ha h k
theorem q54 (f0:F0) (k:H) (h:F0→H→G:=by exact fun f0 k=>kE (zEM lr f0 rfl) k):G:=h f0 k
theorem q55 (f0:F0) (k:H) (h:F0→H→G:=by exact fun f0 k=>daa ((zS lr rfl).bool (Option.some.inj f0)) k):G:=h f0 k
theorem q56 (f0:F0) (k:H) (h:F0→H→G:=by exact fun f0 k=>z2 rfl (zNK f0 rfl rfl lr rfl rfl rfl) k):G:=h f0 k
theorem q57 (x:AV) (k:Sq P r E ops rest (S.put d (.cond (gd true b) x)) J) (ha:GdO o ops S E j t d b true:=by exact rfl) (h:b=true→AOp P r E S o d x:=by exact fun hb=>by subst hb;exact zJV lr rfl rfl):Sq P r E ops (o::rest) S J:=sqt x ha h k
theorem q58 (f0:F0) (k:H) (h:F0→H→G:=by exact fun f0 k=>daa (zOX lr f0 rfl rfl) k):G:=h f0 k
theorem q59 (k:H) (h:H→G:=by exact fun k=>kE (zH7 lr rfl) k):G:=h k
theorem q60 (f0:F0) (k:H) (h:F0→H→G:=by exact fun f0 k=>kE (yJY lr rfl rfl f0) k):G:=h f0 k
theorem q61 (k:H) (h:H→G:=by exact fun k=>kE (zOY (size:=5) lr rfl rfl) k):G:=h k
theorem q62 (x:AV) (f0:F0) (k:Sq P r E ops rest (S.put d (.cond (gd true b) x)) J) (ha:GdO o ops S E j t d b true:=by exact rfl) (h:F0→b=true→AOp P r E S o d x:=by exact fun f0 hb=>by subst hb;exact wR lr f0 rfl):Sq P r E ops (o::rest) S J:=sqt x ha (h f0) k
theorem q63 (f0:F0) (f1:F1) (k:H) (h:F0→F1→H→G:=by exact fun f0 f1 k=>kE (zD5 lr f0 rfl rfl rfl f1) k):G:=h f0 f1 k
theorem q64 (f0:F0) (k:H) (h:F0→H→G:=by exact fun f0 k=>xc rfl (zOX lr f0 rfl rfl) k):G:=h f0 k
theorem q65 (f0:F0) (k:H) (h:F0→H→G:=by exact fun f0 k=>kE (zJW lr f0 rfl) k):G:=h f0 k
theorem q66 (k:H) (h:H→G:=by exact fun k=>kE (zOY (size:=1) lr rfl rfl) k):G:=h k
theorem q67 (x:AV) (f0:F0) (k:Sq P r E ops rest (S.put d (.cond (gd true b) x)) J) (ha:GdO o ops S E j t d b true:=by exact rfl) (h:F0→b=true→AOp P r E S o d x:=by exact fun f0 hb=>by subst hb;exact xT lr f0 rfl rfl):Sq P r E ops (o::rest) S J:=sqt x ha (h f0) k
theorem q68 (f0:F0) (k:H) (h:F0→H→G:=by exact fun f0 k=>kE (zRU lr f0 rfl rfl (by decide)) k):G:=h f0 k
theorem q69 (f0:F0) (f1:F1) (k:H) (h:F0→F1→H→G:=by exact fun f0 f1 k=>xc rfl (z6D lr f0 f1 rfl rfl) k):G:=h f0 f1 k
theorem q70 (f0:F0) (k:H) (h:F0→H→G:=by exact fun f0 k=>z2 rfl (zRS f0 rfl rfl lr rfl rfl rfl) k):G:=h f0 k
theorem q71 (f0:F0) (f1:F1) (k:H) (h:F0→F1→H→G:=by exact fun f0 f1 k=>xc rfl (vI (en:=eSpan) (off:=0) lr f0 rfl f1 rfl rfl (by decide)) k):G:=h f0 f1 k
theorem q72 (f0:F0) (k:H) (h:F0→H→G:=by exact fun f0 k=>kE (zHN lr f0 rfl rfl) k):G:=h f0 k
theorem q73 (k:H) (h:H→G:=by exact fun k=>kE (zWD lr rfl rfl (by decide)) k):G:=h k
theorem q74 (f0:F0) (f1:F1) (k:H) (h:F0→F1→H→G:=by exact fun f0 f1 k=>daa (zT (en:=eI) (off:=0) lr f0 rfl f1 rfl) k):G:=h f0 f1 k
theorem q75 (x:AV) (k:Sq P r E ops rest (S.put d (.cond (gd true b) x)) J) (ha:GdO o ops S E j t d b true:=by exact rfl) (h:b=true→AOp P r E S o d x:=by exact fun hb=>by subst hb;exact zI1 lr rfl rfl):Sq P r E ops (o::rest) S J:=sqt x ha h k
theorem q76 (k:H) (h:H→G:=by exact fun k=>daa (zFR lr rfl) k):G:=h k
theorem q77 (f0:F0) (f1:F1) (k:H) (h:F0→F1→H→G:=by exact fun f0 f1 k=>xd rfl (yCM f0 rfl rfl rfl rfl f1 rfl) k):G:=h f0 f1 k
theorem q78 (f0:F0) (f1:F1) (k:H) (m:I) (h:F0→F1→H→I→G:=by exact fun f0 f1 k m=>xa rfl (zKQ lr f0 rfl rfl f1 rfl) k m):G:=h f0 f1 k m
theorem q79 (f0:F0) (k:H) (m:I) (h:F0→H→I→G:=by exact fun f0 k m=>xa rfl (uG lr rfl f0) k m):G:=h f0 k m
theorem q80 (x:AV) (f0:F0) (k:Sq P r E ops rest (S.put d (.cond (gd false b) x)) J) (ha:GdO o ops S E j t d b false:=by exact rfl) (h:F0→b=false→AOp P r E S o d x:=by exact fun f0 hb=>by subst hb;exact z6G lr f0 rfl):Sq P r E ops (o::rest) S J:=sqf x ha (h f0) k
theorem q81 (k:H) (h:H→G:=by exact fun k=>kE (zJV lr rfl rfl) k):G:=h k
theorem q82 (x:AV) (k:Sq P r E ops rest (S.put d (.cond (gd true b) x)) J) (ha:GdO o ops S E j t d b true:=by exact rfl) (h:b=true→AOp P r E S o d x:=by exact fun hb=>by subst hb;exact zLX lr rfl rfl):Sq P r E ops (o::rest) S J:=sqt x ha h k
theorem q83 (f0:F0) (k:H) (h:F0→H→G:=by exact fun f0 k=>kE (yCC lr f0 rfl rfl) k):G:=h f0 k
theorem q84 (x:AV) (f0:F0) (k:DA P r E ops rest (S.put d (.cond (gd false b) x)) J) (ha:GdO o ops S E j t d b false:=by exact rfl) (h:F0→b=false→AOp P r E S o d x:=by exact fun f0 hb=>by subst hb;exact xO lr f0 rfl):DA P r E ops (o::rest) S J:=daf x ha (h f0) k
theorem q85 (k:H) (h:H→G:=by exact fun k=>daa (zFP lr rfl rfl) k):G:=h k
theorem q86 (x:AV) (k:Sq P r E ops rest (S.put d (.cond (gd false b) x)) J) (ha:GdO o ops S E j t d b false:=by exact rfl) (h:b=false→AOp P r E S o d x:=by exact fun hb=>by subst hb;exact zFP lr rfl rfl):Sq P r E ops (o::rest) S J:=sqf x ha h k
theorem q87 (f0:F0) (k:H) (h:F0→H→G:=by exact fun f0 k=>daa (zKJ lr f0 rfl rfl rfl) k):G:=h f0 k
theorem q88 (f0:F0) (f1:F1) (k:H) (h:F0→F1→H→G:=by exact fun f0 f1 k=>kE (zT (en:=eMapping) (off:=1) lr f0 rfl f1 rfl) k):G:=h f0 f1 k
theorem q89 (k:H) (h:H→G:=by exact fun k=>daa (zWU lr rfl rfl) k):G:=h k
theorem q90 (k:H) (h:H→G:=by exact fun k=>daa (zQD lr rfl rfl) k):G:=h k
theorem q91 (f0:F0) (k:H) (h:F0→H→G:=by exact fun f0 k=>kE (yB5 lr rfl rfl f0) k):G:=h f0 k
theorem q92 (k:H) (h:H→G:=by exact fun k=>kE (zOY (size:=4) lr rfl rfl) k):G:=h k
theorem q93 (f0:F0) (f1:F1) (k:H) (h:F0→F1→H→G:=by exact fun f0 f1 k=>kE (vI (en:=eMapping) (off:=0) lr f0 rfl f1 rfl rfl (by decide)) k):G:=h f0 f1 k
theorem q94 (f0:F0) (k:H) (h:F0→H→G:=by exact fun f0 k=>daa (zJW lr f0 rfl) k):G:=h f0 k
theorem q95 (k:H) (h:H→G:=by exact fun k=>z2 rfl (yE (zs:=[(.slice none 0 0)]) lr (by kernel_rfl) rfl rfl) k):G:=h k
theorem q96 (x:AV) (k:Sq P r E ops rest (S.put d (.cond (gd false b) x)) J) (ha:GdO o ops S E j t d b false:=by exact rfl) (h:b=false→AOp P r E S o d x:=by exact fun hb=>by subst hb;exact zLY lr rfl rfl):Sq P r E ops (o::rest) S J:=sqf x ha h k
theorem q97 (x:AV) (f0:F0) (k:DA P r E ops rest (S.put d (.cond (gd true b) x)) J) (ha:GdO o ops S E j t d b true:=by exact rfl) (h:F0→b=true→AOp P r E S o d x:=by exact fun f0 hb=>by subst hb;exact wR lr f0 rfl):DA P r E ops (o::rest) S J:=dat x ha (h f0) k
theorem q98 (x:AV) (f0:F0) (k:DA P r E ops rest (S.put d (.cond (gd true b) x)) J) (ha:GdO o ops S E j t d b true:=by exact rfl) (h:F0→b=true→AOp P r E S o d x:=by exact fun f0 hb=>by subst hb;exact xT lr f0 rfl rfl):DA P r E ops (o::rest) S J:=dat x ha (h f0) k
theorem q99 (x:AV) (f0:F0) (k:DA P r E ops rest (S.put d (.cond (gd true b) x)) J) (ha:GdO o ops S E j t d b true:=by exact rfl) (h:F0→b=true→AOp P r E S o d x:=by exact fun f0 hb=>by subst hb;exact xO lr f0 rfl):DA P r E ops (o::rest) S J:=dat x ha (h f0) k
theorem z12 (f0:F0) (k:H) (h:F0→H→G:=by exact fun f0 k=>daa (zEM lr f0 rfl) k):G:=h f0 k
theorem z13 (x:AV) (k:Sq P r E ops rest (S.put d (.cond (gd true b) x)) J) (ha:GdO o ops S E j t d b true:=by exact rfl) (h:b=true→AOp P r E S o d x:=by exact fun hb=>by subst hb;exact zWE lr rfl):Sq P r E ops (o::rest) S J:=sqt x ha h k
theorem z14 (f0:F0) (f1:F1) (k:H) (m:I) (h:F0→F1→H→I→G:=by exact fun f0 f1 k m=>xa rfl (zGT lr f0 rfl rfl rfl f1) k m):G:=h f0 f1 k m
theorem z15 (f0:F0) (k:H) (m:I) (h:F0→H→I→G:=by exact fun f0 k m=>xa rfl (zOX lr f0 rfl rfl) k m):G:=h f0 k m
theorem z4V (x:AV) (k:Sq P r E ops rest (S.put d (.cond (gd false b) x)) J) (ha:GdO o ops S E j t d b false:=by exact rfl) (h:b=false→AOp P r E S o d x:=by exact fun hb=>by subst hb;exact zWE lr rfl):Sq P r E ops (o::rest) S J:=sqf x ha h k
theorem z4W (f0:F0) (k:H) (h:F0→H→G:=by exact fun f0 k=>kE (zKJ lr f0 rfl rfl rfl) k):G:=h f0 k
theorem z4X (k:H) (h:H→G:=by exact fun k=>daa (zLX lr rfl rfl) k):G:=h k
theorem z4Y (f0:F0) (k:H) (h:F0→H→G:=by exact fun f0 k=>daa (zCD lr f0 rfl rfl rfl) k):G:=h f0 k
theorem z4Z (k:H) (h:H→G:=by exact fun k=>daa (zOO lr rfl rfl) k):G:=h k
theorem yC2 (k:H) (h:H→G:=by exact fun k=>z2 rfl (z8Y lr rfl rfl) k):G:=h k
theorem z40 (k:H) (h:H→G:=by exact fun k=>z2 rfl (yE (zs:=[(.int IntKind.i64 (0)),(.int IntKind.i64 (0))]) lr (by kernel_rfl) rfl rfl) k):G:=h k
theorem yP5 (k:H) (h:H→G:=by exact fun k=>z2 rfl (yE (zs:=[(.int IntKind.i64 (0)),(.slice none 0 0),(.string ⟨#[]⟩)]) lr (by kernel_rfl) rfl rfl) k):G:=h k
theorem z41 (f0:F0) (k:H) (h:F0→H→G:=by exact fun f0 k=>kE (yLE lr f0 rfl rfl) k):G:=h f0 k
theorem z42 (f0:F0) (k:H) (h:F0→H→G:=by exact fun f0 k=>z2 rfl (zRR lr f0 rfl rfl rfl rfl (by decide) rfl) k):G:=h f0 k
theorem z9Q (f0:F0) (k:H) (h:F0→H→G:=by exact fun f0 k=>kE (zTN lr f0 rfl) k):G:=h f0 k
theorem z9R (f0:F0) (k:H) (h:F0→H→G:=by exact fun f0 k=>daa (z0Y lr f0 rfl rfl rfl rfl (by decide) rfl) k):G:=h f0 k
theorem z9S (k:H) (h:H→G:=by exact fun k=>daa (zTM lr rfl rfl) k):G:=h k
theorem z9T (x:AV) (f0:F0) (k:Sq P r E ops rest (S.put d (.cond (gd true b) x)) J) (ha:GdO o ops S E j t d b true:=by exact rfl) (h:F0→b=true→AOp P r E S o d x:=by exact fun f0 hb=>by subst hb;exact z6G lr f0 rfl):Sq P r E ops (o::rest) S J:=sqt x ha (h f0) k
theorem z9U (x:AV) (k:Sq P r E ops rest (S.put d (.cond (gd false b) x)) J) (ha:GdO o ops S E j t d b false:=by exact rfl) (h:b=false→AOp P r E S o d x:=by exact fun hb=>by subst hb;exact zI1 lr rfl rfl):Sq P r E ops (o::rest) S J:=sqf x ha h k
theorem z9V (k:H) (h:H→G:=by exact fun k=>kE (z4A lr rfl rfl) k):G:=h k
theorem z9W (x:AV) (k:DA P r E ops rest (S.put d (.cond (gd true b) x)) J) (ha:GdO o ops S E j t d b true:=by exact rfl) (h:b=true→AOp P r E S o d x:=by exact fun hb=>by subst hb;exact zWU lr rfl rfl):DA P r E ops (o::rest) S J:=dat x ha h k
theorem z9X (k:H) (h:H→G:=by exact fun k=>z2 rfl (yE (zs:=[(.int IntKind.i64 (0)),(.int IntKind.i64 (0)),(.int IntKind.i64 (0))]) lr (by kernel_rfl) rfl rfl) k):G:=h k
theorem z9Y (f0:F0) (k:H) (h:F0→H→G:=by exact fun f0 k=>kE (z88 lr f0 rfl rfl (by decide)) k):G:=h f0 k
theorem z9Z (f0:F0) (k:H) (h:F0→H→G:=by exact fun f0 k=>xd rfl (zNK f0 rfl rfl lr rfl rfl rfl) k):G:=h f0 k
theorem z90 (f0:F0) (f1:F1) (k:H) (h:F0→F1→H→G:=by exact fun f0 f1 k=>daa (zGT lr f0 rfl rfl rfl f1) k):G:=h f0 f1 k
theorem z91 (f0:F0) (f1:F1) (k:H) (h:F0→F1→H→G:=by exact fun f0 f1 k=>daa (zKQ lr f0 rfl rfl f1 rfl) k):G:=h f0 f1 k
theorem z92 (k:H) (h:H→G:=by exact fun k=>daa (zIA lr rfl) k):G:=h k
theorem z93 (k:H) (h:H→G:=by exact fun k=>daa (zWF lr rfl rfl) k):G:=h k
theorem z94 (x:AV) (f0:F0) (k:Sq P r E ops rest (S.put d (.cond (gd true b) x)) J) (ha:GdO o ops S E j t d b true:=by exact rfl) (h:F0→b=true→AOp P r E S o d x:=by exact fun f0 hb=>by subst hb;exact xO lr f0 rfl):Sq P r E ops (o::rest) S J:=sqt x ha (h f0) k
theorem yC3 (x:AV) (f0:F0) (k:Sq P r E ops rest (S.put d (.cond (gd false b) x)) J) (ha:GdO o ops S E j t d b false:=by exact rfl) (h:F0→b=false→AOp P r E S o d x:=by exact fun f0 hb=>by subst hb;exact xO lr f0 rfl):Sq P r E ops (o::rest) S J:=sqf x ha (h f0) k
theorem yC4 (f0:F0) (k:H) (h:F0→H→G:=by exact fun f0 k=>daa (z6G lr f0 rfl) k):G:=h f0 k
theorem yC5 (k:H) (h:H→G:=by exact fun k=>kE (yNS lr rfl rfl) k):G:=h k
theorem yC6 (k:H) (h:H→G:=by exact fun k=>z2 rfl (z84 lr rfl) k):G:=h k
theorem yC7 (x:AV) (k:Sq P r E ops rest (S.put d (.cond (gd true b) x)) J) (ha:GdO o ops S E j t d b true:=by exact rfl) (h:b=true→AOp P r E S o d x:=by exact fun hb=>by subst hb;exact zQD lr rfl rfl):Sq P r E ops (o::rest) S J:=sqt x ha h k
theorem yC8 (f0:F0) (f1:F1) (k:H) (h:F0→F1→H→G:=by exact fun f0 f1 k=>kE (vI (en:=eElement) (off:=0) lr f0 rfl f1 rfl rfl (by decide)) k):G:=h f0 f1 k
theorem yC9 (k:H) (h:H→G:=by exact fun k=>daa (zNX lr rfl) k):G:=h k
theorem yDA (k:H) (h:H→G:=by exact fun k=>daa (zQL lr rfl) k):G:=h k
theorem yDB (k:H) (m:I) (h:H→I→G:=by exact fun k m=>xb rfl (yE (zs:=[(.int IntKind.i64 (0)),(.int IntKind.i64 (0)),(.int IntKind.i64 (0))]) lr (by kernel_rfl) rfl rfl) k m):G:=h k m
theorem yDC (x:AV) (k:Sq P r E ops rest (S.put d (.cond (gd true b) x)) J) (ha:GdO o ops S E j t d b true:=by exact rfl) (h:b=true→AOp P r E S o d x:=by exact fun hb=>by subst hb;exact zOP lr rfl rfl):Sq P r E ops (o::rest) S J:=sqt x ha h k
theorem yDD (x:AV) (k:DA P r E ops rest (S.put d (.cond (gd true b) x)) J) (ha:GdO o ops S E j t d b true:=by exact rfl) (h:b=true→AOp P r E S o d x:=by exact fun hb=>by subst hb;exact zFR lr rfl):DA P r E ops (o::rest) S J:=dat x ha h k
theorem yDE (f0:F0) (f1:F1) (k:H) (h:F0→F1→H→G:=by exact fun f0 f1 k=>daa (zT (en:=eMapping) (off:=0) lr f0 rfl f1 rfl) k):G:=h f0 f1 k
theorem yHM (k:H) (h:H→G:=by exact fun k=>kE (zI2 lr rfl) k):G:=h k
theorem yDF (k:H) (h:H→G:=by exact fun k=>kE (z4C lr rfl rfl) k):G:=h k
theorem yHN (x:AV) (f0:F0) (k:DA P r E ops rest (S.put d (.cond (gd true b) x)) J) (ha:GdO o ops S E j t d b true:=by exact rfl) (h:F0→b=true→AOp P r E S o d x:=by exact fun f0 hb=>by subst hb;exact zJW lr f0 rfl):DA P r E ops (o::rest) S J:=dat x ha (h f0) k
theorem yHO (k:H) (h:H→G:=by exact fun k=>kE (z33 lr rfl) k):G:=h k
theorem yLY (k:H) (h:H→G:=by exact fun k=>kE (yNY lr rfl rfl) k):G:=h k
theorem yHP (f0:F0) (f1:F1) (k:H) (h:F0→F1→H→G:=by exact fun f0 f1 k=>kE (yB7 lr f0 rfl rfl f1) k):G:=h f0 f1 k
theorem yHQ (f0:F0) (f1:F1) (k:H) (h:F0→F1→H→G:=by exact fun f0 f1 k=>kE (vI (en:=eGroup) (off:=0) lr f0 rfl f1 rfl rfl (by decide)) k):G:=h f0 f1 k
theorem yHR (k:H) (h:H→G:=by exact fun k=>z2 rfl (yE (zs:=[(.string ⟨#[]⟩),(.int IntKind.i64 (0)),(.int IntKind.i64 (0))]) lr (by kernel_rfl) rfl rfl) k):G:=h k
theorem yHS (f0:F0) (f1:F1) (k:H) (h:F0→F1→H→G:=by exact fun f0 f1 k=>z2 rfl (z1D f0 f1 rfl rfl rfl rfl rfl rfl) k):G:=h f0 f1 k
theorem yHT (k:H) (h:H→G:=by exact fun k=>z2 rfl (yE (zs:=[(.int IntKind.i64 (0)),(.int IntKind.i64 (0)),(.int IntKind.i64 (0)),(.bool false)]) lr (by kernel_rfl) rfl rfl) k):G:=h k
theorem yHU (k:H) (h:H→G:=by exact fun k=>kE (zNX lr rfl) k):G:=h k
theorem yHV (f0:F0) (f1:F1) (k:H) (h:F0→F1→H→G:=by exact fun f0 f1 k=>kE (vI (en:=eSpan) (off:=0) lr f0 rfl f1 rfl rfl (by decide)) k):G:=h f0 f1 k
theorem yHW (f0:F0) (f1:F1) (k:H) (h:F0→F1→H→G:=by exact fun f0 f1 k=>daa (vI (en:=eMapping) (off:=0) lr f0 rfl f1 rfl rfl (by decide)) k):G:=h f0 f1 k
theorem yHX (f0:F0) (f1:F1) (k:H) (m:I) (h:F0→F1→H→I→G:=by exact fun f0 f1 k m=>xa rfl (zD5 lr f0 rfl rfl rfl f1) k m):G:=h f0 f1 k m
theorem yHY (k:H) (h:H→G:=by exact fun k=>kE (z58 lr rfl rfl) k):G:=h k
theorem yHZ (k:H) (h:H→G:=by exact fun k=>daa (zWE lr rfl) k):G:=h k
theorem yH0 (f0:F0) (k:H) (h:F0→H→G:=by exact fun f0 k=>kE (yLL lr f0 rfl rfl) k):G:=h f0 k
theorem yLZ (f0:F0) (f1:F1) (k:H) (h:F0→F1→H→G:=by exact fun f0 f1 k=>kE (zT (en:=(eL eI)) (off:=0) lr f0 rfl f1 rfl) k):G:=h f0 f1 k
theorem yOG (f0:F0) (f1:F1) (f2:F2) (k:H) (h:F0→F1→F2→H→G:=by exact fun f0 f1 f2 k=>kE (yCP lr f0 rfl f1 f2 rfl rfl) k):G:=h f0 f1 f2 k
end
section
variable {G H:Prop}
theorem Q0 (k:H) (h:H→G:=by intro k;refine z8 ?_;exact kZ k):G:=h k
theorem Q1 (k:H) (h:H→G:=by intro k;refine q1 ?_;exact zG k):G:=h k
theorem Q2 (k:H) (h:H→G:=by intro k;refine Q0 ?_;exact q0 k):G:=h k
theorem Q3 (k:H) (h:H→G:=by intro k;refine Q0 ?_;exact Q1 k):G:=h k
theorem Q4 (k:H) (h:H→G:=by intro k;refine z8 ?_;exact Q2 k):G:=h k
theorem Q5 (k:H) (h:H→G:=by intro k;refine zI ?_;exact z8 k):G:=h k
theorem Q6 (k:H) (h:H→G:=by intro k;refine q3 ?_;exact zG k):G:=h k
theorem Q7 (k:H) (h:H→G:=by intro k;refine kZ ?_;exact q0 k):G:=h k
theorem Q8 (k:H) (h:H→G:=by intro k;refine Q5 ?_;exact z4 k):G:=h k
theorem Q9 (k:H) (h:H→G:=by intro k;refine q2 ?_;exact Q1 k):G:=h k
theorem Q10 (k:H) (h:H→G:=by intro k;refine q13 ?_;exact zG k):G:=h k
theorem Q11 (k:H) (h:H→G:=by intro k;refine q0 ?_;exact zG k):G:=h k
theorem Q12 (k:H) (h:H→G:=by intro k;refine Q7 ?_;exact Q9 k):G:=h k
theorem Q13 (k:H) (h:H→G:=by intro k;refine Q4 ?_;exact q0 k):G:=h k
theorem Q14 (k:H) (h:H→G:=by intro k;refine Q2 ?_;exact q0 k):G:=h k
theorem Q15 (k:H) (h:H→G:=by intro k;refine Q3 ?_;exact z4 k):G:=h k
theorem Q16 (k:H) (h:H→G:=by intro k;refine q5 ?_;exact q0 k):G:=h k
theorem Q17 (k:H) (h:H→G:=by intro k;refine q1 ?_;exact Q1 k):G:=h k
theorem Q18 (k:H) (h:H→G:=by intro k;refine z8 ?_;exact Q0 k):G:=h k
theorem Q19 (k:H) (h:H→G:=by intro k;refine z8 ?_;exact Q15 k):G:=h k
theorem Q20 (k:H) (h:H→G:=by intro k;refine Q3 ?_;exact zQ k):G:=h k
theorem Q21 (k:H) (h:H→G:=by intro k;refine Q0 ?_;exact Q6 k):G:=h k
theorem Q22 (k:H) (h:H→G:=by intro k;refine Q21 ?_;exact z8 k):G:=h k
theorem Q23 (k:H) (h:H→G:=by intro k;refine kZ ?_;exact q2 k):G:=h k
theorem Q24 (k:H) (h:H→G:=by intro k;refine Q23 ?_;exact Q11 k):G:=h k
theorem Q25 (k:H) (h:H→G:=by intro k;refine xn [6] ?_;exact q24 k):G:=h k
theorem Q26 (k:H) (h:H→G:=by intro k;refine Q25 ?_;exact xn [7] k):G:=h k
theorem Q27 (k:H) (h:H→G:=by intro k;refine Q26 ?_;exact q11 G32 k):G:=h k
theorem Q28 (k:H) (h:H→G:=by intro k;refine Q2 ?_;exact Q1 k):G:=h k
theorem Q29 (k:H) (h:H→G:=by intro k;refine Q11 ?_;exact z4 k):G:=h k
theorem Q30 (k:H) (h:H→G:=by intro k;refine Q8 ?_;exact Q0 k):G:=h k
theorem Q31 (k:H) (h:H→G:=by intro k;refine kZ ?_;exact Q16 k):G:=h k
theorem Q32 (k:H) (h:H→G:=by intro k;refine q26 ?_;exact zG k):G:=h k
theorem Q33 (k:H) (h:H→G:=by intro k;refine q8 ?_;exact q8 k):G:=h k
theorem Q34 (k:H) (h:H→G:=by intro k;refine zI ?_;exact Q12 k):G:=h k
theorem Q35 (k:H) (h:H→G:=by intro k;refine Q1 ?_;exact Q2 k):G:=h k
theorem Q36 (k:H) (h:H→G:=by intro k;refine q15 ?_;exact zG k):G:=h k
theorem Q37 (k:H) (h:H→G:=by intro k;refine Q0 ?_;exact q5 k):G:=h k
theorem Q38 (k:H) (h:H→G:=by intro k;refine xn [12] ?_;exact q11 vF k):G:=h k
theorem Q39 (k:H) (h:H→G:=by intro k;refine q18 ?_;exact zG k):G:=h k
theorem Q40 (k:H) (h:H→G:=by intro k;refine q36 ?_;exact zG k):G:=h k
theorem Q41 (k:H) (h:H→G:=by intro k;refine q0 ?_;exact q0 k):G:=h k
theorem Q42 (k:H) (h:H→G:=by intro k;refine q15 ?_;exact Q1 k):G:=h k
theorem Q43 (k:H) (h:H→G:=by intro k;refine Q3 ?_;exact Q4 k):G:=h k
theorem Q44 (k:H) (h:H→G:=by intro k;refine xn [11] ?_;exact q11 vF k):G:=h k
theorem Q45 (k:H) (h:H→G:=by intro k;refine Q44 ?_;exact Q38 k):G:=h k
theorem Q46 (k:H) (h:H→G:=by intro k;refine Q0 ?_;exact q45 k):G:=h k
theorem Q47 (k:H) (h:H→G:=by intro k;refine Q37 ?_;exact Q10 k):G:=h k
theorem Q48 (k:H) (h:H→G:=by intro k;refine Q1 ?_;exact Q0 k):G:=h k
theorem Q49 (k:H) (h:H→G:=by intro k;refine z8 ?_;exact z4 k):G:=h k
theorem Q50 (k:H) (h:H→G:=by intro k;refine q40 ?_;exact xG k):G:=h k
theorem Q51 (k:H) (h:H→G:=by intro k;refine q6 S23 ?_;exact Q6 k):G:=h k
theorem Q52 (k:H) (h:H→G:=by intro k;refine q41 ?_;exact zG k):G:=h k
theorem Q53 (k:H) (h:H→G:=by intro k;refine zI ?_;exact Q3 k):G:=h k
theorem Q54 (k:H) (h:H→G:=by intro k;refine zI ?_;exact Q24 k):G:=h k
theorem Q55 (k:H) (h:H→G:=by intro k;refine zI ?_;exact Q0 k):G:=h k
theorem Q56 (k:H) (h:H→G:=by intro k;refine Q3 ?_;exact Q2 k):G:=h k
theorem Q57 (k:H) (h:H→G:=by intro k;refine kZ ?_;exact q5 k):G:=h k
theorem Q58 (k:H) (h:H→G:=by intro k;refine zG ?_;exact Q0 k):G:=h k
theorem Q59 (k:H) (h:H→G:=by intro k;refine Q13 ?_;exact Q51 k):G:=h k
theorem Q60 (k:H) (h:H→G:=by intro k;refine q59 ?_;exact q33 k):G:=h k
theorem Q61 (k:H) (h:H→G:=by intro k;refine Q60 ?_;exact q33 k):G:=h k
theorem Q62 (k:H) (h:H→G:=by intro k;refine q21 ?_;exact Q1 k):G:=h k
theorem Q63 (k:H) (h:H→G:=by intro k;refine Q1 ?_;exact Q18 k):G:=h k
theorem Q64 (k:H) (h:H→G:=by intro k;refine Q0 ?_;exact Q16 k):G:=h k
theorem Q65 (k:H) (h:H→G:=by intro k;refine q6 z3 ?_;exact Q6 k):G:=h k
theorem Q66 (k:H) (h:H→G:=by intro k;refine z4 ?_;exact Q2 k):G:=h k
theorem Q67 (k:H) (h:H→G:=by intro k;refine Q31 ?_;exact q0 k):G:=h k
theorem Q68 (k:H) (h:H→G:=by intro k;refine Q7 ?_;exact q0 k):G:=h k
theorem Q69 (k:H) (h:H→G:=by intro k;refine xn [2] ?_;exact q69 zAL O22 k):G:=h k
theorem Q70 (k:H) (h:H→G:=by intro k;refine Q69 ?_;exact Q27 k):G:=h k
theorem Q71 (k:H) (h:H→G:=by intro k;refine Q17 ?_;exact Q2 k):G:=h k
theorem Q72 (k:H) (h:H→G:=by intro k;refine Q14 ?_;exact q0 k):G:=h k
theorem Q73 (k:H) (h:H→G:=by intro k;refine Q13 ?_;exact Q6 k):G:=h k
theorem Q74 (k:H) (h:H→G:=by intro k;refine q37 ?_;exact Q1 k):G:=h k
theorem Q75 (k:H) (h:H→G:=by intro k;refine Q8 ?_;exact z8 k):G:=h k
theorem Q76 (k:H) (h:H→G:=by intro k;refine Q5 ?_;exact Q0 k):G:=h k
theorem Q77 (k:H) (h:H→G:=by intro k;refine Q7 ?_;exact Q1 k):G:=h k
theorem Q78 (k:H) (h:H→G:=by intro k;refine Q35 ?_;exact Q32 k):G:=h k
theorem Q79 (k:H) (h:H→G:=by intro k;refine Q1 ?_;exact z8 k):G:=h k
theorem Q80 (k:H) (h:H→G:=by intro k;refine q6 z3 ?_;exact Q29 k):G:=h k
theorem Q81 (k:H) (h:H→G:=by intro k;refine q1 ?_;exact Q17 k):G:=h k
theorem Q82 (k:H) (h:H→G:=by intro k;refine Q3 ?_;exact Q19 k):G:=h k
theorem Q83 (k:H) (h:H→G:=by intro k;refine q44 ?_;exact Q45 k):G:=h k
theorem Q84 (k:H) (h:H→G:=by intro k;refine q37 ?_;exact zG k):G:=h k
theorem Q85 (k:H) (h:H→G:=by intro k;refine q9 zRI ?_;exact q10 O23 k):G:=h k
theorem Q86 (k:H) (h:H→G:=by intro k;refine q56 O3 ?_;exact zG k):G:=h k
theorem Q87 (k:H) (h:H→G:=by intro k;refine q9 zT0 ?_;exact q10 O3 k):G:=h k
theorem Q88 (k:H) (h:H→G:=by intro k;refine Q8 ?_;exact Q14 k):G:=h k
theorem Q89 (k:H) (h:H→G:=by intro k;refine Q0 ?_;exact q61 k):G:=h k
theorem Q90 (k:H) (h:H→G:=by intro k;refine q85 ?_;exact xG k):G:=h k
theorem Q91 (k:H) (h:H→G:=by intro k;refine Q0 ?_;exact q66 k):G:=h k
theorem Q92 (k:H) (h:H→G:=by intro k;refine Q61 ?_;exact Q17 k):G:=h k
theorem Q93 (k:H) (h:H→G:=by intro k;refine q76 ?_;exact q8 k):G:=h k
theorem Q94 (k:H) (h:H→G:=by intro k;refine q70 O37 ?_;exact zG k):G:=h k
theorem Q95 (k:H) (h:H→G:=by intro k;refine Q14 ?_;exact q2 k):G:=h k
theorem Q96 (k:H) (h:H→G:=by intro k;refine Q4 ?_;exact zG k):G:=h k
theorem Q97 (k:H) (h:H→G:=by intro k;refine q9 z1X ?_;exact q10 O29 k):G:=h k
theorem Q98 (k:H) (h:H→G:=by intro k;refine Q3 ?_;exact Q3 k):G:=h k
theorem Q99 (k:H) (h:H→G:=by intro k;refine q43 ?_;exact zG k):G:=h k
theorem zY3 (k:H) (h:H→G:=by intro k;refine q9 zJZ ?_;exact q10 O3 k):G:=h k
theorem yOH (k:H) (h:H→G:=by intro k;refine q9 zI8 ?_;exact q10 O24 k):G:=h k
theorem zY4 (k:H) (h:H→G:=by intro k;refine q40 ?_;exact Q50 k):G:=h k
theorem z17 (k:H) (h:H→G:=by intro k;refine Q5 ?_;exact Q15 k):G:=h k
theorem z18 (k:H) (h:H→G:=by intro k;refine Q0 ?_;exact Q17 k):G:=h k
theorem z19 (k:H) (h:H→G:=by intro k;refine Q3 ?_;exact Q14 k):G:=h k
theorem z2A (k:H) (h:H→G:=by intro k;refine zI ?_;exact Q4 k):G:=h k
theorem z2B (k:H) (h:H→G:=by intro k;refine q2 ?_;exact q0 k):G:=h k
theorem z2C (k:H) (h:H→G:=by intro k;refine zG ?_;exact Q18 k):G:=h k
theorem z2D (k:H) (h:H→G:=by intro k;refine yOH ?_;exact q6 S24 k):G:=h k
theorem z2E (k:H) (h:H→G:=by intro k;refine Q1 ?_;exact Q19 k):G:=h k
theorem z2F (k:H) (h:H→G:=by intro k;refine Q13 ?_;exact Q65 k):G:=h k
theorem z47 (k:H) (h:H→G:=by intro k;refine q9 yCT ?_;exact q10 O30 k):G:=h k
theorem z48 (k:H) (h:H→G:=by intro k;refine zI ?_;exact z4 k):G:=h k
theorem z49 (k:H) (h:H→G:=by intro k;refine zI ?_;exact Q2 k):G:=h k
theorem z5A (k:H) (h:H→G:=by intro k;refine zG ?_;exact z4 k):G:=h k
theorem z5B (k:H) (h:H→G:=by intro k;refine q10 O3 ?_;exact q3 k):G:=h k
theorem z5C (k:H) (h:H→G:=by intro k;refine Q0 ?_;exact q92 k):G:=h k
theorem z5D (k:H) (h:H→G:=by intro k;refine xm 0 ?_;exact xm 1 k):G:=h k
theorem z5E (k:H) (h:H→G:=by intro k;refine q6 S23 ?_;exact Q29 k):G:=h k
theorem yP7 (k:H) (h:H→G:=by intro k;refine yP5 ?_;exact q16 G72 k):G:=h k
theorem z5F (k:H) (h:H→G:=by intro k;refine yP7 ?_;exact zG k):G:=h k
theorem z5G (k:H) (h:H→G:=by intro k;refine Q64 ?_;exact Q41 k):G:=h k
theorem yP8 (k:H) (h:H→G:=by intro k;refine Q95 ?_;exact q49 Tryz.underlying3 Tryz.underlying94 k):G:=h k
theorem yP9 (k:H) (h:H→G:=by intro k;refine yP8 ?_;exact q73 k):G:=h k
theorem z5H (k:H) (h:H→G:=by intro k;refine yP9 ?_;exact q49 Tryz.underlying94 Tryz.underlying3 k):G:=h k
theorem yAC (k:H) (h:H→G:=by intro k;refine q16 G34 ?_;exact zG k):G:=h k
theorem yDM (k:H) (h:H→G:=by intro k;refine Q10 ?_;exact Q12 k):G:=h k
theorem yQA (k:H) (h:H→G:=by intro k;refine xn [5] ?_;exact q47 k):G:=h k
theorem z5I (k:H) (h:H→G:=by intro k;refine yQA ?_;exact Q27 k):G:=h k
end
theorem zVL {z r} (h:zGU z=some r):zE Tryz.prog 25 [(eNorm.dv z)] [(db r)]:=by
 refine co Tryz.func25 ?_;intro _ _ _ _;unfold zGU at h;refine Q46 ?_;refine Q63 ?_;refine q9 zAL ?_;refine q10 O22 ?_;refine q6 S22 ?_;refine q41 ?_;have ⟨_,k,h⟩:=bE h;refine q7 k ?_;refine q29 (.ip (eNorm.cells z) (0+1)) zRI ?_;refine q30 (.d (zN eMapping z.Decomp)) O23 ?_;refine q80 (.d (di (z.Decomp.length:Int))) S23 ?_;refine q42 (.d (db (decide (40<(z.Decomp.length:Int))))) ?_;refine q18 ?_;have ⟨_,k,h⟩:=bE h;refine q7 k ?_;refine q29 (.ip (eNorm.cells z) (0+2)) yCS ?_;refine yC3 (.ip (eNorm.cells z) (0+2+0)) zI8 ?_;refine q30 (.d (zN eRange z.Excluded.Ranges)) O24 ?_;refine q80 (.d (di (z.Excluded.Ranges.length:Int))) S24 ?_;refine q42 (.d (db (decide (12<(z.Excluded.Ranges.length:Int))))) ?_;refine Q39 ?_;refine zV h (fun h=>?_) (fun h=>?_);refine Q3 ?_;exact er h;refine z17 ?_;have ⟨T,k,h⟩:=bE h;refine zO T (.exit 0) (fun T=>⟨[],[]⟩) .ret (fun T=>⟨[(2,.d (db T))],[]⟩) ?_ ?_ ?_;refine zB (fun x=>⟨[(1,.d (.pt (eNorm.cells z))),(3,.d (di x))],[]⟩) k wc ?_
 rintro Y Z G
 replace G:vJ z Y=some Z:=G;unfold vJ at G;refine Q4 ?_;refine Q85 ?_;refine Q51 ?_;refine zV G (fun G=>?_) (fun G=>?_);refine Q30 ?_;refine Q85 ?_;refine q0 ?_;have ⟨_,k,G⟩:=bE G;refine q12 S23 k ?_;refine q48 zG7 ?_;refine q88 O37 k ?_;refine q6 z3 ?_;refine q41 ?_;have ⟨_,k,G⟩:=bE G;refine q7 k ?_;refine q29 (.ip (eNorm.cells z) (0+1)) zRI ?_;refine q30 (.d (zN eMapping z.Decomp)) O23 ?_;refine q39 (.d (di Y)) ?_;have ⟨H,O,G⟩:=bE G;refine sqf (.ip (eMapping.all z.Decomp) (Y.toNat*eMapping.size)) rfl (fun hb=>by subst hb;exact yZ (en:=eMapping) lr S23 rfl rfl O) ?_
 refine yC3 (.ip (eMapping.all z.Decomp) (Y.toNat*eMapping.size+2)) zEZ ?_;refine sqf (.d (ds H.Tag)) rfl (fun hb=>by subst hb;exact zT (en:=eMapping) (l:=z.Decomp) (i:=Y) (v:=H) (off:=2) lr O9 rfl O rfl) ?_
 refine sqf (.d (di (H.Tag.length:Int))) rfl (fun hb=>by subst hb;exact zTN (s:=H.Tag) lr Tryz.underlying9 rfl) ?_
 refine q42 (.d (db (decide (40<(H.Tag.length:Int))))) ?_;refine Q39 ?_;refine zV G (fun G=>?_) (fun G=>?_);refine Q20 ?_;cases G;intro q;cases q;exact⟨rfl,wc⟩;refine Q34 ?_;exact ew G;refine zD ?_;cases G;intro q;cases q;exact⟨rfl,wc⟩
 rintro T rfl
 replace h:=eL h;refine Q3 ?_;exact er h
 rintro T rfl
 replace h:=eR h;exact es h
theorem zLL {k r} (h:uM k=some r):zE Tryz.prog 49 [(zN eElement k)] [(db r)]:=by refine co Tryz.func49 ?_;intro _ _ _ _;unfold uM at h;refine Q56 ?_;refine q6 S66 ?_;refine q81 ?_;refine Q1 ?_;exact er h
theorem z2G {G r} (h:zJX G=some r):zE Tryz.prog 26 [(eCollation.dv G)] [(db r)]:=by
 refine co Tryz.func26 ?_;intro _ _ _ _;unfold zJX at h;refine Q89 ?_;refine Q63 ?_;refine Q97 ?_;refine q6 S29 ?_;refine q41 ?_;have ⟨_,k,h⟩:=bE h;refine q7 k ?_;refine q29 (.ip (eCollation.cells G) (0+1)) yCT ?_;refine q30 (.d (zN eGroup G.Groups)) O30 ?_;refine q80 (.d (di (G.Groups.length:Int))) S30 ?_;refine q42 (.d (db (decide (8<(G.Groups.length:Int))))) ?_;refine Q39 ?_;refine zV h (fun h=>?_) (fun h=>?_);refine Q3 ?_;exact er h;refine z17 ?_;have ⟨Y,k,h⟩:=bE h;refine zO Y (.exit 0) (fun Y=>⟨[(1,.d (.pt (eCollation.cells G)))],[]⟩) .ret (fun Y=>⟨[(2,.d (db Y))],[]⟩) ?_ ?_ ?_;refine zB (fun x=>⟨[(1,.d (.pt (eCollation.cells G))),(3,.d (di x))],[]⟩) k wc ?_
 rintro T ad z
 replace z:zA4 G T=some ad:=z;unfold zA4 at z;refine Q4 ?_;refine Q97 ?_;refine q6 S29 ?_;refine Q6 ?_;refine zV z (fun z=>?_) (fun z=>?_);refine Q30 ?_;refine Q97 ?_;refine q0 ?_;have ⟨ah,k,z⟩:=bE z;refine q12 S29 k ?_;refine q48 zIJ ?_;refine kE (zT (en:=eEntry) (l:=G.Entries) (i:=T) (v:=ah) (off:=0) lr O37 rfl k rfl) ?_;refine q6 z3 ?_;refine q41 ?_;have ⟨_,k,z⟩:=bE z;refine q7 k ?_;refine q29 (.ip (eCollation.cells G) (0+0)) z1X ?_;refine q30 (.d (zN eEntry G.Entries)) O29 ?_;refine q39 (.d (di T)) ?_;have ⟨ab,O,z⟩:=bE z;refine sqf (.ip (eEntry.all G.Entries) (T.toNat*eEntry.size)) rfl (fun hb=>by subst hb;exact yZ (en:=eEntry) lr S29 rfl rfl O) ?_
 refine yC3 (.ip (eEntry.all G.Entries) (T.toNat*eEntry.size+1)) zMF ?_;refine sqf (.d (zN eElement ab.Elements)) rfl (fun hb=>by subst hb;exact zT (en:=eEntry) (l:=G.Entries) (i:=T) (v:=ab) (off:=1) lr O66 rfl O rfl) ?_
 have ⟨ac,aa,z⟩:=bE z;refine sqf (.d (db ac)) rfl (fun hb=>by subst hb;exact uG lr rfl (zLL aa)) ?_
 refine z4V (.d (db (!ac))) ?_;refine Q39 ?_;refine zV z (fun z=>?_) (fun z=>?_);refine Q20 ?_;cases z;intro q;cases q;exact⟨rfl,wc⟩;refine Q34 ?_;exact ew z;refine zD ?_;cases z;intro q;cases q;exact⟨rfl,wc⟩
 rintro Y rfl
 replace h:=eL h;refine Q19 ?_;have ⟨Z,k,h⟩:=bE h;refine zO Z (.exit 2) (fun Z=>⟨[],[]⟩) .ret (fun Z=>⟨[(2,.d (db Z))],[]⟩) ?_ ?_ ?_;refine zB (fun x=>⟨[(1,.d (.pt (eCollation.cells G))),(4,.d (di x))],[]⟩) k wc ?_
 rintro v4 ag H
 replace H:zCH G v4=some ag:=H;unfold zCH at H;refine Q4 ?_;refine z47 ?_;refine q6 S30 ?_;refine Q6 ?_;refine zV H (fun H=>?_) (fun H=>?_);refine Q30 ?_;refine z47 ?_;refine q0 ?_;have ⟨ai,k,H⟩:=bE H;refine q12 S30 k ?_;refine q48 zT1 ?_;refine kE (zT (en:=eGroup) (l:=G.Groups) (i:=v4) (v:=ai) (off:=0) lr O9 rfl k rfl) ?_;refine z9Q Tryz.underlying9 ?_;refine Q52 ?_;refine zV H (fun H=>?_) (fun H=>?_);refine Q20 ?_;cases H;intro q;cases q;exact⟨rfl,wc⟩;refine Q34 ?_;exact ew H;refine zD ?_;cases H;intro q;cases q;exact⟨rfl,wc⟩
 rintro Z rfl
 replace h:=eL h;refine Q3 ?_;exact er h
 rintro Z rfl
 replace h:=eR h;exact es h
 rintro Y rfl
 replace h:=eR h;exact es h
theorem zVM {z r} (h:zGV z=some r):zE Tryz.prog 8 [(eUnicodetextlaw44_Data.dv z)] [(db r)]:=by
 refine co Tryz.func8 ?_;intro _ _ _ _;unfold zGV at h;refine Q0 ?_;refine kE (zOY (size:=12) lr rfl rfl) ?_;refine Q48 ?_;refine q9 zXB ?_;refine z4W G28 ?_;have ⟨_,k,h⟩:=bE h;refine q4 (zVL k) ?_;have ⟨_,k,h⟩:=bE h;refine q7 k ?_;refine q62 (.ip (eUnicodetextlaw44_Data.cells z) (0+3)) zXC ?_;refine sqt (.d (eCollation.dv z.Collation)) rfl (fun hb=>by subst hb;exact zKJ lr G32 rfl rfl rfl) ?_
 have ⟨H,G,h⟩:=bE h;refine sqt (.d (db H)) rfl (fun hb=>by subst hb;exact uG lr rfl (z2G G)) ?_
 refine Q42 ?_;exact er h
theorem zFE {z r} (h:xV z=some r):zE Tryz.prog 50 [(di z)] [(di r)]:=by refine co Tryz.func50 ?_;intro _ _ _ _;unfold xV at h;refine Q43 ?_;refine q3 ?_;have ⟨_,k,h⟩:=bE h;refine q7 k ?_;refine q39 (.d (di z)) ?_;refine q42 (.d (db (decide (65535<z)))) ?_;refine Q39 ?_;refine zV h (fun h=>?_) (fun h=>?_);refine Q3 ?_;exact er h;refine zI<|Q28 ?_;exact er h
theorem zQR {items:List (Int×Int)} {O:Bool} {a1:(List Int)} {r:Unit} (h:zBQ items O a1=some r):zTG Tryz.prog 87 [(.pt [(zN eI a1)])] (items.map fun x=>[(di x.1),(di x.2)]) (goB O (items.map fun x=>[(di x.1),(di x.2)]).length):=by
 rw[List.length_map];refine z6B Tryz.func87 (by kernel_rfl) rfl lr lr fun w0 I0 J hc hg hG l0 hE=>?_;unfold zBQ at h;refine Q15 ?_;have ⟨y1,aj,h⟩:=bE h;refine zO y1 (.exit 0) (fun y1=>⟨[(1000000,.gh y1)],[]⟩) .ret (fun y1=>⟨[(1000000,.gh y1)],[]⟩) ?_ ?_ ?_;refine zB (fun x=>⟨[(0,.d (.v (.func (.yield l0) #[] #[]))),(1,.d (.pt [(zN eI a1)])),(3,.d (di x.1)),(1000000,.gh x.2)],[]⟩) aj wc ?_
 rintro⟨v3,z⟩ am G
 replace G:wC a1 items O v3 z=some am:=G;unfold wC at G;refine Q4 ?_;refine q65 O37 ?_;refine Q65 ?_;refine zV G (fun G=>?_) (fun G=>?_);refine zI<|Q66 ?_;refine Q9 ?_;refine Q49 ?_;have ⟨y2,ak,G⟩:=bE G;refine tl (.exit 2) ⟨[(0,.d (.v (.func (.yield l0) #[] #[]))),(1,.d (.pt [(zN eI a1)])),(3,.d (di v3)),(4,.d (di y2)),(1000000,.gh z)],[]⟩ ?_ ?_;refine zB (fun x=>⟨[(0,.d (.v (.func (.yield l0) #[] #[]))),(1,.d (.pt [(zN eI a1)])),(3,.d (di v3)),(4,.d (di x)),(1000000,.gh z)],[]⟩) ak wc ?_
 rintro v4 an H
 replace H:wB a1 v3 v4=some an:=H;unfold wB at H;refine z8<|z8 ?_;refine zX MX rfl ?_;refine q8 ?_;refine q94 O37 ?_;refine yC4 z3 ?_;refine z4X ?_;have ⟨_,ag,H⟩:=bE H;refine q55 ag ?_;refine yHN (.d (zN eI a1)) O37 ?_;refine q53 (.d (di v4)) ?_;have ⟨aa,T,H⟩:=bE H;refine dat (.ip (eI.all a1) (v4.toNat*eI.size)) rfl (fun hb=>by subst hb;exact yZ (en:=eI) lr z3 rfl rfl T) ?_
 refine dat (.d (di aa)) rfl (fun hb=>by subst hb;exact zT (en:=eI) (l:=a1) (i:=v4) (v:=aa) (off:=0) lr O3 rfl T rfl) ?_
 refine yHN (.d (zN eI a1)) O37 ?_;refine q53 (.d (di v3)) ?_;have ⟨ab,Y,H⟩:=bE H;refine dat (.ip (eI.all a1) (v3.toNat*eI.size)) rfl (fun hb=>by subst hb;exact yZ (en:=eI) lr z3 rfl rfl Y) ?_
 refine dat (.d (di ab)) rfl (fun hb=>by subst hb;exact zT (en:=eI) (l:=a1) (i:=v3) (v:=ab) (off:=0) lr O3 rfl Y rfl) ?_
 refine dat (.d (db (decide (aa=ab)))) rfl (fun hb=>by subst hb;exact zI1 lr rfl rfl) ?_
 refine Q90 ?_;refine zV H (fun H=>?_) (fun H=>?_);refine z48 ?_;refine Q12 ?_;exact ew H;exact zD (ex H);refine Q4 ?_;refine q65 O37 ?_;refine q0 ?_;have ⟨_,Z,G⟩:=bE G;refine q12 z3 Z ?_;refine q27 O3 Z ?_;refine Q41 ?_;refine q21 ?_;have ⟨_,ah,G⟩:=bE G;refine z2 rfl (zYB (k:=z) lr hE rfl rfl rfl (z4M _ ah)) ?_;refine Q40 ?_;refine zV G (fun G=>?_) (fun G=>?_);refine zQ ?_;cases G;intro q;cases q;exact⟨rfl,wc⟩;refine zI<|Q77 ?_;exact ew G;refine zD ?_;cases G;intro q;cases q;exact⟨rfl,wc⟩
 rintro y1 rfl
 replace h:=eL h;exact⟨rfl,zMC _ h⟩
 rintro y1 rfl
 replace h:=eR h;exact⟨rfl,zMC _ h⟩
theorem zT6 {h:(List Int)}:zE Tryz.prog 51 [(zN eI h)] [(.fn 87 [(.pt [(zN eI h)])])]:=by refine co Tryz.func51 ?_;intro _ _ _ _;refine Q91 ?_;refine Q48 ?_;refine yHO ?_;refine Q1 ?_;refine zQ ?_;exact zTR rfl
def du (n:Int):DV:= .v (.int .u64 n)
theorem yH3 (y:Int) (h:0≤y) (k:y<2147483648):zE Tryz.prog 133 [du 1,du y] [du 0,du y]:=by refine co Tryz.func133 ?_;intro _ _ _ _;refine z8<|kZ ?_;refine kE (xH lr rfl) ?_;refine kE (xH lr rfl) ?_;refine zG<|z8<|kZ ?_;refine kE (zS lr rfl) ?_;refine kE (z36 lr rfl rfl (by omega) (by omega)) ?_;refine kE (xH lr rfl) ?_;refine zG<|z8<|kZ ?_;refine kE (zS lr rfl) ?_;refine kE (zWD (m:=32) lr rfl rfl (by decide)) ?_;refine kE (xH lr rfl) ?_;refine zG<|z8<|kZ ?_;refine kE (zS lr rfl) ?_;refine kE (z36 lr rfl rfl (by omega) (by omega)) ?_;refine kE (xH lr rfl) ?_;refine zG<|z8<|kZ ?_;refine kE (zS lr rfl) ?_;refine kE (zWD (m:=32) lr rfl rfl (by decide)) ?_;refine kE (xH lr rfl) ?_;refine zG<|z8<|kZ ?_;refine kE (zS lr rfl) ?_;refine kE (zS lr rfl) ?_;refine kE (z0S lr rfl rfl (zTI (by omega) (by omega))) ?_;refine kE (xH lr rfl) ?_;refine zG<|z8<|kZ ?_;refine kE (zS lr rfl) ?_;refine kE (zS lr rfl) ?_;refine kE (z0S lr rfl rfl (zTI (by omega) (by omega))) ?_;refine kE (zS lr rfl) ?_;refine kE (zWD (m:=32) lr rfl rfl (by decide)) ?_;refine kE (zWC lr rfl rfl (zTI (by omega) (by omega))) ?_;refine kE (xH lr rfl) ?_;refine zG<|z8<|kZ ?_;refine kE (zS lr rfl) ?_;refine kE (z36 lr rfl rfl (by omega) (by omega)) ?_;refine kE (xH lr rfl) ?_;refine zG<|z8<|kZ ?_;refine kE (zS lr rfl) ?_;refine kE (zWD (m:=32) lr rfl rfl (by decide)) ?_;refine kE (xH lr rfl) ?_;refine zG<|z8<|kZ ?_;refine kE (zS lr rfl) ?_;refine kE (zS lr rfl) ?_;refine kE (zS lr rfl) ?_;refine kE (z0S lr rfl rfl (zTI (by omega) (by omega))) ?_;refine kE (zWC lr rfl rfl (zTI (by omega) (by omega))) ?_;refine kE (xH lr rfl) ?_;refine zG<|z8<|kZ ?_;refine kE (zS lr rfl) ?_;refine kE (zS lr rfl) ?_;refine kE (z0S lr rfl rfl (zTI (by omega) (by omega))) ?_;refine kE (zS lr rfl) ?_;refine kE (zWC lr rfl rfl (zTI (by omega) (by omega))) ?_;refine kE (zS lr rfl) ?_;refine kE (zWD (m:=32) lr rfl rfl (by decide)) ?_;refine kE (zWC lr rfl rfl (zTI (by omega) (by omega))) ?_;refine kE (xH lr rfl) ?_;refine zG<|z8<|kZ ?_;refine kE (zS lr rfl) ?_;refine kE (zS lr rfl) ?_;refine kE (z0S lr rfl rfl (zTI (by omega) (by omega))) ?_;refine kE (xH lr rfl) ?_;refine zG<|zQ ?_;exact zCF (by first | rfl | exact congrArg some (congrArg (fun n=>DV.v (.int .u64 n)) (by omega))) (by first | rfl | exact congrArg some (congrArg (fun n=>DV.v (.int .u64 n)) (by omega)))
theorem yOI (y:Int) (k:0≤y) (z:y<2147483648):zE Tryz.prog 88 [du 1,du y] [du 0,du y]:=by
 refine co Tryz.func88 ?_;intro _ _ _ _;refine z18 ?_;refine z8 ?_;refine zHE rfl ⟨fun h=>?_,fun h=>?_⟩
 try simp only[Bool.and_eq_true,Bool.or_eq_true,Bool.not_eq_true',Bool.and_eq_false_iff,Bool.or_eq_false_iff,Bool.not_eq_false',decide_eq_true_eq,decide_eq_false_iff_not,Int.not_lt,Int.not_le] at h
 cases h
 try simp only[Bool.and_eq_true,Bool.or_eq_true,Bool.not_eq_true',Bool.and_eq_false_iff,Bool.or_eq_false_iff,Bool.not_eq_false',decide_eq_true_eq,decide_eq_false_iff_not,Int.not_lt,Int.not_le] at h
 refine zI<|Q14 ?_;refine q4 (yH3 _ (by omega) (by omega)) ?_;refine Q92 ?_;refine Q14 ?_;refine Q17 ?_;refine zQ ?_;exact zCF rfl rfl
theorem yDN (v:Int) (n:Nat) (Y:n<2147483648):zE Tryz.prog 52 [.ints [v],di n] [.ints (List.replicate n v)]:=by
 refine co Tryz.func52 ?_;intro _ _ _ _;refine Q43 ?_;refine Q6 ?_;refine zHE rfl ⟨fun z=>?_,fun z=>?_⟩
 ·
  try simp only[Bool.and_eq_true,Bool.or_eq_true,Bool.not_eq_true',Bool.and_eq_false_iff,Bool.or_eq_false_iff,Bool.not_eq_false',decide_eq_true_eq,decide_eq_false_iff_not,Int.not_lt,Int.not_le] at z
  exfalso;omega
 ·
  try simp only[Bool.and_eq_true,Bool.or_eq_true,Bool.not_eq_true',Bool.and_eq_false_iff,Bool.or_eq_false_iff,Bool.not_eq_false',decide_eq_true_eq,decide_eq_false_iff_not,Int.not_lt,Int.not_le] at z
  refine z49 ?_;refine kE (z57 lr z3 rfl (rfl:_=1*1)) ?_;refine kE (zQH lr Tryz.underlying3 Tryz.underlying94 rfl (zTI (by omega) (by omega))) ?_;refine q0 ?_;refine kE (zQH lr Tryz.underlying3 Tryz.underlying94 rfl (zTI (by omega) (by omega))) ?_;refine q4 (yOI _ (by omega) (by omega)) ?_;refine Q92 ?_;refine Q4 ?_;refine q41 ?_;refine q0 ?_;apply yGK rfl rfl rfl lr lr rfl;focus (intro hb;simp only[gd,Bool.not_eq_true'] at hb;(try rw[hb]);(try simp only[decide_eq_true_eq,decide_eq_false_iff_not,Bool.and_eq_true,Bool.or_eq_false_iff,Bool.not_eq_true'] at hb);first | exact zS lr rfl | exact zFR lr rfl | exact zNX lr rfl | exact z8R lr rfl | exact zH7 lr rfl)
  apply yGK rfl rfl rfl lr lr rfl;focus (intro hb;simp only[gd,Bool.not_eq_true'] at hb;(try rw[hb]);(try simp only[decide_eq_true_eq,decide_eq_false_iff_not,Bool.and_eq_true,Bool.or_eq_false_iff,Bool.not_eq_true'] at hb);exact zOO lr rfl rfl)
  refine Q39 ?_;refine zHE rfl ⟨fun G=>?_,fun G=>?_⟩
  ·
   try simp only[Bool.and_eq_true,Bool.or_eq_true,Bool.not_eq_true',Bool.and_eq_false_iff,Bool.or_eq_false_iff,Bool.not_eq_false',decide_eq_true_eq,decide_eq_false_iff_not,Int.not_lt,Int.not_le] at G
   exfalso;omega
  ·
   try simp only[Bool.and_eq_true,Bool.or_eq_true,Bool.not_eq_true',Bool.and_eq_false_iff,Bool.or_eq_false_iff,Bool.not_eq_false',decide_eq_true_eq,decide_eq_false_iff_not,Int.not_lt,Int.not_le] at G
   refine z49 ?_;refine kE (zQH lr Tryz.underlying94 Tryz.underlying3 rfl (w64 (by omega) (by omega))) ?_;refine z2 rfl (zQC lr z3 rfl rfl (by omega) (by unfold maxLen;omega) rfl) ?_
   refine Q10 ?_;refine Q64 ?_;refine z2 rfl (zYA (n:=n) (m:=1) lr z3 rfl rfl (by simp[zW3]) rfl rfl rfl) ?_;refine Q1 ?_;refine Q49 ?_;refine z0N (ι:=Nat) (fun k=>⟨[(7,.row 30),(8,.d (di k))],[(30,.row 3 1 false (rp v k n))]⟩) (fun k=>k≤n∧(0<n→0<k)) (fun k=>n-k) (min 1 n) ?_ ?_ ?_
   ·
    omega
   ·
    refine zOT ⟨?_,?_,trivial⟩ ⟨?_,trivial⟩<;>(first | rfl | exact zX8 (by simp;omega) | exact zX9 (yG7 v n))
   ·
    rintro k T
    obtain⟨O,Z⟩:=T;refine Q4 ?_;refine q5 ?_;refine kE (zWG lr z3 rfl rfl (zTX _ (by omega))) ?_;refine Q6 ?_;refine zHE rfl ⟨fun H=>?_,fun H=>?_⟩
    ·
     try simp only[Bool.and_eq_true,Bool.or_eq_true,Bool.not_eq_true',Bool.and_eq_false_iff,Bool.or_eq_false_iff,Bool.not_eq_false',decide_eq_true_eq,decide_eq_false_iff_not,Int.not_lt,Int.not_le] at H
     refine z48 ?_;refine z8X (o0:=_) (oB:=_) (front:=[_,_,_,_,_,_]) (tail:=[_,_]) 7 MX rfl rfl rfl ?_;refine Q93 ?_;refine daa (zL0 (n:=n) (l:=k) (h:=n) lr z3 rfl rfl (zTX v (by omega)) ⟨⟨_,_,rfl,rfl⟩,rfl,by omega,by omega⟩) ?_;refine Q93 ?_;refine daa (zL0 (n:=n) (l:=0) (h:=k) lr z3 rfl rfl (zTX v (by omega)) ⟨rfl,⟨_,_,rfl,rfl⟩,by omega,by omega⟩) ?_;refine xG ?_;refine⟨?_,_,_,zTB rfl (zS lr rfl),?_⟩
     ·
      refine z2 rfl (zOU (n:=n) (n1:=n-k) (m:=k-0) (off:=k) (o2:=0) lr z3 rfl rfl (zTX v (by omega)) rfl (by omega) (by omega) rfl) ?_;refine q0 ?_;refine kE (zWC lr rfl rfl (w64 (by omega) (by omega))) ?_;refine Q1 ?_;refine z0Z (K:=fun _ _=>True) (j:=k+min k (n-k)) ?_ ?_ ?_
      ·
       omega
      ·
       omega
      ·
       refine zOT ⟨?_,?_,trivial⟩ ⟨?_,trivial⟩<;>(first | rfl | exact zX8 (by simp;omega) | exact zX9 (z6P v O))
     ·
      refine z2 rfl (zOU (n:=n) (n1:=n-k) (m:=k-0) (off:=k) (o2:=0) lr z3 rfl rfl (zTX v (by omega)) rfl (by omega) (by omega) rfl) ?_;refine kE (zWC lr rfl rfl (w64 (by omega) (by omega))) ?_;refine Q1 ?_;refine z0Z (K:=fun _ _=>True) (j:=k+min k (n-k)) ?_ ?_ ?_
      ·
       omega
      ·
       omega
      ·
       refine zOT ⟨?_,?_,trivial⟩ ⟨?_,trivial⟩<;>(first | rfl | exact zX8 (by simp;omega) | exact zX9 (z6P v O))
    ·
     try simp only[Bool.and_eq_true,Bool.or_eq_true,Bool.not_eq_true',Bool.and_eq_false_iff,Bool.or_eq_false_iff,Bool.not_eq_false',decide_eq_true_eq,decide_eq_false_iff_not,Int.not_lt,Int.not_le] at H
     refine zD<|Q47 ?_;refine zQ ?_;exact yGL rfl rfl (by rw[show k=n by omega];exact yG8 v n)
theorem zCB {k:List Int} {a1:Int} {r:List Int} (h:jW k a1=some r):zE Tryz.prog 52 [(zN eI k),(di a1)] [(zN eI r)]:=by unfold jW yLR at h;split at h;split at h;rename_i v hb;cases h;have q:=yDN v a1.toNat (by omega);rw[show ((a1.toNat:Nat):Int)=a1 by omega] at q;rw[z1R,z1R];exact q;cases h;cases h
theorem zDQ {a0 a1 r} (h:jY a0 a1=some r):zE Tryz.prog 27 [(zN eI a0),(di a1)] [(zN eI r)]:=by
 refine co Tryz.func27 ?_;intro _ _ _ _;unfold jY at h;refine Q56 ?_;have ⟨H,ar,h⟩:=bE h;refine q4 (zFE ar) ?_;refine z2 rfl (yE (zs:=[(.int IntKind.i64 (0))]) lr (by kernel_rfl) rfl rfl) ?_;refine Q86 ?_;refine zL (z0 (t:=5) lr rfl rfl rfl) ?_;refine Q2 ?_;refine q6 z3 ?_;have ⟨al,aq,h⟩:=bE h;refine z2 rfl (z4B (en:=eI) lr z3 rfl rfl aq (by decide) rfl) ?_;refine q95 ?_;refine Q94 ?_;refine Q4 ?_;refine Q80 ?_;have ⟨y1,bb,h⟩:=bE h;refine tl (.exit 0) ⟨[(5,.d (.pt [(di H)])),(6,.ptr 6 0)],[(6,.box 37 [.row 18]),(18,.row 3 eI.size false (eI.all y1))]⟩ ?_ ?_
 ·
  refine zB (fun x=>⟨[(5,.d (.pt [(di H)])),(6,.ptr 6 0),(19,.d (zN eI a0)),(20,.d (di (a0.length:Int))),(21,.d (di x.1))],[(6,.box 37 [.row 18]),(18,.row 3 eI.size false (eI.all x.2))]⟩) bb wc ?_
  rintro⟨an,al⟩ bc p1
  replace p1:zAS a0 an al=some bc:=p1;unfold zAS at p1;refine Q22 ?_;refine zV p1 (fun p1=>?_) (fun p1=>?_)
  ·
   refine Q5 ?_;have ⟨y2,G,p1⟩:=bE p1;refine tl .normal ⟨[(5,.d (.pt [(di H)])),(6,.ptr 6 0),(19,.d (zN eI a0)),(20,.d (di (a0.length:Int))),(21,.d (di an))],[(6,.box 37 [.row 18]),(18,.row 3 eI.size false (eI.all y2))]⟩ ?_ ?_
   ·
    refine Q66 ?_;have ⟨aw,ad,G⟩:=bE G;refine q12 z3 ad ?_;refine q27 O3 ad ?_;refine Q71 ?_;refine q43 ?_;have ⟨_,ap,G⟩:=bE G;refine q7 ap ?_;refine q14 (.d (di aw)) ?_;refine q57 (.d (db (decide (aw≤65535)))) ?_;refine Q36 ?_;refine zV G (fun G=>?_) (fun G=>?_)
    ·
     refine kZ<|q23 O37 ?_;refine Q41 ?_;have ⟨bd,ag,G⟩:=bE G;refine q63 z3 ag ?_;have ⟨_,ac,G⟩:=bE G;refine z2 rfl (wA (en:=eI) (l:=al) (i:=an) (v:=bd) (off:=0) O3 rfl rfl rfl ag rfl (by decide) ac rfl rfl) ?_;refine zG ?_;exact eo G
    ·
     refine zI ?_;exact eo G
   ·
    refine Q24 ?_;exact ew p1
  ·
   exact zD (ex p1)
 ·
  refine Q0 ?_;refine q95 ?_;refine zG ?_;refine zL (zCE (bid:=9) (off:=0) 4180 3 eI.size lr (by decide) rfl rfl rfl) ?_;refine Q0 ?_;refine z2 rfl (yE (zs:=[(.int IntKind.i64 (0))]) lr (by kernel_rfl) rfl rfl) ?_;refine Q86 ?_;refine Q18 ?_;refine q23 O37 ?_;refine zGH (zBD (t:=37) lr rfl rfl) ?_ (by simp);refine q4 zT6 ?_;refine z5A ?_;refine zL (zDT (bid:=6) (off:=0) rfl rfl rfl) ?_;refine zL (z0 (t:=6) lr rfl rfl rfl) ?_;have ⟨y4,au,h⟩:=bE h;have ⟨_,ai,h⟩:=bE h;obtain⟨bo,bg,bp⟩:=y4;dsimp only at h ai;cases bg
  ·
   replace h:=yPN h;cases h
  ·
   replace h:=yPM h;refine zTH .normal [(5,.d (.pt [(di H)])),(6,.d (.pt [(zN eI y1)])),(9,.ptr 9 0),(10,.ptr 10 0)] [9,10] (fun k=>(fun s=>[(9,.box 37 [.row 4180]),(10,.box 3 [.d (di s.1)]),(4180,.row 3 eI.size false (eI.all s.2))]) (zO5 (fun (s:Int×(List Int)) (x:Int×Int)=>wJ H y1 s.1 s.2 x) k (0,[]) (zA3 y1))) rfl (.inl rfl) (zQR ai) rfl (fun _ _ _ _ h=>h) ?hk ?hT rfl (fun _=>rfl) ?hbx (fun _ _=>rfl) ?hl ?hpn ?rd ?hK
   case hk=>exact⟨rfl,rfl,rfl,rfl,trivial⟩
   case hT=>exact⟨rfl,rfl,rfl,trivial⟩
   case hbx=>intro k id hi;simp at hi;rcases hi with rfl | rfl<;>exact fun (h:Blk.box _ _=Blk.none)=>by cases h
   case hl=>intro x hx;obtain⟨y,_,rfl⟩:=List.mem_map.1 hx;rfl
   case hpn=>intro p hp;simp at hp;rcases hp with rfl | rfl<;>exact lr
   case rd=>
    intro w1 Iall X C0 br bh l1 D bk bl bj k x hx;rw[List.getElem?_map] at hx;obtain⟨xv,ba,rfl⟩:=Option.map_eq_some_iff.1 hx;have p4:=z9M (fun x=>[(di x.1),(di x.2)]) au ba;generalize zO5 (fun (s:Int×(List Int)) (x:Int×Int)=>wJ H y1 s.1 s.2 x) k (0,[]) (zA3 y1)=q at p4 ⊢;obtain⟨O,T⟩:=q;replace p4:wJ H y1 O T xv=some _:=p4;unfold wJ at p4;refine Q3 ?_;refine kZ<|Q1 ?_;have ⟨y5,z,p4⟩:=bE p4;refine tl .normal ⟨[(9,.ptr 9 0),(10,.ptr 10 0)],[(9,.box 37 [.row 4180]),(10,.box 3 [.d (di y5.1)]),(4180,.row 3 eI.size false (eI.all y5.2))]⟩ ?_ ?_
    ·
     refine z4<|Q0 ?_;refine q23 O3 ?_;refine q0 ?_;refine q2 ?_;refine Q86 ?_;refine Q4 ?_;refine q65 O3 ?_;refine Q52 ?_;have ⟨y6,Z,z⟩:=bE z;refine tl .normal ⟨[(5,.d (.pt [(di H)])),(6,.d (.pt [(zN eI y1)])),(9,.ptr 9 0),(10,.ptr 10 0),(11,.d (di y6)),(12,.d (di xv.2))],[(9,.box 37 [.row 4180]),(10,.box 3 [.d (di (wi (O+xv.2)))]),(4180,.row 3 eI.size false (eI.all T))]⟩ ?_ ?_
     ·
      refine zV Z (fun Z=>?_) (fun Z=>?_)
      ·
       refine Q12 ?_;exact eo Z
      ·
       refine zI ?_;exact eo Z
     ·
      refine Q4 ?_;refine q65 O3 ?_;refine Q32 ?_;refine zV z (fun z=>?_) (fun z=>?_)
      ·
       refine z8 ?_;refine zDG 5 MX rfl ?_;refine z4Y O37 ?_;refine q8 ?_;refine z9R z3 ?_;refine q8 ?_;have ⟨be,k,z⟩:=bE z;refine q25 (zCB k) ?_;refine xG ?_;have ⟨_,k,z⟩:=bE z;refine z2 rfl (z6 (en:=eI) (l:=T) (m:=be) lr z3 rfl rfl rfl k (by decide) (by decide) rfl rfl) ?_;refine Q94 ?_;exact zD (eo z)
      ·
       refine Q5 ?_;refine zDG 8 MX rfl ?_;refine z4Y O37 ?_;refine q94 O3 ?_;refine z9S ?_;refine q89 ?_;refine z9R z3 ?_;refine q8 ?_;have ⟨_,k,z⟩:=bE z;refine daa (yB5 lr rfl rfl k) ?_;have ⟨bf,k,z⟩:=bE z;refine q25 (zCB k) ?_;refine xG ?_;have ⟨Y,k,z⟩:=bE z;refine z2 rfl (z6 (en:=eI) (l:=T) (m:=bf) lr z3 rfl rfl rfl k (by decide) (by decide) rfl rfl) ?_;refine Q94 ?_;refine Q2 ?_;have ⟨ax,k,z⟩:=bE z;refine q60 k ?_;refine Q78 ?_;refine zV z (fun z=>?_) (fun z=>?_)
       ·
        refine z8 ?_;refine zX MX rfl ?_;refine z4Y O3 ?_;refine q94 O37 ?_;refine yC4 z3 ?_;refine daa (zI1 lr rfl rfl) ?_;have ⟨_,k,z⟩:=bE z;refine q55 k ?_;refine daf (.d (zN eI y1)) rfl (fun hb=>by subst hb;exact zJW lr O37 rfl) ?_
        refine daf (.d (di (wi (O+xv.2)))) rfl (fun hb=>by subst hb;exact zCD lr O3 rfl rfl rfl) ?_
        have ⟨am,ah,z⟩:=bE z;refine daf (.ip (eI.all y1) ((wi (O+xv.2)).toNat*eI.size)) rfl (fun hb=>by subst hb;exact yZ (en:=eI) lr z3 rfl rfl ah) ?_
        refine daf (.d (di am)) rfl (fun hb=>by subst hb;exact zT (en:=eI) (l:=y1) (i:=(wi (O+xv.2))) (v:=am) (off:=0) lr O3 rfl ah rfl) ?_
        refine daf (.d (di H)) rfl (fun hb=>by subst hb;exact zJW lr O3 rfl) ?_
        refine daf (.d (db (decide (am<H)))) rfl (fun hb=>by subst hb;exact zLX lr rfl rfl) ?_
        refine q90 ?_;refine xG ?_;refine zV z (fun z=>?_) (fun z=>?_)
        ·
         refine kZ<|q23 O37 ?_;refine q65 O3 ?_;refine q0 ?_;refine q2 ?_;refine q21 ?_;refine q19 z3 ?_;have ⟨_,k,z⟩:=bE z;refine z2 rfl (z6 (en:=eI) (l:=Y) (m:=[wi ((wi (H+ax))-1)]) lr z3 rfl rfl rfl k (by decide) (by decide) rfl rfl) ?_;refine Q94 ?_;exact eo z
        ·
         refine kZ<|q23 O37 ?_;refine q65 O3 ?_;refine q2 ?_;refine q21 ?_;refine q0 ?_;refine q21 ?_;refine q19 z3 ?_;have ⟨_,k,z⟩:=bE z;refine z2 rfl (z6 (en:=eI) (l:=Y) (m:=[wi ((wi ((wi (H+16))-1))-ax)]) lr z3 rfl rfl rfl k (by decide) (by decide) rfl rfl) ?_;refine Q94 ?_;exact eo z
       ·
        refine zI ?_;exact eo z
    ·
     exact yPO (Tf:=fun s=>[(9,.box 37 [.row 4180]),(10,.box 3 [.d (di s.1)]),(4180,.row 3 eI.size false (eI.all s.2))]) (s:=(y5.1,y5.2)) p4 (⟨rfl,rfl,rfl,trivial⟩)
   case hK=>
    rw[yG6 au];refine Q0 ?_;refine q23 O37 ?_;refine Q10 ?_;exact er h
theorem zQS {z a1 r} (h:zIC z a1=some r):zE Tryz.prog 53 [(di z),(di a1)] [(di r.1),(di r.2.1),(db r.2.2)]:=by refine co Tryz.func53 ?_;intro _ _ _ _;unfold zIC at h;refine Q0 ?_;refine Q81 ?_;refine Q49 ?_;refine Q2 ?_;refine q3 ?_;have ⟨_,k,h⟩:=bE h;refine q7 k ?_;refine q39 (.d (di z)) ?_;refine q42 (.d (db (decide (65549<z)))) ?_;refine q18 ?_;refine Q1 ?_;refine zV h (fun h=>?_) (fun h=>?_);refine Q0 ?_;refine Q81 ?_;cases h;refine zQ ?_;exact zFS rfl rfl rfl;refine Q14 ?_;refine q3 ?_;refine Q1 ?_;refine zV h (fun h=>?_) (fun h=>?_);refine Q2 ?_;refine Q81 ?_;cases h;refine zQ ?_;exact zFS rfl rfl rfl;refine Q95 ?_;refine q3 ?_;refine Q1 ?_;refine zV h (fun h=>?_) (fun h=>?_);refine Q72 ?_;refine q21 ?_;refine q2 ?_;refine Q81 ?_;cases h;refine zQ ?_;exact zFS rfl rfl rfl;refine Q95 ?_;refine q81 ?_;refine Q1 ?_;refine zV h (fun h=>?_) (fun h=>?_);refine Q95 ?_;refine q21 ?_;refine q0 ?_;refine q21 ?_;refine Q81 ?_;cases h;refine zQ ?_;exact zFS rfl rfl rfl;refine z49 ?_;refine q21 ?_;refine Q81 ?_;cases h;refine zQ ?_;exact zFS rfl rfl rfl
theorem zLB {k r} (h:zD6 k=some r):zE Tryz.prog 134 [(di k)] [(db r)]:=by refine co Tryz.func134 ?_;intro _ _ _ _;unfold zD6 at h;refine z19 ?_;refine q26 ?_;refine Q1 ?_;exact er h
theorem wG {z a1 r} (h:jP z a1=some r):zE Tryz.prog 92 [(di z),(di a1)] [(di r)]:=by refine co Tryz.func92 ?_;intro _ _ _ _;unfold jP at h;refine Q56 ?_;have ⟨_,k,h⟩:=bE h;refine q4 (zLB k) ?_;refine Q35 ?_;have ⟨_,k,h⟩:=bE h;refine q4 (zLB k) ?_;refine Q1 ?_;refine Q96 ?_;refine zV h (fun h=>?_) (fun h=>?_);refine Q96 ?_;refine zV h (fun h=>?_) (fun h=>?_);refine Q3 ?_;exact er h;refine Q53 ?_;exact er h;refine zI<|Q96 ?_;refine zV h (fun h=>?_) (fun h=>?_);refine Q3 ?_;exact er h;refine zI<|Q73 ?_;refine zV h (fun h=>?_) (fun h=>?_);refine Q3 ?_;exact er h;refine zI<|Q13 ?_;refine Q52 ?_;refine zV h (fun h=>?_) (fun h=>?_);refine Q3 ?_;exact er h;refine Q53 ?_;exact er h
theorem zHK {G a1 r} (h:vY G a1=some r):zE Tryz.prog 59 [(zN eI G),(zN eI a1)] [(di r)]:=by
 refine co Tryz.func59 ?_;intro _ _ _ _;unfold vY at h;refine Q43 ?_;refine q6 z3 ?_;refine q0 ?_;refine q6 z3 ?_;refine yC5 ?_;refine Q29 ?_;have ⟨H,k,h⟩:=bE h;refine zO H (.exit 0) (fun H=>⟨[(0,.d (zN eI G)),(1,.d (zN eI a1))],[]⟩) .ret (fun H=>⟨[(4,.d (di H))],[]⟩) ?_ ?_ ?_;refine zB (fun x=>⟨[(0,.d (zN eI G)),(1,.d (zN eI a1)),(10,.d (di (min (G.length:Int) (a1.length:Int)))),(11,.d (di x))],[]⟩) k wc ?_
 rintro T O z
 replace z:xW G a1 T=some O:=z;unfold xW at z;refine Q22 ?_;refine zV z (fun z=>?_) (fun z=>?_);refine Q8 ?_;refine Q28 ?_;refine z8 ?_;refine zX MX rfl ?_;refine Q33 ?_;have ⟨_,k,z⟩:=bE z;refine q28 z3 k ?_;refine q74 O3 k ?_;refine Q33 ?_;have ⟨_,k,z⟩:=bE z;refine q28 z3 k ?_;refine q74 O3 k ?_;refine daa (zOP lr rfl rfl) ?_;refine xG ?_;refine zV z (fun z=>?_) (fun z=>?_);refine z8 ?_;refine zX MX rfl ?_;refine Q33 ?_;have ⟨_,k,z⟩:=bE z;refine q28 z3 k ?_;refine q74 O3 k ?_;refine Q33 ?_;have ⟨_,k,z⟩:=bE z;refine q28 z3 k ?_;refine q74 O3 k ?_;have ⟨_,k,z⟩:=bE z;refine q25 (wG k) ?_;refine Q50 ?_;refine zQ ?_;cases z;intro q;cases q;exact⟨rfl,wc⟩;refine Q54 ?_;exact ew z;refine zD ?_;cases z;intro q;cases q;exact⟨rfl,wc⟩
 rintro H rfl
 replace h:=eL h;refine Q2 ?_;refine q6 z3 ?_;refine q0 ?_;refine q6 z3 ?_;have ⟨_,k,h⟩:=bE h;refine q4 (wG k) ?_;refine Q1 ?_;exact er h
 rintro H rfl
 replace h:=eR h;exact es h
theorem zO8 {z a1 r} (h:zCQ z a1=some r):zE Tryz.prog 54 [(zN eI z),(zN eI a1)] [(db r)]:=by refine co Tryz.func54 ?_;intro _ _ _ _;unfold zCQ at h;refine z19 ?_;have ⟨_,k,h⟩:=bE h;refine q4 (zHK k) ?_;refine Q74 ?_;exact er h
theorem zJ2 {O a1 r} (h:vK O a1=some r):zE Tryz.prog 28 [(zN eI O),(di a1)] [(zN eI r.1),(di r.2)]:=by
 refine co Tryz.func28 ?_;intro _ _ _ _;unfold vK at h;refine Q0 ?_;refine Q71 ?_;have ⟨T,k,h⟩:=bE h;refine q4 (zFE k) ?_;refine Q1 ?_;refine Q3 ?_;refine zL (jN (t:=7) 1007 3 eI.size lr lr rfl rfl) ?_;refine Q4 ?_;refine Q80 ?_;have ⟨H,k,h⟩:=bE h;refine zO H (.exit 0) (fun H=>⟨[(0,.d (zN eI O)),(6,.d (di T)),(7,.row 1007)],[(1007,.row 3 eI.size false (eI.all H))]⟩) .ret (fun H=>⟨[(4,.row 1004),(5,.d (di H.1))],[(1004,.row 3 eI.size false (eI.all H.2))]⟩) ?_ ?_ ?_;refine zB (fun x=>⟨[(0,.d (zN eI O)),(6,.d (di T)),(7,.row 1007),(15,.d (zN eI O)),(16,.d (di (O.length:Int))),(17,.d (di x.1))],[(1007,.row 3 eI.size false (eI.all x.2))]⟩) k wc ?_
 rintro⟨aa,G⟩ Y z
 replace z:zE7 O T aa G=some Y:=z;unfold zE7 at z;refine Q22 ?_;refine zV z (fun z=>?_) (fun z=>?_);refine Q30 ?_;have ⟨_,k,z⟩:=bE z;refine q12 z3 k ?_;refine q27 O3 k ?_;refine Q1 ?_;refine Q14 ?_;have ⟨_,k,z⟩:=bE z;refine q4 (zQS k) ?_;refine Q61 ?_;refine q33 ?_;refine Q81 ?_;refine Q4 ?_;refine Q40 ?_;refine zV z (fun z=>?_) (fun z=>?_);refine z18 ?_;refine zL (jN (t:=4) 1004 3 eI.size lr lr rfl rfl) ?_;refine zQ ?_;cases z;intro q;cases q;exact⟨rfl,wc⟩;refine zI<|Q31 ?_;refine q19 z3 ?_;refine q0 ?_;have ⟨Z,k,z⟩:=bE z;refine q4 (zCB k) ?_;have ⟨_,k,z⟩:=bE z;refine z2 rfl (z6 (en:=eI) (l:=G) (m:=Z) lr z3 rfl rfl rfl k (by decide) (by decide) rfl rfl) ?_;refine Q10 ?_;refine Q24 ?_;exact ew z;refine zD ?_;cases z;intro q;cases q;exact⟨rfl,wc⟩
 rintro H rfl
 replace h:=eL h;refine Q18 ?_;refine Q16 ?_;have ⟨_,k,h⟩:=bE h;refine z2 rfl (z32 lr rfl rfl (zDQ k)) ?_;refine q0 ?_;have ⟨_,k,h⟩:=bE h;refine q4 (zO8 k) ?_;refine Q40 ?_;refine zV h (fun h=>?_) (fun h=>?_);refine z18 ?_;refine zL (jN (t:=4) 1004 3 eI.size lr lr rfl rfl) ?_;cases h;refine zQ ?_;exact zCF rfl rfl;refine zI<|Q37 ?_;refine q13 ?_;refine Q1 ?_;cases h;refine zQ ?_;exact zCF rfl rfl
 rintro H rfl
 replace h:=eR h;cases h;exact zCF rfl rfl
theorem zEO {H a1 r} (h:uS H a1=some r):zE Tryz.prog 14 [(zN eI H),(zN eI a1)] [(di r)]:=by
 refine co Tryz.func14 ?_;intro _ _ _ _;unfold uS at h;refine Q82 ?_;have ⟨G,k,h⟩:=bE h;refine zO G (.exit 0) (fun G=>⟨[(0,.d (zN eI H)),(1,.d (zN eI a1))],[]⟩) .ret (fun G=>⟨[(4,.d (di G))],[]⟩) ?_ ?_ ?_;refine zB (fun x=>⟨[(0,.d (zN eI H)),(1,.d (zN eI a1)),(5,.d (di x))],[]⟩) k wc ?_
 rintro T O z
 replace z:uX H a1 T=some O:=z;unfold uX at z;refine Q13 ?_;refine q6 z3 ?_;refine q3 ?_;have ⟨_,k,z⟩:=bE z;refine q7 k ?_;refine q14 (.d (di T)) ?_;refine q14 (.d (zN eI a1)) ?_;refine z9T (.d (di (a1.length:Int))) z3 ?_;refine q82 (.d (db (decide (T<(a1.length:Int))))) ?_;refine Q36 ?_;refine zV z (fun z=>?_) (fun z=>?_);refine Q75 ?_;refine z8 ?_;refine zX MX rfl ?_;refine Q33 ?_;have ⟨_,k,z⟩:=bE z;refine q28 z3 k ?_;refine q74 O3 k ?_;refine Q33 ?_;have ⟨_,k,z⟩:=bE z;refine q28 z3 k ?_;refine q74 O3 k ?_;refine z4X ?_;refine xG ?_;refine zV z (fun z=>?_) (fun z=>?_);refine Q20 ?_;cases z;intro q;cases q;exact⟨rfl,wc⟩;refine Q5 ?_;refine zX MX rfl ?_;refine Q33 ?_;have ⟨_,k,z⟩:=bE z;refine q28 z3 k ?_;refine q74 O3 k ?_;refine Q33 ?_;have ⟨_,k,z⟩:=bE z;refine q28 z3 k ?_;refine q74 O3 k ?_;refine z4Z ?_;refine xG ?_;refine zV z (fun z=>?_) (fun z=>?_);refine Q20 ?_;cases z;intro q;cases q;exact⟨rfl,wc⟩;refine Q34 ?_;exact ew z;refine zD ?_;cases z;intro q;cases q;exact⟨rfl,wc⟩
 rintro G rfl
 replace h:=eL h;refine Q4 ?_;refine q6 z3 ?_;refine q0 ?_;refine Q65 ?_;refine zV h (fun h=>?_) (fun h=>?_);refine Q3 ?_;exact er h;refine z2A ?_;refine q6 z3 ?_;refine q0 ?_;refine q6 z3 ?_;refine Q52 ?_;refine zV h (fun h=>?_) (fun h=>?_);refine Q3 ?_;exact er h;refine Q53 ?_;exact er h
 rintro G rfl
 replace h:=eR h;exact es h
theorem zGN {z a1 r} (h:uT z a1=some r):zE Tryz.prog 11 [(zN eI z),(zN eI a1)] [(db r)]:=by refine co Tryz.func11 ?_;intro _ _ _ _;unfold uT at h;refine z19 ?_;have ⟨_,k,h⟩:=bE h;refine q4 (zEO k) ?_;refine Q74 ?_;exact er h
theorem zGO {T} {a1} {r:(List Int)} (h:kW T a1=some r):GC Tryz.prog 55 [.row 3000,.d (zN eI a1)] [(3000,.row 5 e8.size false (e8.all T))] [] [.row 3000] [(3000,.row 5 e8.size false (e8.all r))]:=by
 refine zC6 Tryz.func55 (by kernel_rfl) rfl lr lr fun w0 I0 Y p0=>?_;unfold kW at h;refine Q43 ?_;refine Q80 ?_;have ⟨y1,k,h⟩:=bE h;refine tl (.exit 0) ⟨[(0,.row 3000)],[(3000,.row 5 e8.size false (e8.all y1))]⟩ ?_ ?_;refine zB (fun x=>⟨[(0,.row 3000),(7,.d (zN eI a1)),(8,.d (di (a1.length:Int))),(9,.d (di x.1))],[(3000,.row 5 e8.size false (e8.all x.2))]⟩) k wc ?_
 rintro⟨Z,G⟩ H z
 replace z:vL a1 Z G=some H:=z;unfold vL at z;refine Q22 ?_;refine zV z (fun z=>?_) (fun z=>?_);refine Q30 ?_;have ⟨O,k,z⟩:=bE z;refine q12 z3 k ?_;refine q27 O3 k ?_;refine Q1 ?_;refine Q31 ?_;refine q49 Tryz.underlying3 Tryz.underlying5 ?_;refine q19 S92 ?_;have ⟨_,k,z⟩:=bE z;refine z2 rfl (z6 (en:=e8) (l:=G) (m:=[(IntKind.u8.wrap) O]) lr S92 rfl rfl rfl k (by decide) (by decide) rfl rfl) ?_;refine Q10 ?_;refine Q24 ?_;exact ew z;exact zD (ex z);refine Q47 ?_;cases h;refine zQ ?_;exact⟨⟨_,_,rfl,rfl,rfl⟩,⟨rfl,trivial⟩⟩
theorem zJ3 {O r} (h:vM O=some r):zE Tryz.prog 29 [(zN eI O)] [(ds r)]:=by
 refine co Tryz.func29 ?_;intro _ _ _ _;unfold vM at h;refine Q98 ?_;refine zL (jN (t:=3) 1003 5 e8.size lr lr rfl rfl) ?_;refine Q4 ?_;refine Q80 ?_;have ⟨y1,k,h⟩:=bE h;refine tl (.exit 0) ⟨[(3,.row 1003)],[(1003,.row 5 e8.size false (e8.all y1))]⟩ ?_ ?_;refine zB (fun x=>⟨[(3,.row 1003),(6,.d (zN eI O)),(7,.d (di (O.length:Int))),(8,.d (di x.1))],[(1003,.row 5 e8.size false (e8.all x.2))]⟩) k wc ?_
 rintro⟨v8,T⟩ Z H
 replace H:xL O v8 T=some Z:=H;unfold xL at H;refine Q22 ?_;refine zV H (fun H=>?_) (fun H=>?_);refine Q5 ?_;have ⟨y2,G,H⟩:=bE H;refine tl .normal ⟨[(3,.row 1003),(6,.d (zN eI O)),(7,.d (di (O.length:Int))),(8,.d (di v8))],[(1003,.row 5 e8.size false (e8.all y2))]⟩ ?_ ?_;refine z4<|Q0 ?_;have ⟨Y,k,G⟩:=bE G;refine q12 z3 k ?_;refine q27 O3 k ?_;refine Q1 ?_;have ⟨y3,z,G⟩:=bE G;refine tl .normal ⟨[(3,.row 1003),(6,.d (zN eI O)),(7,.d (di (O.length:Int))),(8,.d (di v8))],[(1003,.row 5 e8.size false (e8.all y3))]⟩ ?_ ?_;refine Q66 ?_;refine q3 ?_;have ⟨_,k,z⟩:=bE z;refine q7 k ?_;refine q39 (.d (di Y)) ?_;refine q96 (.d (db (decide (16777216≤Y)))) ?_;refine q18 ?_;refine Q1 ?_;refine zV z (fun z=>?_) (fun z=>?_);refine Q57 ?_;refine q19 z3 ?_;have ⟨_,k,z⟩:=bE z;refine z2 rfl (zBE [(3000,1003)] (zGO k) lr (by decide) ⟨rfl,rfl,trivial⟩ rfl rfl ⟨rfl,trivial⟩ rfl rfl rfl (fun _=>rfl) rfl) ?_;refine Q10 ?_;exact eo z;refine Q2 ?_;refine q3 ?_;refine Q1 ?_;refine zV z (fun z=>?_) (fun z=>?_);refine Q31 ?_;refine q19 z3 ?_;have ⟨_,k,z⟩:=bE z;refine z2 rfl (zBE [(3000,1003)] (zGO k) lr (by decide) ⟨rfl,rfl,trivial⟩ rfl rfl ⟨rfl,trivial⟩ rfl rfl rfl (fun _=>rfl) rfl) ?_;refine Q10 ?_;exact eo z;refine Q2 ?_;refine q3 ?_;refine Q1 ?_;refine zV z (fun z=>?_) (fun z=>?_);refine Q31 ?_;have ⟨_,k,z⟩:=bE z;refine q91 k ?_;refine z2B ?_;have ⟨_,k,z⟩:=bE z;refine q60 k ?_;refine q19 z3 ?_;have ⟨_,k,z⟩:=bE z;refine z2 rfl (zBE [(3000,1003)] (zGO k) lr (by decide) ⟨rfl,rfl,trivial⟩ rfl rfl ⟨rfl,trivial⟩ rfl rfl rfl (fun _=>rfl) rfl) ?_;refine Q10 ?_;exact eo z;refine Q31 ?_;refine q73 ?_;refine q0 ?_;refine q73 ?_;have ⟨_,k,z⟩:=bE z;refine q60 k ?_;refine q0 ?_;have ⟨_,k,z⟩:=bE z;refine q60 k ?_;refine q19 z3 ?_;have ⟨_,k,z⟩:=bE z;refine z2 rfl (zBE [(3000,1003)] (zGO k) lr (by decide) ⟨rfl,rfl,trivial⟩ rfl rfl ⟨rfl,trivial⟩ rfl rfl rfl (fun _=>rfl) rfl) ?_;refine Q10 ?_;exact eo z;exact eo G;refine Q24 ?_;exact ew H;exact zD (ex H);refine Q37 ?_;refine kE (yLQ lr Tryz.underlying92 Tryz.underlying9 Tryz.underlying5 rfl rfl) ?_;refine Q1 ?_;exact er h
theorem zRZ {z a1 r} (h:zD7 z a1=some r):zE Tryz.prog 30 [(zN eI z),(di a1)] [(di r)]:=by refine co Tryz.func30 ?_;intro _ _ _ _;unfold zD7 at h;refine z19 ?_;have ⟨_,k,h⟩:=bE h;refine q4 (zDQ k) ?_;have ⟨_,k,h⟩:=bE h;refine q4 (zJ3 k) ?_;refine z9Q Tryz.underlying9 ?_;refine Q1 ?_;exact er h
set_option maxRecDepth 40000 in
theorem zNS {r} (h:zEV=some r):zE Tryz.prog 9 [] [(db r)]:=by
 refine co Tryz.func9 ?_;intro _ _ _ _;unfold zEV at h;refine Q3 ?_;refine Q0 ?_;refine q19 z3 ?_;have ⟨_,k,h⟩:=bE h;refine q4 (zDQ k) ?_;refine Q48 ?_;refine q19 z3 ?_;have ⟨z,k,h⟩:=bE h;refine q4 (zJ2 k) ?_;refine Q92 ?_;refine Q0 ?_;refine q19 z3 ?_;have ⟨Y,k,h⟩:=bE h;refine q4 (zJ2 k) ?_;refine Q61 ?_;refine Q71 ?_;refine q19 z3 ?_;have ⟨_,k,h⟩:=bE h;refine q4 (zGN k) ?_;have ⟨_,k,h⟩:=bE h;refine q7 k ?_;refine q14 (.d (zN eI z.1)) ?_;refine sqt (.d (zN eI [32,32,32])) rfl (fun hb=>by subst hb;exact z0Y lr z3 rfl rfl rfl rfl (by decide) rfl) ?_
 have ⟨aa,H,h⟩:=bE h;refine sqt (.d (db aa)) rfl (fun hb=>by subst hb;exact uG lr rfl (zGN H)) ?_
 refine q15 ?_;have ⟨_,k,h⟩:=bE h;refine q7 k ?_;refine q14 (.d (di z.2)) ?_;refine q75 (.d (db (decide (z.2=0)))) ?_;refine q15 ?_;have ⟨_,k,h⟩:=bE h;refine q7 k ?_;refine q14 (.d (di Y.2)) ?_;refine q75 (.d (db (decide (Y.2=11)))) ?_;refine q15 ?_;have ⟨_,k,h⟩:=bE h;refine q7 k ?_;refine sqt (.d (zN eI [63,64,16384])) rfl (fun hb=>by subst hb;exact z0Y lr z3 rfl rfl rfl rfl (by decide) rfl) ?_
 have ⟨G,O,h⟩:=bE h;refine sqt (.d (ds G)) rfl (fun hb=>by subst hb;exact uG lr rfl (zJ3 O)) ?_
 refine sqt (.d (db (G== [63,64,64,128,0,64,0]))) rfl (fun hb=>by subst hb;exact zL5 (a:=G) (b:=[63,64,64,128,0,64,0]) lr rfl rfl) ?_
 refine q15 ?_;have ⟨_,k,h⟩:=bE h;refine q7 k ?_;refine sqt (.d (zN eI [32,32,32,33])) rfl (fun hb=>by subst hb;exact z0Y lr z3 rfl rfl rfl rfl (by decide) rfl) ?_
 have ⟨Z,T,h⟩:=bE h;refine sqt (.d (di Z)) rfl (fun hb=>by subst hb;exact uG lr rfl (zRZ T)) ?_
 refine q75 (.d (db (decide (Z=2)))) ?_;refine Q42 ?_;exact er h
theorem zG9 {z r} (h:zAF z=some r):zE Tryz.prog 56 [(di z)] [(db r)]:=by refine co Tryz.func56 ?_;intro _ _ _ _;unfold zAF at h;refine Q56 ?_;refine q43 ?_;have ⟨_,k,h⟩:=bE h;refine q7 k ?_;refine q14 (.d (di z)) ?_;refine q57 (.d (db (decide (z≤65535)))) ?_;refine Q42 ?_;exact er h
theorem zN5 {O r} (h:zBR O=some r):zE Tryz.prog 89 [(ds O)] [(db r)]:=by
 refine co Tryz.func89 ?_;intro _ _ _ _;unfold zBR at h;refine Q43 ?_;refine z9Q Tryz.underlying9 ?_;refine Q29 ?_;have ⟨Z,k,h⟩:=bE h;refine zO Z (.exit 0) (fun Z=>⟨[(0,.d (ds O))],[]⟩) .ret (fun Z=>⟨[(2,.d (db Z))],[]⟩) ?_ ?_ ?_;refine zB (fun x=>⟨[(0,.d (ds O)),(6,.d (di (O.length:Int))),(7,.d (di x))],[]⟩) k wc ?_
 rintro v7 ac G
 replace G:xI O v7=some ac:=G;unfold xI at G;refine Q22 ?_;refine zV G (fun G=>?_) (fun G=>?_);refine Q8 ?_;refine Q28 ?_;refine Q14 ?_;have ⟨z,k,G⟩:=bE G;refine yHP Tryz.underlying9 k ?_;refine Q35 ?_;refine q43 ?_;have ⟨_,k,G⟩:=bE G;refine q7 k ?_;refine q14 (.d (dby z)) ?_;refine q57 (.d (db (decide (z≤90)))) ?_;refine q15 ?_;have ⟨_,k,G⟩:=bE G;refine q7 k ?_;refine q39 (.d (dby z)) ?_;refine q96 (.d (db (decide (97≤z)))) ?_;have ⟨T,aa,G⟩:=bE G;refine sqf (.d (db T)) rfl (fun hb=>by subst hb;exact(zS lr rfl).bool (oi aa)) ?_
 refine jM (x:= .d (dby z)) rfl rfl rfl lr lr rfl (fun hb=>by obtain⟨hb,H⟩:=zM hb;obtain rfl:=gF hb;obtain rfl:T=true:=H;exact zS lr rfl) ?_
 refine jM (x:= .d (db (decide (z≤122)))) rfl rfl rfl lr lr rfl (fun hb=>by obtain⟨hb,H⟩:=zM hb;obtain rfl:=gF hb;obtain rfl:T=true:=H;exact zJV lr rfl rfl) ?_
 refine q86 (.d (db (T&&(decide (z≤122))))) ?_;refine q18 ?_;have ⟨_,k,G⟩:=bE G;refine q7 k ?_;refine q39 (.d (dby z)) ?_;refine q96 (.d (db (decide (48≤z)))) ?_;have ⟨Y,ab,G⟩:=bE G;refine sqf (.d (db Y)) rfl (fun hb=>by subst hb;exact(zS lr rfl).bool (oi ab)) ?_
 refine jM (x:= .d (dby z)) rfl rfl rfl lr lr rfl (fun hb=>by obtain⟨hb,H⟩:=zM hb;obtain rfl:=gF hb;obtain rfl:Y=true:=H;exact zS lr rfl) ?_
 refine jM (x:= .d (db (decide (z≤57)))) rfl rfl rfl lr lr rfl (fun hb=>by obtain⟨hb,H⟩:=zM hb;obtain rfl:=gF hb;obtain rfl:Y=true:=H;exact zJV lr rfl rfl) ?_
 refine q86 (.d (db (Y&&(decide (z≤57))))) ?_;refine q18 ?_;have ⟨_,k,G⟩:=bE G;refine q7 k ?_;refine q39 (.d (dby z)) ?_;refine z9U (.d (db (decide (z=95)))) ?_;refine q18 ?_;refine Q40 ?_;refine zV G (fun G=>?_) (fun G=>?_);refine Q20 ?_;cases G;intro q;cases q;exact⟨rfl,wc⟩;refine Q54 ?_;exact ew G;refine zD ?_;cases G;intro q;cases q;exact⟨rfl,wc⟩
 rintro Z rfl
 replace h:=eL h;refine Q2 ?_;refine z9V ?_;have ⟨_,k,h⟩:=bE h;refine q7 k ?_;refine q14 (.d (ds O)) ?_;refine sqt (.d (di (O.length:Int))) rfl (fun hb=>by subst hb;exact zTN (s:=O) lr Tryz.underlying9 rfl) ?_
 refine q57 (.d (db (decide ((O.length:Int)≤32)))) ?_;refine Q42 ?_;exact er h
 rintro Z rfl
 replace h:=eR h;exact es h
theorem zJ4 {z r} (h:wN z=some r):zE Tryz.prog 57 [(eCollation.dv z)] [(di r)]:=by
 refine co Tryz.func57 ?_;intro _ _ _ _;unfold wN at h;refine Q89 ?_;refine Q63 ?_;refine z47 ?_;refine q6 S30 ?_;refine Q29 ?_;have ⟨y1,an,h⟩:=bE h;refine zO y1 (.exit 0) (fun y1=>⟨[(1,.d (.pt (eCollation.cells z)))],[]⟩) .ret (fun y1=>⟨[(2,.d (di y1))],[]⟩) ?_ ?_ ?_;refine zB (fun x=>⟨[(1,.d (.pt (eCollation.cells z))),(13,.d (zN eGroup z.Groups)),(14,.d (di (z.Groups.length:Int))),(15,.d (di x))],[]⟩) an wc ?_
 rintro ax ap T
 replace T:jR z ax=some ap:=T;unfold jR at T;refine Q22 ?_;refine zV T (fun T=>?_) (fun T=>?_);refine Q30 ?_;have ⟨_,ab,T⟩:=bE T;refine q12 S30 ab ?_;refine yHQ G85 ab ?_;refine yHR ?_;refine q16 G85 ?_;refine zG ?_;refine zL (z0 (t:=4) lr rfl rfl rfl) ?_;refine Q0 ?_;refine q9 zT1 ?_;refine q10 O9 ?_;have ⟨_,al,T⟩:=bE T;refine q4 (zN5 al) ?_;refine Q40 ?_;refine zV T (fun T=>?_) (fun T=>?_);refine Q20 ?_;cases T;intro q;cases q;exact⟨rfl,wc⟩;refine Q54 ?_;exact ew T;refine zD ?_;cases T;intro q;cases q;exact⟨rfl,wc⟩
 rintro y1 rfl
 replace h:=eL h;refine Q0 ?_;refine yC6 ?_;refine Q10 ?_;refine Q18 ?_;refine z47 ?_;refine q6 S30 ?_;refine Q29 ?_;have ⟨y2,ao,h⟩:=bE h;refine zO y2 (.exit 2) (fun y2=>⟨[(1,.d (.pt (eCollation.cells z)))],[]⟩) .ret (fun y2=>⟨[(2,.d (di y2))],[]⟩) ?_ ?_ ?_;refine zB (fun x=>⟨[(1,.d (.pt (eCollation.cells z))),(5,.row 24),(26,.d (zN eGroup z.Groups)),(27,.d (di (z.Groups.length:Int))),(28,.d (di x.1))],[(24,.map (vV kS eB x.2))]⟩) ao wc ?_
 rintro⟨ay,am⟩ aq Y
 replace Y:jC z ay am=some aq:=Y;unfold jC at Y;refine Q22 ?_;refine zV Y (fun Y=>?_) (fun Y=>?_);refine Q30 ?_;have ⟨aw,ac,Y⟩:=bE Y;refine q12 S30 ac ?_;refine yHQ G85 ac ?_;refine yHR ?_;refine q16 G85 ?_;refine zG ?_;refine zL (z0 (t:=7) lr rfl rfl rfl) ?_;refine Q18 ?_;refine q5 ?_;refine q9 zT1 ?_;refine q10 O9 ?_;refine kE (yCA (kv:=kS) (ev:=eB) (mp:=am) (k:=aw.Name) (zero:=false) lr yN5 K9 rfl rfl rfl (fun _ _=> .v _)) ?_;refine zG ?_;refine zV Y (fun Y=>?_) (fun Y=>?_);refine Q20 ?_;cases Y;intro q;cases q;exact⟨rfl,wc⟩;refine zI<|Q57 ?_;refine q9 zT1 ?_;refine q10 O9 ?_;refine yHS yN5 K9 ?_;refine zG<|Q24 ?_;exact ew Y;refine zD ?_;cases Y;intro q;cases q;exact⟨rfl,wc⟩
 rintro y2 rfl
 replace h:=eL h;refine Q18 ?_;refine z47 ?_;refine q6 S30 ?_;refine Q29 ?_;have ⟨y3,k,h⟩:=bE h;refine zO y3 (.exit 4) (fun y3=>⟨[(1,.d (.pt (eCollation.cells z)))],[]⟩) .ret (fun y3=>⟨[(2,.d (di y3))],[]⟩) ?_ ?_ ?_;refine zB (fun x=>⟨[(1,.d (.pt (eCollation.cells z))),(41,.d (zN eGroup z.Groups)),(42,.d (di (z.Groups.length:Int))),(43,.d (di x))],[]⟩) k wc ?_
 rintro az ar H
 replace H:jS z az=some ar:=H;unfold jS at H;refine Q22 ?_;refine zV H (fun H=>?_) (fun H=>?_);refine Q30 ?_;have ⟨G,k,H⟩:=bE H;refine q12 S30 k ?_;refine yHQ G85 k ?_;refine yHR ?_;refine q16 G85 ?_;refine zG ?_;refine zL (z0 (t:=9) lr rfl rfl rfl) ?_;refine Q0 ?_;refine q9 zXD ?_;refine z5B ?_;have ⟨_,k,H⟩:=bE H;refine q7 k ?_;refine q29 (.ip (eGroup.cells G) (0+2)) zXE ?_;refine q30 (.d (di G.Hi)) O3 ?_;refine q29 (.ip (eGroup.cells G) (0+1)) zXD ?_;refine q30 (.d (di G.Lo)) O3 ?_;refine sqf (.d (db (decide (G.Hi<G.Lo)))) rfl (fun hb=>by subst hb;exact zLX lr rfl rfl) ?_
 refine q18 ?_;have ⟨_,k,H⟩:=bE H;refine q7 k ?_;refine q29 (.ip (eGroup.cells G) (0+2)) zXE ?_;refine q30 (.d (di G.Hi)) O3 ?_;refine q29 (.ip (eCollation.cells z) (0+2)) zNQ ?_;refine q30 (.d (di z.Base)) O3 ?_;refine q96 (.d (db (decide (z.Base≤G.Hi)))) ?_;refine Q39 ?_;refine zV H (fun H=>?_) (fun H=>?_);refine Q20 ?_;cases H;intro q;cases q;exact⟨rfl,wc⟩;refine Q54 ?_;exact ew H;refine zD ?_;cases H;intro q;cases q;exact⟨rfl,wc⟩
 rintro y3 rfl
 replace h:=eL h;refine Q18 ?_;refine z47 ?_;refine q6 S30 ?_;refine Q29 ?_;have ⟨y4,k,h⟩:=bE h;refine zO y4 (.exit 6) (fun y4=>⟨[],[]⟩) .ret (fun y4=>⟨[(2,.d (di y4))],[]⟩) ?_ ?_ ?_;refine zB (fun x=>⟨[(1,.d (.pt (eCollation.cells z))),(66,.d (zN eGroup z.Groups)),(67,.d (di (z.Groups.length:Int))),(68,.d (di x))],[]⟩) k wc ?_
 rintro Z au O
 replace O:jT z Z=some au:=O;unfold jT at O;refine Q22 ?_;refine zV O (fun O=>?_) (fun O=>?_);refine Q8 ?_;refine Q2 ?_;have ⟨ag,k,O⟩:=bE O;refine q12 S30 k ?_;refine yHQ G85 k ?_;refine yHR ?_;refine q1 ?_;refine q16 G85 ?_;refine zG ?_;refine zL (z0 (t:=11) lr rfl rfl rfl) ?_;refine z8 ?_;refine zX MX rfl ?_;refine q8 ?_;refine z4Z ?_;have ⟨_,k,O⟩:=bE O;refine q55 k ?_;refine q97 (.ip (eGroup.cells ag) (0+1)) zXD ?_;refine q98 (.d (di ag.Lo)) O3 ?_;refine q97 (.ip (eCollation.cells z) (0+1)) yCT ?_;refine q98 (.d (zN eGroup z.Groups)) O30 ?_;refine q53 (.d (di Z)) ?_;refine z9W (.d (di (wi (Z-1)))) ?_;have ⟨aa,ad,O⟩:=bE O;refine dat (.ip (eGroup.all z.Groups) ((wi (Z-1)).toNat*eGroup.size)) rfl (fun hb=>by subst hb;exact yZ (en:=eGroup) lr S30 rfl rfl ad) ?_
 refine q99 (.ip (eGroup.all z.Groups) ((wi (Z-1)).toNat*eGroup.size+2)) zXE ?_;refine dat (.d (di aa.Hi)) rfl (fun hb=>by subst hb;exact zT (en:=eGroup) (l:=z.Groups) (i:=(wi (Z-1))) (v:=aa) (off:=2) lr O3 rfl ad rfl) ?_
 refine dat (.d (di (wi (aa.Hi+1)))) rfl (fun hb=>by subst hb;exact zTM lr rfl rfl) ?_
 refine dat (.d (db (!decide (ag.Lo=(wi (aa.Hi+1)))))) rfl (fun hb=>by subst hb;exact zOP lr rfl rfl) ?_
 refine Q90 ?_;refine zV O (fun O=>?_) (fun O=>?_);refine Q20 ?_;cases O;intro q;cases q;exact⟨rfl,wc⟩;refine Q54 ?_;exact ew O;refine zD ?_;cases O;intro q;cases q;exact⟨rfl,wc⟩
 rintro y4 rfl
 replace h:=eL h;refine Q3 ?_;exact er h
 rintro y4 rfl
 replace h:=eR h;exact es h
 rintro y3 rfl
 replace h:=eR h;exact es h
 rintro y2 rfl
 replace h:=eR h;exact es h
 rintro y1 rfl
 replace h:=eR h;exact es h
theorem zC9 {z r} (h:uH z=some r):zE Tryz.prog 90 [(di z)] [(db r)]:=by refine co Tryz.func90 ?_;intro _ _ _ _;unfold uH at h;refine Q56 ?_;refine q43 ?_;have ⟨_,k,h⟩:=bE h;refine q7 k ?_;refine q14 (.d (di z)) ?_;refine q57 (.d (db (decide (z≤1114111)))) ?_;refine Q42 ?_;exact er h
theorem zR0 {z r} (h:zD8 z=some r):zE Tryz.prog 91 [(eElement.dv z)] [(di r)]:=by
 refine co Tryz.func91 ?_;intro _ _ _ _;unfold zD8 at h;refine z5C ?_;refine Q63 ?_;refine Q87 ?_;refine q9 zKS ?_;refine q10 O3 ?_;refine q9 zKT ?_;refine q10 O3 ?_;refine q83 zQN ?_;refine Q29 ?_;have ⟨T,k,h⟩:=bE h;refine zO T (.exit 0) (fun T=>⟨[(1,.d (.pt (eElement.cells z)))],[]⟩) .ret (fun T=>⟨[(2,.d (di T))],[]⟩) ?_ ?_ ?_;refine zB (fun x=>⟨[(1,.d (.pt (eElement.cells z))),(11,.d (eA3Int.dv ({x0:=z.Primary,x1:=z.Secondary,x2:=z.Tertiary}:A3Int))),(12,.d (di x))],[]⟩) k wc ?_
 rintro ac ab G
 replace G:uY z ac=some ab:=G;unfold uY at G;refine Q22 ?_;refine zV G (fun G=>?_) (fun G=>?_);refine Q30 ?_;have ⟨aa,k,G⟩:=bE G;refine kE (zL8 (en:=eI) (l:=[({x0:=z.Primary,x1:=z.Secondary,x2:=z.Tertiary}:A3Int).x0,({x0:=z.Primary,x1:=z.Secondary,x2:=z.Tertiary}:A3Int).x1,({x0:=z.Primary,x1:=z.Secondary,x2:=z.Tertiary}:A3Int).x2]) lr zQN O3 (fun _=>rfl) rfl rfl rfl k) ?_;refine Q35 ?_;refine q3 ?_;have ⟨_,k,G⟩:=bE G;refine q7 k ?_;refine q39 (.d (di aa)) ?_;refine q42 (.d (db (decide (65535<aa)))) ?_;refine Q39 ?_;refine zV G (fun G=>?_) (fun G=>?_);refine Q20 ?_;cases G;intro q;cases q;exact⟨rfl,wc⟩;refine Q54 ?_;exact ew G;refine zD ?_;cases G;intro q;cases q;exact⟨rfl,wc⟩
 rintro T rfl
 replace h:=eL h;refine Q49 ?_;refine Q0 ?_;refine Q87 ?_;refine q26 ?_;have ⟨O,k,h⟩:=bE h;refine q7 k ?_;refine q62 (.ip (eElement.cells z) (0+1)) zKS ?_;refine q67 (.d (di z.Secondary)) O3 ?_;refine q75 (.d (db (decide (z.Secondary=0)))) ?_;have ⟨Y,Z,h⟩:=bE h;refine sqt (.d (db Y)) rfl (fun hb=>by subst hb;exact(zS lr rfl).bool (oi Z)) ?_
 refine jM (x:= .ip (eElement.cells z) (0+2)) rfl rfl rfl lr lr rfl (fun hb=>by obtain⟨hb,H⟩:=zM hb;obtain rfl:O=true:=hb;obtain rfl:=gF H;exact wR lr zKT rfl) ?_
 refine jM (x:= .d (di z.Tertiary)) rfl rfl rfl lr lr rfl (fun hb=>by obtain⟨hb,H⟩:=zM hb;obtain rfl:O=true:=hb;obtain rfl:=gF H;exact xT lr O3 rfl rfl) ?_
 refine jM (x:= .d (db (decide (z.Tertiary=0)))) rfl rfl rfl lr lr rfl (fun hb=>by obtain⟨hb,H⟩:=zM hb;obtain rfl:O=true:=hb;obtain rfl:=gF H;exact zI1 lr rfl rfl) ?_
 refine yC7 (.d (db (Y ||(decide (z.Tertiary=0))))) ?_;refine Q42 ?_;refine zV h (fun h=>?_) (fun h=>?_);refine Q3 ?_;exact er h;refine Q0 ?_;refine q9 zKS ?_;refine q10 O3 ?_;refine q26 ?_;have ⟨_,k,h⟩:=bE h;refine q7 k ?_;refine q62 (.ip (eElement.cells z) (0+2)) zKT ?_;refine q67 (.d (di z.Tertiary)) O3 ?_;refine q75 (.d (db (decide (z.Tertiary=0)))) ?_;refine Q42 ?_;refine zV h (fun h=>?_) (fun h=>?_);refine Q3 ?_;exact er h;refine Q0 ?_;refine q9 zQP ?_;refine q10 O4 ?_;have ⟨_,k,h⟩:=bE h;refine q7 k ?_;refine q62 (.ip (eElement.cells z) (0+0)) zT0 ?_;refine q67 (.d (di z.Primary)) O3 ?_;refine q75 (.d (db (decide (z.Primary=0)))) ?_;refine Q42 ?_;refine zV h (fun h=>?_) (fun h=>?_);refine Q3 ?_;exact er h;refine Q53 ?_;exact er h
 rintro T rfl
 replace h:=eR h;exact es h
theorem zKV {z a1 r} (h:vN z a1=some r):zE Tryz.prog 58 [(eEntry.dv z),(di a1)] [(di r)]:=by
 refine co Tryz.func58 ?_;intro _ _ _ _;unfold vN at h;refine Q0 ?_;refine kE (zOY (size:=2) lr rfl rfl) ?_;refine Q63 ?_;refine q9 zIJ ?_;refine q10 O37 ?_;refine q6 z3 ?_;refine q3 ?_;have ⟨_,k,h⟩:=bE h;refine q7 k ?_;refine q29 (.ip (eEntry.cells z) (0+0)) zIJ ?_;refine q30 (.d (zN eI z.Codes)) O37 ?_;refine q80 (.d (di (z.Codes.length:Int))) z3 ?_;refine q42 (.d (db (decide (8<(z.Codes.length:Int))))) ?_;refine q18 ?_;have ⟨_,k,h⟩:=bE h;refine q7 k ?_;refine q29 (.ip (eEntry.cells z) (0+1)) zMF ?_;refine q30 (.d (zN eElement z.Elements)) O66 ?_;refine q80 (.d (di (z.Elements.length:Int))) S66 ?_;refine q42 (.d (db (decide (16<(z.Elements.length:Int))))) ?_;refine Q39 ?_;refine zV h (fun h=>?_) (fun h=>?_);refine Q3 ?_;exact er h;refine Q76 ?_;refine q9 zIJ ?_;refine q10 O37 ?_;refine Q80 ?_;have ⟨T,k,h⟩:=bE h;refine zO T (.exit 0) (fun T=>⟨[(1,.d (di a1)),(2,.d (.pt (eEntry.cells z)))],[]⟩) .ret (fun T=>⟨[(4,.d (di T))],[]⟩) ?_ ?_ ?_;refine zB (fun x=>⟨[(1,.d (di a1)),(2,.d (.pt (eEntry.cells z))),(29,.d (zN eI z.Codes)),(30,.d (di (z.Codes.length:Int))),(31,.d (di x))],[]⟩) k wc ?_
 rintro ad aa G
 replace G:jF z ad=some aa:=G;unfold jF at G;refine Q22 ?_;refine zV G (fun G=>?_) (fun G=>?_);refine Q30 ?_;have ⟨_,k,G⟩:=bE G;refine q12 z3 k ?_;refine q27 O3 k ?_;refine Q35 ?_;have ⟨_,k,G⟩:=bE G;refine q4 (zC9 k) ?_;refine Q40 ?_;refine zV G (fun G=>?_) (fun G=>?_);refine Q20 ?_;cases G;intro q;cases q;exact⟨rfl,wc⟩;refine Q54 ?_;exact ew G;refine zD ?_;cases G;intro q;cases q;exact⟨rfl,wc⟩
 rintro T rfl
 replace h:=eL h;refine Q18 ?_;refine q9 zMF ?_;refine q10 O66 ?_;refine q6 S66 ?_;refine Q29 ?_;have ⟨Y,k,h⟩:=bE h;refine zO Y (.exit 2) (fun Y=>⟨[(1,.d (di a1)),(2,.d (.pt (eEntry.cells z)))],[]⟩) .ret (fun Y=>⟨[(4,.d (di Y))],[]⟩) ?_ ?_ ?_;refine zB (fun x=>⟨[(1,.d (di a1)),(2,.d (.pt (eEntry.cells z))),(40,.d (zN eElement z.Elements)),(41,.d (di (z.Elements.length:Int))),(42,.d (di x))],[]⟩) k wc ?_
 rintro ag ab H
 replace H:j8 z ag=some ab:=H;unfold j8 at H;refine Q22 ?_;refine zV H (fun H=>?_) (fun H=>?_);refine Q30 ?_;have ⟨_,k,H⟩:=bE H;refine q12 S66 k ?_;refine yC8 zTY k ?_;refine yHT ?_;refine q16 zTY ?_;refine zG ?_;refine zL (z0 (t:=8) lr rfl rfl rfl) ?_;refine Q0 ?_;refine q32 zTY ?_;have ⟨_,k,H⟩:=bE H;refine q4 (zR0 k) ?_;refine Q78 ?_;refine zV H (fun H=>?_) (fun H=>?_);refine Q28 ?_;refine zQ ?_;cases H;intro q;cases q;exact⟨rfl,wc⟩;refine Q54 ?_;exact ew H;refine zD ?_;cases H;intro q;cases q;exact⟨rfl,wc⟩
 rintro Y rfl
 replace h:=eL h;refine Q18 ?_;refine q9 zMF ?_;refine q10 O66 ?_;refine q6 S66 ?_;refine Q29 ?_;have ⟨Z,k,h⟩:=bE h;refine zO Z (.exit 4) (fun Z=>⟨[],[]⟩) .ret (fun Z=>⟨[(4,.d (di Z))],[]⟩) ?_ ?_ ?_;refine zB (fun x=>⟨[(1,.d (di a1)),(53,.d (zN eElement z.Elements)),(54,.d (di (z.Elements.length:Int))),(55,.d (di x))],[]⟩) k wc ?_
 rintro ah ac O
 replace O:jG z a1 ah=some ac:=O;unfold jG at O;refine Q22 ?_;refine zV O (fun O=>?_) (fun O=>?_);refine Q30 ?_;have ⟨_,k,O⟩:=bE O;refine q12 S66 k ?_;refine yC8 zTY k ?_;refine yHT ?_;refine q16 zTY ?_;refine zG ?_;refine zL (z0 (t:=11) lr rfl rfl rfl) ?_;refine Q0 ?_;refine Q87 ?_;refine q0 ?_;refine Q99 ?_;refine zV O (fun O=>?_) (fun O=>?_);refine Q20 ?_;cases O;intro q;cases q;exact⟨rfl,wc⟩;refine Q54 ?_;exact ew O;refine zD ?_;cases O;intro q;cases q;exact⟨rfl,wc⟩
 rintro Z rfl
 replace h:=eL h;refine Q3 ?_;exact er h
 rintro Z rfl
 replace h:=eR h;exact es h
 rintro Y rfl
 replace h:=eR h;exact es h
 rintro T rfl
 replace h:=eR h;exact es h
theorem zJB {G r} (h:uI G=some r):zE Tryz.prog 31 [(eCollation.dv G)] [(di r)]:=by
 refine co Tryz.func31 ?_;intro _ _ _ _;unfold uI at h;refine Q89 ?_;refine Q63 ?_;refine q9 zNQ ?_;refine z5B ?_;have ⟨_,k,h⟩:=bE h;refine q7 k ?_;refine q29 (.ip (eCollation.cells G) (0+2)) zNQ ?_;refine q30 (.d (di G.Base)) O3 ?_;refine q42 (.d (db (decide (65502<G.Base)))) ?_;refine q18 ?_;have ⟨_,k,h⟩:=bE h;refine q7 k ?_;refine q29 (.ip (eCollation.cells G) (0+3)) zW8 ?_;refine q30 (.d (di G.Second)) O3 ?_;have ⟨ac,Z,h⟩:=bE h;refine sqf (.d (db ac)) rfl (fun hb=>by subst hb;exact uG lr rfl (zG9 Z)) ?_
 refine z4V (.d (db (!ac))) ?_;refine q18 ?_;have ⟨_,k,h⟩:=bE h;refine q7 k ?_;refine q29 (.ip (eCollation.cells G) (0+4)) zW9 ?_;refine q30 (.d (di G.Third)) O3 ?_;have ⟨ad,aa,h⟩:=bE h;refine sqf (.d (db ad)) rfl (fun hb=>by subst hb;exact uG lr rfl (zG9 aa)) ?_
 refine z4V (.d (db (!ad))) ?_;refine Q39 ?_;refine zV h (fun h=>?_) (fun h=>?_);refine Q3 ?_;exact er h;refine Q76 ?_;refine q32 G32 ?_;have ⟨_,k,h⟩:=bE h;refine q4 (zJ4 k) ?_;refine Q78 ?_;refine zV h (fun h=>?_) (fun h=>?_);refine Q28 ?_;exact er h;refine Q76 ?_;refine Q97 ?_;refine q6 S29 ?_;refine Q29 ?_;have ⟨Y,k,h⟩:=bE h;refine zO Y (.exit 0) (fun Y=>⟨[],[]⟩) .ret (fun Y=>⟨[(2,.d (di Y))],[]⟩) ?_ ?_ ?_;refine zB (fun x=>⟨[(1,.d (.pt (eCollation.cells G))),(33,.d (zN eEntry G.Entries)),(34,.d (di (G.Entries.length:Int))),(35,.d (di x))],[]⟩) k wc ?_
 rintro H ai z
 replace z:wS G H=some ai:=z;unfold wS at z;refine Q22 ?_;refine zV z (fun z=>?_) (fun z=>?_);refine Q8 ?_;refine Q2 ?_;have ⟨T,k,z⟩:=bE z;refine q12 S29 k ?_;refine kE (vI (en:=eEntry) (l:=G.Entries) (i:=H) (v:=T) (off:=0) lr G82 rfl k rfl rfl (by decide)) ?_;refine z2 rfl (yE (zs:=[(.slice none 0 0),(.slice none 0 0)]) lr (by kernel_rfl) rfl rfl) ?_;refine q1 ?_;refine q16 G82 ?_;refine zG ?_;refine zL (z0 (t:=5) lr rfl rfl rfl) ?_;refine Q18 ?_;refine q32 G82 ?_;refine q9 zNQ ?_;refine q10 O3 ?_;have ⟨_,k,z⟩:=bE z;refine q4 (zKV k) ?_;refine Q78 ?_;refine zV z (fun z=>?_) (fun z=>?_);refine Q28 ?_;refine zQ ?_;cases z;intro q;cases q;exact⟨rfl,wc⟩;refine Q5 ?_;refine zX MX rfl ?_;refine q8 ?_;refine z4Z ?_;have ⟨_,k,z⟩:=bE z;refine q55 k ?_;refine q97 (.ip (eCollation.cells G) (0+0)) z1X ?_;refine q98 (.d (zN eEntry G.Entries)) O29 ?_;refine q53 (.d (di H)) ?_;refine z9W (.d (di (wi (H-1)))) ?_;have ⟨ag,O,z⟩:=bE z;refine dat (.ip (eEntry.all G.Entries) ((wi (H-1)).toNat*eEntry.size)) rfl (fun hb=>by subst hb;exact yZ (en:=eEntry) lr S29 rfl rfl O) ?_
 refine q99 (.ip (eEntry.all G.Entries) ((wi (H-1)).toNat*eEntry.size+0)) zIJ ?_;refine dat (.d (zN eI ag.Codes)) rfl (fun hb=>by subst hb;exact zT (en:=eEntry) (l:=G.Entries) (i:=(wi (H-1))) (v:=ag) (off:=0) lr O37 rfl O rfl) ?_
 refine q97 (.ip (eEntry.cells T) (0+0)) zIJ ?_;refine q98 (.d (zN eI T.Codes)) O37 ?_;have ⟨ah,ab,z⟩:=bE z;refine dat (.d (di ah)) rfl (fun hb=>by subst hb;exact uG lr rfl (zHK ab)) ?_
 refine dat (.d (db (decide (0≤ah)))) rfl (fun hb=>by subst hb;exact zLY lr rfl rfl) ?_
 refine Q90 ?_;refine zV z (fun z=>?_) (fun z=>?_);refine Q20 ?_;cases z;intro q;cases q;exact⟨rfl,wc⟩;refine Q54 ?_;exact ew z;refine zD ?_;cases z;intro q;cases q;exact⟨rfl,wc⟩
 rintro Y rfl
 replace h:=eL h;refine Q3 ?_;exact er h
 rintro Y rfl
 replace h:=eR h;exact es h
theorem zJC {k r} (h:zCR k=some r):zE Tryz.prog 95 [(zN eI k)] [(eA9Int.dv r)]:=by refine co Tryz.func95 ?_;intro _ _ _ _;unfold zCR at h;refine Q0 ?_;refine z2 rfl (yE (zs:=[(.int IntKind.i64 (0)),(.int IntKind.i64 (0)),(.int IntKind.i64 (0)),(.int IntKind.i64 (0)),(.int IntKind.i64 (0)),(.int IntKind.i64 (0)),(.int IntKind.i64 (0)),(.int IntKind.i64 (0)),(.int IntKind.i64 (0))]) lr (by kernel_rfl) rfl rfl) ?_;refine zG<|Q2 ?_;refine q6 z3 ?_;refine q83 yG9 ?_;refine z2 rfl (yE (zs:=[(.int IntKind.i64 (0)),(.int IntKind.i64 (0)),(.int IntKind.i64 (0)),(.int IntKind.i64 (0)),(.int IntKind.i64 (0)),(.int IntKind.i64 (0)),(.int IntKind.i64 (0)),(.int IntKind.i64 (0)),(.int IntKind.i64 (0))]) lr (by kernel_rfl) rfl rfl) ?_;refine q16 yHB ?_;refine Q58 ?_;refine kE (z1J 1 lr yG9 rfl (by decide)) ?_;refine q0 ?_;refine z2 rfl (yG2 (l:=k) lr z3 rfl rfl rfl rfl) ?_;refine Q58 ?_;refine kE ((jD lr yHB rfl rfl rfl rfl).data rfl) ?_;refine q16 yHB ?_;refine zG ?_;cases h;refine zQ ?_;exact xU rfl rfl yHB rfl
theorem zGA {a0} {r:Colltable_table} (h:zDI a0=some r):GC Tryz.prog 63 [.d (eCollation.dv a0)] [] [] [.ptr 13 0] [(13,.box 131 [.d (zN eEntry r.c.Entries),.d (zN eGroup r.c.Groups),.d (di r.c.Base),.d (di r.c.Second),.d (di r.c.Third),.row 11,.d (di r.longest),.d (zN eSpan r.classes),.d (di r.top)]),(11,.map (vV zFU (eL eElement) r.entries))]:=by
 refine zC6 Tryz.func63 (by kernel_rfl) rfl lr lr fun w0 I0 ak p0=>?_;unfold zDI at h;refine Q0 ?_;refine yC2 ?_;refine Q63 ?_;refine kE ((jD lr G32 rfl rfl rfl rfl).data rfl) ?_;have ⟨_,ac,h⟩:=bE h;refine q4 (zJB ac) ?_;refine Q32 ?_;have ⟨z,H,h⟩:=bE h;refine tl .normal ⟨[(1,.ptr 1 0)],[(1,.box 32 [.d (zN eEntry z.1),.d (zN eGroup z.2.1),.d (di z.2.2.1),.d (di z.2.2.2.1),.d (di z.2.2.2.2)])]⟩ ?_ ?_;refine zV H (fun H=>?_) (fun H=>?_);refine kZ ?_;refine kE ((zHN lr B32 rfl rfl).nils (bs:=eCollation.cells ({Entries:=[],Groups:=[],Base:=64448,Second:=32,Third:=2}:Collation)) (nlN (nlN (nlE (nlE (nlE nl0)))))) ?_;refine q16 G32 ?_;refine zG ?_;exact eo H;refine zI ?_;exact eo H;refine Q0 ?_;refine kE ((jD lr G32 rfl rfl rfl rfl).data rfl) ?_;refine yC6 ?_;refine kE (yCG [(0,.tmp 10)] 1 (.tmp 11) lr yPQ rfl rfl rfl rfl rfl rfl) ?_;refine z2 rfl (z4E lr rfl rfl) ?_;refine kE (zDS lr rfl) ?_;refine z2C ?_;refine q54 z1X ?_;refine q23 O29 ?_;refine q6 S29 ?_;refine Q29 ?_;have ⟨y2,ad,h⟩:=bE h;refine tl (.exit 0) ⟨[(3,.ptr 13 0)],[(11,.map (vV zFU (eL eElement) y2.1)),(13,.box 131 [.d (zN eEntry (({Entries:=z.1,Groups:=z.2.1,Base:=z.2.2.1,Second:=z.2.2.2.1,Third:=z.2.2.2.2}:Collation).Entries)),.d (zN eGroup (({Entries:=z.1,Groups:=z.2.1,Base:=z.2.2.1,Second:=z.2.2.2.1,Third:=z.2.2.2.2}:Collation).Groups)),.d (di (({Entries:=z.1,Groups:=z.2.1,Base:=z.2.2.1,Second:=z.2.2.2.1,Third:=z.2.2.2.2}:Collation).Base)),.d (di (({Entries:=z.1,Groups:=z.2.1,Base:=z.2.2.1,Second:=z.2.2.2.1,Third:=z.2.2.2.2}:Collation).Second)),.d (di (({Entries:=z.1,Groups:=z.2.1,Base:=z.2.2.1,Second:=z.2.2.2.1,Third:=z.2.2.2.2}:Collation).Third)),.row 11,.d (di y2.2),.d (.v (.slice none 0 0)),.d (di 0)])]⟩ ?_ ?_;refine zB (fun x=>⟨[(3,.ptr 13 0),(15,.d (zN eEntry z.1)),(16,.d (di (z.1.length:Int))),(17,.d (di x.1))],[(11,.map (vV zFU (eL eElement) x.2.1)),(13,.box 131 [.d (zN eEntry (({Entries:=z.1,Groups:=z.2.1,Base:=z.2.2.1,Second:=z.2.2.2.1,Third:=z.2.2.2.2}:Collation).Entries)),.d (zN eGroup (({Entries:=z.1,Groups:=z.2.1,Base:=z.2.2.1,Second:=z.2.2.2.1,Third:=z.2.2.2.2}:Collation).Groups)),.d (di (({Entries:=z.1,Groups:=z.2.1,Base:=z.2.2.1,Second:=z.2.2.2.1,Third:=z.2.2.2.2}:Collation).Base)),.d (di (({Entries:=z.1,Groups:=z.2.1,Base:=z.2.2.1,Second:=z.2.2.2.1,Third:=z.2.2.2.2}:Collation).Second)),.d (di (({Entries:=z.1,Groups:=z.2.1,Base:=z.2.2.1,Second:=z.2.2.2.1,Third:=z.2.2.2.2}:Collation).Third)),.row 11,.d (di x.2.2),.d (.v (.slice none 0 0)),.d (di 0)])]⟩) ad wc ?_
 rintro⟨ab,Z,T⟩ ag G
 replace G:xM z ab Z T=some ag:=G;unfold xM at G;refine Q22 ?_;refine zV G (fun G=>?_) (fun G=>?_);refine Q30 ?_;have ⟨aa,O,G⟩:=bE G;refine q12 S29 O ?_;refine kE (vI (en:=eEntry) (l:=z.1) (i:=ab) (v:=aa) (off:=0) lr G82 rfl O rfl rfl (by decide)) ?_;refine z2 rfl (yE (zs:=[(.slice none 0 0),(.slice none 0 0)]) lr (by kernel_rfl) rfl rfl) ?_;refine q16 G82 ?_;refine zG ?_;refine zL (z0 (t:=5) lr rfl rfl rfl) ?_;refine z8 ?_;refine zDG 9 MX rfl ?_;refine yC9 ?_;refine yDA ?_;refine z12 yCR ?_;refine z4Y yN8 ?_;refine q22 zIJ ?_;refine q34 O37 ?_;have ⟨ah,Y,G⟩:=bE G;refine q25 (zJC Y) ?_;refine q22 zMF ?_;refine q34 O66 ?_;refine xG ?_;refine z2 rfl (zO3 (kv:=zFU) (ev:=(eL eElement)) (mp:=Z) (k:=ah) (v:=aa.Elements) yN6 yOB rfl rfl rfl (yGX rfl) rfl rfl rfl) ?_;refine zG ?_;refine zDG 11 MX rfl ?_;refine yC9 ?_;refine yC9 ?_;refine yDA ?_;refine z12 zYS ?_;refine z4Y O3 ?_;refine q22 zIJ ?_;refine q34 O37 ?_;refine yC4 z3 ?_;refine daa (z58 lr rfl rfl) ?_;refine yDA ?_;refine z12 zYS ?_;refine xG<|Q86 ?_;refine Q24 ?_;exact ew G;exact zD (ex G);refine Q0 ?_;refine yHU ?_;refine kE (zDS lr rfl) ?_;refine zG ?_;refine zL (zVF (bid:=13) (off:=7) eSpan.size rfl rfl) ?_;cases h;refine zQ ?_;exact⟨⟨_,_,rfl,rfl,rfl⟩,⟨rfl,rfl,trivial⟩⟩
set_option maxHeartbeats 8000000 in
theorem zJ5 {a0 r} (h:zBS a0=some r):zE Tryz.prog 135 [(zN eSpan a0)] [(di r)]:=by
 refine co Tryz.func135 ?_;intro _ _ _ _;unfold zBS at h;refine Q43 ?_;refine q6 S22 ?_;refine Q29 ?_;have ⟨y1,k,h⟩:=bE h;refine zO y1 (.exit 0) (fun y1=>⟨[(0,.d (zN eSpan a0))],[]⟩) .ret (fun y1=>⟨[(2,.d (di y1))],[]⟩) ?_ ?_ ?_;refine zB (fun x=>⟨[(0,.d (zN eSpan a0)),(12,.d (zN eSpan a0)),(13,.d (di (a0.length:Int))),(14,.d (di x))],[]⟩) k wc ?_
 rintro aw ap O
 replace O:vZ a0 aw=some ap:=O;unfold vZ at O;refine Q22 ?_;refine zV O (fun O=>?_) (fun O=>?_);refine Q30 ?_;have ⟨G,k,O⟩:=bE O;refine q12 S22 k ?_;refine yHV vF k ?_;refine z9X ?_;refine q16 vF ?_;refine zG ?_;refine zL (z0 (t:=4) lr rfl rfl rfl) ?_;refine Q0 ?_;refine q9 zF8 ?_;refine z5B ?_;have ⟨_,k,O⟩:=bE O;refine q7 k ?_;refine q29 (.ip (eSpan.cells G) (0+1)) zF9 ?_;refine q30 (.d (di G.Hi)) O3 ?_;refine q42 (.d (db (decide (1114111<G.Hi)))) ?_;refine q18 ?_;have ⟨_,k,O⟩:=bE O;refine q7 k ?_;refine q29 (.ip (eSpan.cells G) (0+0)) zF8 ?_;refine q30 (.d (di G.Lo)) O3 ?_;refine q29 (.ip (eSpan.cells G) (0+1)) zF9 ?_;refine q30 (.d (di G.Hi)) O3 ?_;refine q42 (.d (db (decide (G.Hi<G.Lo)))) ?_;refine q18 ?_;have ⟨_,k,O⟩:=bE O;refine q7 k ?_;refine q29 (.ip (eSpan.cells G) (0+2)) zHH ?_;refine q30 (.d (di G.Value)) O3 ?_;refine sqf (.d (db (decide (G.Value<1)))) rfl (fun hb=>by subst hb;exact zLX lr rfl rfl) ?_
 refine q18 ?_;have ⟨_,k,O⟩:=bE O;refine q7 k ?_;refine q29 (.ip (eSpan.cells G) (0+2)) zHH ?_;refine q30 (.d (di G.Value)) O3 ?_;refine q42 (.d (db (decide (254<G.Value)))) ?_;refine Q39 ?_;refine zV O (fun O=>?_) (fun O=>?_);refine Q20 ?_;cases O;intro q;cases q;exact⟨rfl,wc⟩;refine Q54 ?_;exact ew O;refine zD ?_;cases O;intro q;cases q;exact⟨rfl,wc⟩
 rintro y1 rfl
 replace h:=eL h;refine Q19 ?_;have ⟨y2,k,h⟩:=bE h;refine zO y2 (.exit 2) (fun y2=>⟨[(0,.d (zN eSpan a0))],[]⟩) .ret (fun y2=>⟨[(2,.d (di y2))],[]⟩) ?_ ?_ ?_;refine zB (fun x=>⟨[(0,.d (zN eSpan a0)),(5,.d (di x))],[]⟩) k wc ?_
 rintro v5 aq Y
 replace Y:uA a0 v5=some aq:=Y;unfold uA at Y;refine Q13 ?_;refine q6 S22 ?_;refine Q6 ?_;refine zV Y (fun Y=>?_) (fun Y=>?_);refine Q75 ?_;have ⟨H,k,Y⟩:=bE Y;have ⟨T,z,Y⟩:=bE Y;refine tl .normal ⟨[(0,.d (zN eSpan a0)),(5,.d (di v5)),(6,.ptr 6 0),(7,.ptr 7 0)],[(6,.box 137 [.d (di H.Lo),.d (di H.Hi),.d (di H.Value)]),(7,.box 137 [.d (di T.Lo),.d (di T.Hi),.d (di T.Value)])]⟩ ?_ ?_;refine zGJ MX ?_;refine z5D ?_;refine zKR (i:=2) rfl lr rfl rfl rfl rfl rfl rfl ?_;refine zW1 (en:=eSpan) (i:=3) rfl lr S22 rfl rfl k rfl rfl rfl rfl ?_;refine xm 5 ?_;refine xm 6 ?_;refine zW1 (en:=eSpan) (i:=7) rfl lr S22 rfl rfl z rfl rfl rfl rfl ?_;refine xn [4,8,9,10] ?_;refine q46 vF k ?_ ?_;refine xn [8,9,10] ?_;refine q46 vF z ?_ ?_;refine xn [9,10] ?_;refine yDB ?_ ?_;refine xn [10] ?_;refine Q83 ?_;exact ae;refine q44 ?_;refine xn [9] ?_;refine Q83 ?_;exact ae;refine yDB ?_ ?_;refine xn [8,10] ?_;refine q46 vF z ?_ ?_;refine xn [10] ?_;refine Q83 ?_;exact ae;refine q44 ?_;refine xn [8,11] ?_;refine q46 vF z ?_ ?_;refine Q45 ?_;exact ae;refine q11 vF ?_;refine xn [8] ?_;refine q71 vF z ?_;refine Q38 ?_;exact ae;refine q44 ?_;refine xn [8,9] ?_;refine q46 vF z ?_ ?_;refine xn [9] ?_;refine Q83 ?_;exact ae;refine q44 ?_;refine xn [8,11] ?_;refine q46 vF z ?_ ?_;refine Q45 ?_;exact ae;refine q11 vF ?_;refine xn [8] ?_;refine q71 vF z ?_;refine Q38 ?_;exact ae;refine q46 vF z ?_ ?_;refine xn [4,9,10] ?_;refine q46 vF k ?_ ?_;refine xn [9,10] ?_;refine yDB ?_ ?_;refine xn [10] ?_;refine Q83 ?_;exact ae;refine q44 ?_;refine xn [9] ?_;refine Q83 ?_;exact ae;refine yDB ?_ ?_;refine xn [4,10] ?_;refine q46 vF k ?_ ?_;refine xn [10] ?_;refine Q83 ?_;exact ae;refine q44 ?_;refine xn [4] ?_;refine q71 vF k ?_;refine Q45 ?_;exact ae;refine q44 ?_;refine xn [4,9] ?_;refine q46 vF k ?_ ?_;refine xn [9] ?_;refine Q83 ?_;exact ae;refine q44 ?_;refine xn [4] ?_;refine q71 vF k ?_;refine Q45 ?_;exact ae;refine yDB ?_ ?_;refine xn [4,8,10] ?_;refine q46 vF k ?_ ?_;refine xn [8,10] ?_;refine q46 vF z ?_ ?_;refine xn [10] ?_;refine Q83 ?_;exact ae;refine q44 ?_;refine xn [8,11] ?_;refine q46 vF z ?_ ?_;refine Q45 ?_;exact ae;refine q11 vF ?_;refine xn [8] ?_;refine q71 vF z ?_;refine Q38 ?_;exact ae;refine q46 vF z ?_ ?_;refine xn [4,10] ?_;refine q46 vF k ?_ ?_;refine xn [10] ?_;refine Q83 ?_;exact ae;refine q44 ?_;refine xn [4] ?_;refine q71 vF k ?_;refine Q45 ?_;exact ae;refine q44 ?_;refine xn [4,8] ?_;refine q46 vF k ?_ ?_;refine xn [8,11] ?_;refine q46 vF z ?_ ?_;refine Q45 ?_;exact ae;refine q11 vF ?_;refine xn [8] ?_;refine q71 vF z ?_;refine Q38 ?_;exact ae;refine q71 vF z ?_;refine xn [4] ?_;refine q71 vF k ?_;refine Q45 ?_;exact ae;refine q44 ?_;refine xn [4,8,9] ?_;refine q46 vF k ?_ ?_;refine xn [8,9] ?_;refine q46 vF z ?_ ?_;refine xn [9] ?_;refine Q83 ?_;exact ae;refine q44 ?_;refine xn [8,11] ?_;refine q46 vF z ?_ ?_;refine Q45 ?_;exact ae;refine q11 vF ?_;refine xn [8] ?_;refine q71 vF z ?_;refine Q38 ?_;exact ae;refine q46 vF z ?_ ?_;refine xn [4,9] ?_;refine q46 vF k ?_ ?_;refine xn [9] ?_;refine Q83 ?_;exact ae;refine q44 ?_;refine xn [4] ?_;refine q71 vF k ?_;refine Q45 ?_;exact ae;refine q44 ?_;refine xn [4,8] ?_;refine q46 vF k ?_ ?_;refine xn [8,11] ?_;refine q46 vF z ?_ ?_;refine Q45 ?_;exact ae;refine q11 vF ?_;refine xn [8] ?_;refine q71 vF z ?_;refine Q38 ?_;exact ae;refine q71 vF z ?_;refine xn [4] ?_;refine q71 vF k ?_;refine Q45 ?_;exact ae;refine zL (z0 (t:=6) lr rfl rfl rfl) ?_;refine zL (z0 (t:=7) lr rfl rfl rfl) ?_;refine Q0 ?_;refine q9 zF8 ?_;refine q10 O3 ?_;refine q9 zF9 ?_;refine q10 O3 ?_;refine q81 ?_;have ⟨_,k,Y⟩:=bE Y;refine q7 k ?_;refine q29 (.ip (eSpan.cells T) (0+0)) zF8 ?_;refine q30 (.d (di T.Lo)) O3 ?_;refine q29 (.ip (eSpan.cells H) (0+1)) zF9 ?_;refine q30 (.d (di H.Hi)) O3 ?_;refine sqf (.d (di (wi (H.Hi+1)))) rfl (fun hb=>by subst hb;exact zTM lr rfl rfl) ?_
 refine z9U (.d (db (decide (T.Lo=(wi (H.Hi+1)))))) ?_;have ⟨ad,ao,Y⟩:=bE Y;refine sqf (.d (db ad)) rfl (fun hb=>by subst hb;exact(zS lr rfl).bool (oi ao)) ?_
 refine jM (x:= .ip (eSpan.cells T) (0+2)) rfl rfl rfl lr lr rfl (fun hb=>by obtain⟨hb,Z⟩:=zM hb;obtain rfl:=gF hb;obtain rfl:ad=true:=Z;exact wR lr zHH rfl) ?_
 refine jM (x:= .d (di T.Value)) rfl rfl rfl lr lr rfl (fun hb=>by obtain⟨hb,Z⟩:=zM hb;obtain rfl:=gF hb;obtain rfl:ad=true:=Z;exact xT lr O3 rfl rfl) ?_
 refine jM (x:= .ip (eSpan.cells H) (0+2)) rfl rfl rfl lr lr rfl (fun hb=>by obtain⟨hb,Z⟩:=zM hb;obtain rfl:=gF hb;obtain rfl:ad=true:=Z;exact wR lr zHH rfl) ?_
 refine jM (x:= .d (di H.Value)) rfl rfl rfl lr lr rfl (fun hb=>by obtain⟨hb,Z⟩:=zM hb;obtain rfl:=gF hb;obtain rfl:ad=true:=Z;exact xT lr O3 rfl rfl) ?_
 refine jM (x:= .d (db (decide (T.Value=H.Value)))) rfl rfl rfl lr lr rfl (fun hb=>by obtain⟨hb,Z⟩:=zM hb;obtain rfl:=gF hb;obtain rfl:ad=true:=Z;exact zI1 lr rfl rfl) ?_
 refine q86 (.d (db (ad&&(decide (T.Value=H.Value))))) ?_;refine Q39 ?_;refine zV Y (fun Y=>?_) (fun Y=>?_);refine Q20 ?_;cases Y;intro q;cases q;exact⟨rfl,wc⟩;refine Q34 ?_;exact ew Y;refine zD ?_;cases Y;intro q;cases q;exact⟨rfl,wc⟩
 rintro y2 rfl
 replace h:=eL h;refine Q4 ?_;refine q6 S22 ?_;refine Q29 ?_;have ⟨y3,k,h⟩:=bE h;refine zO y3 (.exit 4) (fun y3=>⟨[],[]⟩) .ret (fun y3=>⟨[(2,.d (di y3))],[]⟩) ?_ ?_ ?_;refine zB (fun x=>⟨[(79,.d (zN eSpan a0)),(80,.d (di (a0.length:Int))),(81,.d (di x))],[]⟩) k wc ?_
 rintro aj ar p3
 replace p3:uB a0 aj=some ar:=p3;unfold uB at p3;refine Q22 ?_;refine zV p3 (fun p3=>?_) (fun p3=>?_);refine Q30 ?_;have ⟨ah,k,p3⟩:=bE p3;refine q12 S22 k ?_;refine yHV vF k ?_;refine z9X ?_;refine q16 vF ?_;refine zG ?_;refine zL (z0 (t:=9) lr rfl rfl rfl) ?_;refine Q0 ?_;have ⟨ag,k,p3⟩:=bE p3;refine kE ((yGW (zs:=[.int .i64 4352,.int .i64 4370,.int .i64 4449,.int .i64 4469,.int .i64 4520,.int .i64 4546,.int .i64 44032,.int .i64 55203]) lr yPT Z0 rfl rfl).data (b:=eA4Range.dv ag) (congrArg eA4Range.dv (oi k))) ?_;refine Q29 ?_;have ⟨y4,k,p3⟩:=bE p3;refine zO y4 (.exit 6) (fun y4=>⟨[(79,.d (zN eSpan a0)),(80,.d (di (a0.length:Int))),(81,.d (di aj))],[]⟩) .ret (fun y4=>⟨[(2,.d (di y4))],[]⟩) ?_ ?_ ?_;refine zB (fun x=>⟨[(9,.d (.pt (eSpan.cells ah))),(79,.d (zN eSpan a0)),(80,.d (di (a0.length:Int))),(81,.d (di aj)),(85,.d (eA4Range.dv ag)),(86,.d (di x))],[]⟩) k wc ?_
 rintro ax au p4
 replace p4:xN ag ah ax=some au:=p4;unfold xN at p4;refine Q22 ?_;refine zV p4 (fun p4=>?_) (fun p4=>?_);refine Q30 ?_;have ⟨ai,k,p4⟩:=bE p4;refine kE (z87 (en:=eRange) (l:=[ag.x0,ag.x1,ag.x2,ag.x3]) lr yPP zA9 (fun _=>rfl) rfl rfl rfl k) ?_;refine z40 ?_;refine q16 zA9 ?_;refine zG ?_;refine zL (z0 (t:=11) lr rfl rfl rfl) ?_;refine Q0 ?_;refine q9 zF8 ?_;refine q10 O3 ?_;refine q9 zFD ?_;refine q10 O3 ?_;refine q81 ?_;have ⟨_,k,p4⟩:=bE p4;refine q7 k ?_;refine q62 (.ip (eRange.cells ai) (0+0)) zJN ?_;refine q67 (.d (di ai.Lo)) O3 ?_;refine q62 (.ip (eSpan.cells ah) (0+1)) zF9 ?_;refine q67 (.d (di ah.Hi)) O3 ?_;refine q57 (.d (db (decide (ai.Lo≤ah.Hi)))) ?_;refine Q36 ?_;refine zV p4 (fun p4=>?_) (fun p4=>?_);refine Q20 ?_;cases p4;intro q;cases q;exact⟨rfl,wc⟩;refine Q54 ?_;exact ew p4;refine zD ?_;cases p4;intro q;cases q;exact⟨rfl,wc⟩
 rintro y4 rfl
 replace p3:=eL p3;refine Q24 ?_;exact ew p3
 rintro y4 rfl
 replace p3:=eR p3;cases p3;intro q;cases q;exact⟨rfl,wc⟩;refine zD ?_;cases p3;intro q;cases q;exact⟨rfl,wc⟩
 rintro y3 rfl
 replace h:=eL h;refine Q3 ?_;exact er h
 rintro y3 rfl
 replace h:=eR h;exact es h
 rintro y2 rfl
 replace h:=eR h;exact es h
 rintro y1 rfl
 replace h:=eR h;exact es h
theorem zQT {T r} (h:zDJ T=some r):zE Tryz.prog 181 [(ds T)] [(db r)]:=by
 refine co Tryz.func181 ?_;intro _ _ _ _;unfold zDJ at h;refine Q43 ?_;refine kE (zL5 (a:=T) (b:=[]) lr rfl rfl) ?_;have ⟨_,k,h⟩:=bE h;refine q7 k ?_;refine q39 (.d (ds T)) ?_;refine sqf (.d (di (T.length:Int))) rfl (fun hb=>by subst hb;exact zTN (s:=T) lr Tryz.underlying9 rfl) ?_
 refine q42 (.d (db (decide (32<(T.length:Int))))) ?_;refine Q39 ?_;refine zV h (fun h=>?_) (fun h=>?_);refine Q3 ?_;exact er h;refine z2A ?_;refine z9Q Tryz.underlying9 ?_;refine Q29 ?_;have ⟨Z,k,h⟩:=bE h;refine zO Z (.exit 0) (fun Z=>⟨[],[]⟩) .ret (fun Z=>⟨[(2,.d (db Z))],[]⟩) ?_ ?_ ?_;refine zB (fun x=>⟨[(0,.d (ds T)),(14,.d (di (T.length:Int))),(15,.d (di x))],[]⟩) k wc ?_
 rintro ag ad G
 replace G:uC T ag=some ad:=G;unfold uC at G;refine Q22 ?_;refine zV G (fun G=>?_) (fun G=>?_);refine Q8 ?_;refine Q28 ?_;refine Q14 ?_;have ⟨z,k,G⟩:=bE G;refine yHP Tryz.underlying9 k ?_;refine Q35 ?_;refine q43 ?_;have ⟨_,k,G⟩:=bE G;refine q7 k ?_;refine q14 (.d (dby z)) ?_;refine q57 (.d (db (decide (z≤90)))) ?_;refine q15 ?_;have ⟨_,k,G⟩:=bE G;refine q7 k ?_;refine q39 (.d (dby z)) ?_;refine q96 (.d (db (decide (97≤z)))) ?_;have ⟨Y,ab,G⟩:=bE G;refine sqf (.d (db Y)) rfl (fun hb=>by subst hb;exact(zS lr rfl).bool (oi ab)) ?_
 refine jM (x:= .d (dby z)) rfl rfl rfl lr lr rfl (fun hb=>by obtain⟨hb,H⟩:=zM hb;obtain rfl:=gF hb;obtain rfl:Y=true:=H;exact zS lr rfl) ?_
 refine jM (x:= .d (db (decide (z≤122)))) rfl rfl rfl lr lr rfl (fun hb=>by obtain⟨hb,H⟩:=zM hb;obtain rfl:=gF hb;obtain rfl:Y=true:=H;exact zJV lr rfl rfl) ?_
 refine q86 (.d (db (Y&&(decide (z≤122))))) ?_;refine q18 ?_;refine Q35 ?_;refine q36 ?_;have ⟨aa,k,G⟩:=bE G;refine q7 k ?_;refine q14 (.d (dby z)) ?_;refine sqt (.d (db (decide (48≤z)))) rfl (fun hb=>by subst hb;exact zLY lr rfl rfl) ?_
 have ⟨O,ac,G⟩:=bE G;refine sqt (.d (db O)) rfl (fun hb=>by subst hb;exact(zS lr rfl).bool (oi ac)) ?_
 refine jM (x:= .d (dby z)) rfl rfl rfl lr lr rfl (fun hb=>by obtain⟨hb,H⟩:=zM hb;obtain rfl:aa=true:=hb;obtain rfl:O=true:=H;exact zS lr rfl) ?_
 refine jM (x:= .d (db (decide (z≤57)))) rfl rfl rfl lr lr rfl (fun hb=>by obtain⟨hb,H⟩:=zM hb;obtain rfl:aa=true:=hb;obtain rfl:O=true:=H;exact zJV lr rfl rfl) ?_
 refine sqt (.d (db (O&&(decide (z≤57))))) rfl (fun hb=>by subst hb;exact zFP lr rfl rfl) ?_
 refine z13 (.d (db (!(O&&(decide (z≤57)))))) ?_;refine q15 ?_;have ⟨_,k,G⟩:=bE G;refine q7 k ?_;refine q14 (.d (dby z)) ?_;refine yDC (.d (db (!decide (z=95)))) ?_;refine Q36 ?_;refine zV G (fun G=>?_) (fun G=>?_);refine Q20 ?_;cases G;intro q;cases q;exact⟨rfl,wc⟩;refine Q54 ?_;exact ew G;refine zD ?_;cases G;intro q;cases q;exact⟨rfl,wc⟩
 rintro Z rfl
 replace h:=eL h;refine Q3 ?_;exact er h
 rintro Z rfl
 replace h:=eR h;exact es h
theorem zR1 {G r} (h:zD9 G=some r):zE Tryz.prog 157 [(zN eMapping G)] [(di r)]:=by
 refine co Tryz.func157 ?_;intro _ _ _ _;unfold zD9 at h;refine Q43 ?_;refine z5E ?_;have ⟨y1,k,h⟩:=bE h;refine zO y1 (.exit 0) (fun y1=>⟨[(0,.d (zN eMapping G))],[]⟩) .ret (fun y1=>⟨[(2,.d (di y1))],[]⟩) ?_ ?_ ?_;refine zB (fun x=>⟨[(0,.d (zN eMapping G)),(11,.d (zN eMapping G)),(12,.d (di (G.length:Int))),(13,.d (di x))],[]⟩) k wc ?_
 rintro Z aj z
 replace z:u0 G Z=some aj:=z;unfold u0 at z;refine Q22 ?_;refine zV z (fun z=>?_) (fun z=>?_);refine Q30 ?_;have ⟨Y,k,z⟩:=bE z;refine q12 S23 k ?_;refine q93 G72 k ?_;refine z5F ?_;refine zL (z0 (t:=4) lr rfl rfl rfl) ?_;refine Q18 ?_;refine zY3 ?_;have ⟨_,k,z⟩:=bE z;refine q4 (zC9 k) ?_;refine Q40 ?_;refine zV z (fun z=>?_) (fun z=>?_);refine Q20 ?_;cases z;intro q;cases q;exact⟨rfl,wc⟩;refine Q55 ?_;refine q9 zG7 ?_;refine q10 O37 ?_;refine Q80 ?_;have ⟨y2,k,z⟩:=bE z;refine zO y2 (.exit 2) (fun y2=>⟨[(0,.d (zN eMapping G)),(11,.d (zN eMapping G)),(12,.d (di (G.length:Int))),(13,.d (di Z))],[]⟩) .ret (fun y2=>⟨[(2,.d (di y2))],[]⟩) ?_ ?_ ?_;refine zB (fun x=>⟨[(0,.d (zN eMapping G)),(11,.d (zN eMapping G)),(12,.d (di (G.length:Int))),(13,.d (di Z)),(22,.d (zN eI Y.To)),(23,.d (di (Y.To.length:Int))),(24,.d (di x))],[]⟩) k wc ?_
 rintro an ak O
 replace O:uZ Y an=some ak:=O;unfold uZ at O;refine Q22 ?_;refine zV O (fun O=>?_) (fun O=>?_);refine Q30 ?_;have ⟨_,k,O⟩:=bE O;refine q12 z3 k ?_;refine q27 O3 k ?_;refine Q35 ?_;have ⟨_,k,O⟩:=bE O;refine q4 (zC9 k) ?_;refine Q40 ?_;refine zV O (fun O=>?_) (fun O=>?_);refine Q20 ?_;cases O;intro q;cases q;exact⟨rfl,wc⟩;refine Q54 ?_;exact ew O;refine zD ?_;cases O;intro q;cases q;exact⟨rfl,wc⟩
 rintro y2 rfl
 replace z:=eL z;refine Q24 ?_;exact ew z
 rintro y2 rfl
 replace z:=eR z;cases z;intro q;cases q;exact⟨rfl,wc⟩;refine zD ?_;cases z;intro q;cases q;exact⟨rfl,wc⟩
 rintro y1 rfl
 replace h:=eL h;refine Q4 ?_;refine z5E ?_;have ⟨y3,k,h⟩:=bE h;refine zO y3 (.exit 4) (fun y3=>⟨[(0,.d (zN eMapping G))],[]⟩) .ret (fun y3=>⟨[(2,.d (di y3))],[]⟩) ?_ ?_ ?_;refine zB (fun x=>⟨[(0,.d (zN eMapping G)),(33,.d (zN eMapping G)),(34,.d (di (G.length:Int))),(35,.d (di x))],[]⟩) k wc ?_
 rintro ao al T
 replace T:u2 G ao=some al:=T;unfold u2 at T;refine Q22 ?_;refine zV T (fun T=>?_) (fun T=>?_);refine Q30 ?_;have ⟨_,k,T⟩:=bE T;refine q12 S23 k ?_;refine q93 G72 k ?_;refine z5F ?_;refine zL (z0 (t:=8) lr rfl rfl rfl) ?_;refine Q0 ?_;refine q9 zG7 ?_;refine q10 O37 ?_;refine q6 z3 ?_;refine Q52 ?_;refine zV T (fun T=>?_) (fun T=>?_);refine Q20 ?_;cases T;intro q;cases q;exact⟨rfl,wc⟩;refine Q54 ?_;exact ew T;refine zD ?_;cases T;intro q;cases q;exact⟨rfl,wc⟩
 rintro y3 rfl
 replace h:=eL h;refine Q4 ?_;refine z5E ?_;have ⟨y4,k,h⟩:=bE h;refine zO y4 (.exit 6) (fun y4=>⟨[],[]⟩) .ret (fun y4=>⟨[(2,.d (di y4))],[]⟩) ?_ ?_ ?_;refine zB (fun x=>⟨[(44,.d (zN eMapping G)),(45,.d (di (G.length:Int))),(46,.d (di x))],[]⟩) k wc ?_
 rintro ap am H
 replace H:u3 G ap=some am:=H;unfold u3 at H;refine Q22 ?_;refine zV H (fun H=>?_) (fun H=>?_);refine Q30 ?_;have ⟨ah,k,H⟩:=bE H;refine q12 S23 k ?_;refine q93 G72 k ?_;refine z5F ?_;refine zL (z0 (t:=10) lr rfl rfl rfl) ?_;refine Q0 ?_;refine q9 zEZ ?_;refine q10 O9 ?_;refine z9V ?_;have ⟨_,k,H⟩:=bE H;refine q7 k ?_;refine q62 (.ip (eMapping.cells ah) (0+2)) zEZ ?_;refine q67 (.d (ds ah.Tag)) O9 ?_;have ⟨ai,ag,H⟩:=bE H;refine sqt (.d (db ai)) rfl (fun hb=>by subst hb;exact uG lr rfl (zQT ag)) ?_
 refine z13 (.d (db (!ai))) ?_;refine Q36 ?_;refine zV H (fun H=>?_) (fun H=>?_);refine Q20 ?_;cases H;intro q;cases q;exact⟨rfl,wc⟩;refine Q54 ?_;exact ew H;refine zD ?_;cases H;intro q;cases q;exact⟨rfl,wc⟩
 rintro y4 rfl
 replace h:=eL h;refine Q3 ?_;exact er h
 rintro y4 rfl
 replace h:=eR h;exact es h
 rintro y3 rfl
 replace h:=eR h;exact es h
 rintro y1 rfl
 replace h:=eR h;exact es h
theorem zIK {k r} (h:zBT k=some r):zE Tryz.prog 198 [(ds k)] [(db r)]:=by refine co Tryz.func198 ?_;intro _ _ _ _;unfold zBT at h;refine z19 ?_;refine z9V ?_;refine Q1 ?_;exact er h
theorem zMH {z a1 r} (h:zAG z a1=some r):zE Tryz.prog 183 [(ds z),(ds a1)] [(di r)]:=by refine co Tryz.func183 ?_;intro _ _ _ _;unfold zAG at h;refine Q56 ?_;have ⟨_,k,h⟩:=bE h;refine q4 (zIK k) ?_;refine Q35 ?_;have ⟨_,k,h⟩:=bE h;refine q4 (zIK k) ?_;refine Q1 ?_;refine Q96 ?_;refine zV h (fun h=>?_) (fun h=>?_);refine Q96 ?_;refine zV h (fun h=>?_) (fun h=>?_);refine Q3 ?_;exact er h;refine Q53 ?_;exact er h;refine zI<|Q96 ?_;refine zV h (fun h=>?_) (fun h=>?_);refine Q3 ?_;exact er h;refine zI<|Q13 ?_;refine kE (yB6 (a:=z) (b:=a1) lr rfl rfl) ?_;refine zG ?_;refine zV h (fun h=>?_) (fun h=>?_);refine Q3 ?_;exact er h;refine zI<|Q13 ?_;refine kE (yLD (a:=z) (b:=a1) lr rfl rfl) ?_;refine zG ?_;refine zV h (fun h=>?_) (fun h=>?_);refine Q3 ?_;exact er h;refine Q53 ?_;exact er h
theorem zO9 {H r} (h:zFV H=some r):zE Tryz.prog 182 [(zN eI H)] [(di r)]:=by
 refine co Tryz.func182 ?_;intro _ _ _ _;unfold zFV at h;refine Q3 ?_;refine Q43 ?_;refine Q80 ?_;have ⟨G,k,h⟩:=bE h;refine zO G (.exit 0) (fun G=>⟨[(3,.d (di 0))],[]⟩) .ret (fun G=>⟨[(2,.d (di G))],[]⟩) ?_ ?_ ?_;refine zB (fun x=>⟨[(3,.d (di 0)),(6,.d (zN eI H)),(7,.d (di (H.length:Int))),(8,.d (di x))],[]⟩) k wc ?_
 rintro T O z
 replace z:zCX H T=some O:=z;unfold zCX at z;refine Q22 ?_;refine zV z (fun z=>?_) (fun z=>?_);refine Q30 ?_;have ⟨_,k,z⟩:=bE z;refine q12 z3 k ?_;refine q27 O3 k ?_;refine Q1 ?_;refine Q14 ?_;refine Q32 ?_;refine zV z (fun z=>?_) (fun z=>?_);refine Q28 ?_;refine zQ ?_;cases z;intro q;cases q;exact⟨rfl,wc⟩;refine Q54 ?_;exact ew z;refine zD ?_;cases z;intro q;cases q;exact⟨rfl,wc⟩
 rintro G rfl
 replace h:=eL h;refine Q28 ?_;exact er h
 rintro G rfl
 replace h:=eR h;exact es h
theorem zPA {z a1 r} (h:zCS z a1=some r):zE Tryz.prog 158 [(eMapping.dv z),(eMapping.dv a1)] [(di r)]:=by refine co Tryz.func158 ?_;intro _ _ _ _;unfold zCS at h;refine Q46 ?_;refine q45 ?_;refine Q79 ?_;refine zX MX rfl ?_;refine q22 zJZ ?_;refine q34 O3 ?_;refine q22 zJZ ?_;refine q34 O3 ?_;have ⟨_,k,h⟩:=bE h;refine q25 (wG k) ?_;refine q22 zEZ ?_;refine q34 O9 ?_;refine q22 zEZ ?_;refine q34 O9 ?_;have ⟨_,k,h⟩:=bE h;refine q25 (zMH k) ?_;refine z9R z3 ?_;have ⟨_,k,h⟩:=bE h;refine q25 (zO9 k) ?_;refine Q50 ?_;exact er h
theorem zLC {k r} (h:zEA k=some r):zE Tryz.prog 159 [(eMapping.dv k)] [(eMapping_key.dv r)]:=by refine co Tryz.func159 ?_;intro _ _ _ _;unfold zEA at h;refine Q46 ?_;refine z2 rfl (yE (zs:=[(.int IntKind.i64 (0)),(.string ⟨#[]⟩)]) lr (by kernel_rfl) rfl rfl) ?_;refine Q58 ?_;refine zY3 ?_;refine q9 zEZ ?_;refine q10 O9 ?_;refine q72 yPR ?_;refine q16 yN4 ?_;refine zG ?_;cases h;refine zQ ?_;exact xU rfl rfl yN4 rfl
theorem zR2 {O r} (h:zEB O=some r):zE Tryz.prog 113 [(zN eMapping O)] [(di r)]:=by
 refine co Tryz.func113 ?_;intro _ _ _ _;unfold zEB at h;refine Q43 ?_;have ⟨_,ac,h⟩:=bE h;refine q4 (zR1 ac) ?_;refine Q78 ?_;refine zV h (fun h=>?_) (fun h=>?_);refine Q28 ?_;exact er h;refine Q53 ?_;refine Q19 ?_;have ⟨y1,ai,h⟩:=bE h;refine tl (.exit 0) ⟨[(0,.d (zN eMapping O)),(4,.d (db y1))],[]⟩ ?_ ?_;refine zB (fun x=>⟨[(0,.d (zN eMapping O)),(4,.d (db x.1)),(5,.d (di x.2))],[]⟩) ai wc ?_
 rintro⟨v4,v5⟩ ak H
 replace H:wT O v4 v5=some ak:=H;unfold wT at H;refine Q59 ?_;refine zV H (fun H=>?_) (fun H=>?_);refine Q5 ?_;have ⟨y2,z,H⟩:=bE H;refine tl .normal ⟨[(0,.d (zN eMapping O)),(4,.d (db y2)),(5,.d (di v5))],[]⟩ ?_ ?_;refine z4<|z8 ?_;refine zX MX rfl ?_;refine Q33 ?_;refine q89 ?_;have ⟨_,T,z⟩:=bE z;refine q28 S23 T ?_;refine yHW G72 T ?_;refine Q33 ?_;have ⟨_,Y,z⟩:=bE z;refine q28 S23 Y ?_;refine yHW G72 Y ?_;have ⟨_,ad,z⟩:=bE z;refine q25 (zPA ad) ?_;refine daa (zLY lr rfl rfl) ?_;refine xG ?_;refine zV z (fun z=>?_) (fun z=>?_);refine kZ<|Q1 ?_;exact eo z;refine zI ?_;exact eo z;refine Q12 ?_;exact ew H;exact zD (ex H);refine Q96 ?_;refine zV h (fun h=>?_) (fun h=>?_);refine Q3 ?_;exact er h;refine Q55 ?_;refine yC6 ?_;refine Q10 ?_;refine Q4 ?_;refine z5E ?_;have ⟨y3,aj,h⟩:=bE h;refine zO y3 (.exit 2) (fun y3=>⟨[],[]⟩) .ret (fun y3=>⟨[(2,.d (di y3))],[]⟩) ?_ ?_ ?_;refine zB (fun x=>⟨[(6,.row 32),(33,.d (zN eMapping O)),(34,.d (di (O.length:Int))),(35,.d (di x.1))],[(32,.map (vV zHQ eB x.2))]⟩) aj wc ?_
 rintro⟨ao,aa⟩ al G
 replace G:wU O ao aa=some al:=G;unfold wU at G;refine Q22 ?_;refine zV G (fun G=>?_) (fun G=>?_);refine Q30 ?_;have ⟨_,Z,G⟩:=bE G;refine q12 S23 Z ?_;refine q93 G72 Z ?_;refine z5F ?_;refine zL (z0 (t:=8) lr rfl rfl rfl) ?_;refine Q18 ?_;refine q5 ?_;refine q32 G72 ?_;have ⟨am,ag,G⟩:=bE G;refine q4 (zLC ag) ?_;refine kE (z9A (kv:=zHQ) (ev:=eB) (mp:=aa) (k:=am) (zero:=false) lr yN7 yOC rfl rfl rfl (yGX rfl) (fun _ _=> .v _)) ?_;refine zG ?_;refine zV G (fun G=>?_) (fun G=>?_);refine Q20 ?_;cases G;intro q;cases q;exact⟨rfl,wc⟩;refine zI<|Q57 ?_;refine q32 G72 ?_;have ⟨an,ah,G⟩:=bE G;refine q4 (zLC ah) ?_;refine z2 rfl (zO3 (kv:=zHQ) (ev:=eB) (mp:=aa) (k:=an) (v:=true) yN7 yOC rfl rfl rfl (yGX rfl) rfl rfl rfl) ?_;refine zG<|Q24 ?_;exact ew G;refine zD ?_;cases G;intro q;cases q;exact⟨rfl,wc⟩
 rintro y3 rfl
 replace h:=eL h;refine Q3 ?_;exact er h
 rintro y3 rfl
 replace h:=eR h;exact es h
set_option maxRecDepth 20000 in
theorem zPB {O r} (h:zHG O=some r):zE Tryz.prog 128 [(.v (.int .u64 O))] [(di r)]:=by refine co Tryz.func128 ?_;intro _ _ _ _;unfold zHG at h;refine Q43 ?_;refine Q99 ?_;have ⟨T,z,h⟩:=bE h;refine tl .normal ⟨[(0,.d (.v (.int .u64 T.1))),(2,.d (di T.2))],[]⟩ ?_ ?_;refine zV z (fun z=>?_) (fun z=>?_);refine Q2 ?_;refine q73 ?_;refine Q1 ?_;refine kZ<|Q1 ?_;exact eo z;refine zI ?_;exact eo z;refine Q4 ?_;refine Q99 ?_;have ⟨Y,G,h⟩:=bE h;refine tl .normal ⟨[(0,.d (.v (.int .u64 Y.1))),(2,.d (di Y.2))],[]⟩ ?_ ?_;refine zV G (fun G=>?_) (fun G=>?_);refine Q2 ?_;refine q73 ?_;refine Q1 ?_;refine Q12 ?_;exact eo G;refine zI ?_;exact eo G;refine Q4 ?_;refine Q99 ?_;have ⟨Z,H,h⟩:=bE h;refine tl .normal ⟨[(0,.d (.v (.int .u64 Z.1))),(2,.d (di Z.2))],[]⟩ ?_ ?_;refine zV H (fun H=>?_) (fun H=>?_);refine Q2 ?_;refine q73 ?_;refine Q1 ?_;refine Q12 ?_;exact eo H;refine zI ?_;exact eo H;refine Q14 ?_;refine q49 Tryz.underlying166 Tryz.underlying5 ?_;have ⟨_,k,h⟩:=bE h;refine yHP Tryz.underlying9 k ?_;refine q49 Tryz.underlying5 Tryz.underlying3 ?_;refine Q9 ?_;exact er h
theorem zR3 {z r} (h:zEC z=some r):zE Tryz.prog 84 [(.v (.int .u64 z))] [(di r)]:=by refine co Tryz.func84 ?_;intro _ _ _ _;unfold zEC at h;refine Q3 ?_;refine z8 ?_;refine zV h (fun h=>?_) (fun h=>?_);refine Q2 ?_;refine q49 Tryz.underlying94 Tryz.underlying164 ?_;cases h;refine z49 ?_;have ⟨_,k,h⟩:=bE h;refine q4 (zPB k) ?_;refine Q1 ?_;exact er h
set_option maxHeartbeats 8000000 in
theorem zDD {ac:DV} {a0:(List Range)} {a1:Int} {a2:Int} {a3:Range→Range→Option (Int)} (aq:∀x0 x1 y,a3 x0 x1=some y→FnC Tryz.prog ac [(eRange.dv x0),(eRange.dv x1)] [(di y)]) {r:(List Range)} (h:kO a0 a1 a2 a3=some r):GC Tryz.prog 207 [.row 3000,.d (di a1),.d (di a2),.d ac] [(3000,.row 184 eRange.size false (eRange.all a0))] [3000] [] [(3000,.row 184 eRange.size false (eRange.all r))]:=by
 refine zC6 Tryz.func207 (by kernel_rfl) rfl lr lr fun w0 I0 ax p0=>?_;unfold kO at h;refine Q2 ?_;refine Q9 ?_;refine z4 ?_;have ⟨y1,k,h⟩:=bE h;refine tl (.exit 0) ⟨[(0,.row 3000)],[(3000,.row 184 eRange.size false (eRange.all y1))]⟩ ?_ ?_;refine zB (fun x=>⟨[(0,.row 3000),(1,.d (di a1)),(2,.d (di a2)),(3,.d ac),(8,.d (di x.1))],[(3000,.row 184 eRange.size false (eRange.all x.2))]⟩) k wc ?_
 rintro⟨v8,z⟩ ar p1
 replace p1:yB a2 a1 a3 v8 z=some ar:=p1;unfold yB at p1;refine Q73 ?_;refine zV p1 (fun p1=>?_) (fun p1=>?_);refine Q8 ?_;refine Q28 ?_;refine z4 ?_;have ⟨y2,k,p1⟩:=bE p1;refine tl (.exit 2) ⟨[(0,.row 3000),(1,.d (di a1)),(2,.d (di a2)),(3,.d ac),(8,.d (di v8))],[(3000,.row 184 eRange.size false (eRange.all y2))]⟩ ?_ ?_;refine zB (fun x=>⟨[(0,.row 3000),(1,.d (di a1)),(2,.d (di a2)),(3,.d ac),(8,.d (di v8)),(9,.d (di x.1))],[(3000,.row 184 eRange.size false (eRange.all x.2))]⟩) k wc ?_
 rintro⟨Y,z⟩ au T
 replace T:yN a1 a3 Y z=some au:=T;unfold yN at T;refine z8<|z8 ?_;refine zX MX rfl ?_;refine Q33 ?_;refine z4Z ?_;have ⟨_,k,T⟩:=bE T;refine q55 k ?_;refine q53 (.d ac) ?_;refine yDD (.row 3000) ?_;refine q53 (.d (di Y)) ?_;have ⟨al,ai,T⟩:=bE T;refine dat (.ptr 3000 (Y.toNat*eRange.size)) rfl (fun hb=>by subst hb;exact zD5 (en:=eRange) (l:=z) lr S24 rfl rfl rfl ai) ?_
 refine dat (.d (eRange.dv al)) rfl (fun hb=>by subst hb;exact wQ (en:=eRange) (l:=z) (i:=Y) (v:=al) (off:=0) lr zA9 rfl rfl ai rfl rfl (by decide)) ?_
 refine yDD (.row 3000) ?_;refine q53 (.d (di Y)) ?_;refine z9W (.d (di (wi (Y-1)))) ?_;have ⟨am,aj,T⟩:=bE T;refine dat (.ptr 3000 ((wi (Y-1)).toNat*eRange.size)) rfl (fun hb=>by subst hb;exact zD5 (en:=eRange) (l:=z) lr S24 rfl rfl rfl aj) ?_
 refine dat (.d (eRange.dv am)) rfl (fun hb=>by subst hb;exact wQ (en:=eRange) (l:=z) (i:=(wi (Y-1))) (v:=am) (off:=0) lr zA9 rfl rfl aj rfl rfl (by decide)) ?_
 have ⟨an,ak,T⟩:=bE T;refine dat (.d (di an)) rfl (fun hb=>by subst hb;exact zGI lr rfl rfl (aq _ _ _ ak)) ?_
 refine dat (.d (db (decide (an<0)))) rfl (fun hb=>by subst hb;exact zLX lr rfl rfl) ?_
 refine Q90 ?_;refine zV T (fun T=>?_) (fun T=>?_);refine Q8 ?_;have ⟨ad,k,T⟩:=bE T;have ⟨ag,O,T⟩:=bE T;have ⟨_,Z,T⟩:=bE T;have ⟨_,G,T⟩:=bE T;have ⟨_,aa,T⟩:=bE T;have ⟨ab,H,T⟩:=bE T;refine tl .normal ⟨[(0,.row 3000),(1,.d (di a1)),(2,.d (di a2)),(3,.d ac),(8,.d (di v8)),(9,.d (di Y))],[(3000,.row 184 eRange.size false (eRange.all ab))]⟩ ?_ ?_;refine zGJ MX ?_;refine z5D ?_;refine xm 2 ?_;refine xm 3 ?_;refine zKR (i:=4) rfl lr rfl rfl rfl rfl rfl rfl ?_;refine xm 5 ?_;refine xm 6 ?_;refine zKR (i:=7) rfl lr rfl rfl rfl rfl rfl rfl ?_;refine xm 10 ?_;refine xm 11 ?_;refine xn [8,12] ?_;refine yHX S24 k ?_ ?_;refine xn [9,12] ?_;refine xa rfl (wQ (en:=eRange) (l:=z) (i:=(wi (Y-1))) (v:=ad) (off:=0) lr zA9 rfl rfl k rfl rfl (by decide)) ?_ ?_;refine xn [12] ?_;refine q38 S24 O ?_;refine xn [13] ?_;refine xc rfl (wQ (en:=eRange) (l:=z) (i:=Y) (v:=ag) (off:=0) lr zA9 rfl rfl O rfl rfl (by decide)) ?_;refine xn [14] ?_;refine q38 S24 Z ?_;refine xn [15] ?_;refine q77 zA9 G ?_;refine xn [16] ?_;refine q38 S24 aa ?_;refine xn [17] ?_;refine q77 zA9 H ?_;exact ae;refine q38 S24 O ?_;refine xn [9,13] ?_;refine xa rfl (wQ (en:=eRange) (l:=z) (i:=(wi (Y-1))) (v:=ad) (off:=0) lr zA9 rfl rfl k rfl rfl (by decide)) ?_ ?_;refine xn [13] ?_;refine xc rfl (wQ (en:=eRange) (l:=z) (i:=Y) (v:=ag) (off:=0) lr zA9 rfl rfl O rfl rfl (by decide)) ?_;refine xn [14] ?_;refine q38 S24 Z ?_;refine xn [15] ?_;refine q77 zA9 G ?_;refine xn [16] ?_;refine q38 S24 aa ?_;refine xn [17] ?_;refine q77 zA9 H ?_;exact ae;refine xc rfl (wQ (en:=eRange) (l:=z) (i:=Y) (v:=ag) (off:=0) lr zA9 rfl rfl O rfl rfl (by decide)) ?_;refine xn [9] ?_;refine xc rfl (wQ (en:=eRange) (l:=z) (i:=(wi (Y-1))) (v:=ad) (off:=0) lr zA9 rfl rfl k rfl rfl (by decide)) ?_;refine xn [14] ?_;refine q38 S24 Z ?_;refine xn [15] ?_;refine q77 zA9 G ?_;refine xn [16] ?_;refine q38 S24 aa ?_;refine xn [17] ?_;refine q77 zA9 H ?_;exact ae;refine q38 S24 O ?_;refine xn [8,13] ?_;refine yHX S24 k ?_ ?_;refine xn [9,13] ?_;refine xa rfl (wQ (en:=eRange) (l:=z) (i:=(wi (Y-1))) (v:=ad) (off:=0) lr zA9 rfl rfl k rfl rfl (by decide)) ?_ ?_;refine xn [13] ?_;refine xc rfl (wQ (en:=eRange) (l:=z) (i:=Y) (v:=ag) (off:=0) lr zA9 rfl rfl O rfl rfl (by decide)) ?_;refine xn [14] ?_;refine q38 S24 Z ?_;refine xn [15] ?_;refine q77 zA9 G ?_;refine xn [16] ?_;refine q38 S24 aa ?_;refine xn [17] ?_;refine q77 zA9 H ?_;exact ae;refine xc rfl (wQ (en:=eRange) (l:=z) (i:=Y) (v:=ag) (off:=0) lr zA9 rfl rfl O rfl rfl (by decide)) ?_;refine xn [9] ?_;refine xc rfl (wQ (en:=eRange) (l:=z) (i:=(wi (Y-1))) (v:=ad) (off:=0) lr zA9 rfl rfl k rfl rfl (by decide)) ?_;refine xn [14] ?_;refine q38 S24 Z ?_;refine xn [15] ?_;refine q77 zA9 G ?_;refine xn [16] ?_;refine q38 S24 aa ?_;refine xn [17] ?_;refine q77 zA9 H ?_;exact ae;refine xc rfl (wQ (en:=eRange) (l:=z) (i:=Y) (v:=ag) (off:=0) lr zA9 rfl rfl O rfl rfl (by decide)) ?_;refine xn [8] ?_;refine q38 S24 k ?_;refine xn [9] ?_;refine xc rfl (wQ (en:=eRange) (l:=z) (i:=(wi (Y-1))) (v:=ad) (off:=0) lr zA9 rfl rfl k rfl rfl (by decide)) ?_;refine xn [14] ?_;refine q38 S24 Z ?_;refine xn [15] ?_;refine q77 zA9 G ?_;refine xn [16] ?_;refine q38 S24 aa ?_;refine xn [17] ?_;refine q77 zA9 H ?_;exact ae;refine Q7 ?_;refine Q62 ?_;exact ew T;exact zD (ex T);refine Q12 ?_;exact ew p1;exact zD (ex p1);cases h;exact⟨rfl,⟨rfl,trivial⟩⟩
theorem zE4 {H:DV} {T:(List Range)} {a1:Int} {a2:Int} {Y:Int} {Z:Range→Range→Option (Int)} (aa:∀x0 x1 y,Z x0 x1=some y→FnC Tryz.prog H [(eRange.dv x0),(eRange.dv x1)] [(di y)]) {r:(List Range)} (h:xA T a1 a2 Y Z=some r):GC Tryz.prog 199 [.row 3000,.d (di a1),.d (di a2),.d (di Y),.d H] [(3000,.row 184 eRange.size false (eRange.all T))] [3000] [] [(3000,.row 184 eRange.size false (eRange.all r))]:=by
 refine zC6 Tryz.func199 (by kernel_rfl) rfl lr lr fun w0 I0 ac p0=>?_;unfold xA at h;refine Q3 ?_;refine Q15 ?_;have ⟨y1,k,h⟩:=bE h;refine tl .ret ⟨[(0,.row 3000)],[(3000,.row 184 eRange.size false (eRange.all y1))]⟩ ?_ ?_;refine zB (fun x=>⟨[(0,.row 3000),(1,.d (di a1)),(2,.d (di a2)),(3,.d (di Y)),(4,.d H),(10,.d (db true)),(11,.d (db true))],[(3000,.row 184 eRange.size false (eRange.all T))]⟩) k wc ?_
 rintro _ ab O
 replace O:kH a2 a1 T Z Y=some ab:=O;unfold kH at O;have ⟨y2,z,O⟩:=bE O;refine tl .ret ⟨[(0,.row 3000)],[(3000,.row 184 eRange.size false (eRange.all y2))]⟩ ?_ ?_;refine z4<|Q14 ?_;refine Q62 ?_;refine Q4 ?_;refine q81 ?_;refine zG ?_;refine zV z (fun z=>?_) (fun z=>?_);refine z5G ?_;have ⟨_,k,z⟩:=bE z;refine z2 rfl (zDU [(3000,3000)] (zDD aa k) lr (by decide) ⟨rfl,rfl,rfl,rfl,trivial⟩ rfl rfl ⟨rfl,trivial⟩ rfl rfl rfl rfl) ?_;refine zG<|zQ ?_;exact eo z;refine z2A ?_;refine Q84 ?_;refine zV z (fun z=>?_) (fun z=>?_);refine z5G ?_;cases z;refine z2A ?_;refine Q40 ?_;have ⟨_,G,z⟩:=bE z;refine tl .normal ⟨[(0,.row 3000),(1,.d (di a1)),(2,.d (di a2)),(3,.d (di Y)),(4,.d H),(10,.d (db true)),(11,.d (db true)),(12,.d (di (wi (a2-a1))))],[(3000,.row 184 eRange.size false (eRange.all T))]⟩ ?_ ?_;refine zV G (fun G=>?_) (fun G=>?_);refine z5G ?_;cases G;refine zI ?_;exact eo G;refine z5G ?_;cases z;exact ex O;cases h;exact⟨rfl,⟨rfl,trivial⟩⟩
theorem zDY {z:DV} {H:(List Range)} {a1:Range→Range→Option (Int)} (G:∀x0 x1 y,a1 x0 x1=some y→FnC Tryz.prog z [(eRange.dv x0),(eRange.dv x1)] [(di y)]) {r:(List Range)} (h:kX H a1=some r):GC Tryz.prog 184 [.row 3000,.d z] [(3000,.row 184 eRange.size false (eRange.all H))] [3000] [] [(3000,.row 184 eRange.size false (eRange.all r))]:=by refine zC6 Tryz.func184 (by kernel_rfl) rfl lr lr fun w0 T O Y=>?_;unfold kX at h;refine Q37 ?_;refine z41 S24 ?_;refine Q1 ?_;refine Q67 ?_;refine q49 Tryz.underlying3 Tryz.underlying94 ?_;have ⟨_,k,h⟩:=bE h;refine q4 (zR3 k) ?_;refine q0 ?_;have ⟨_,k,h⟩:=bE h;refine z2 rfl (zDU [(3000,3000)] (zE4 G k) lr (by decide) ⟨rfl,rfl,rfl,rfl,rfl,trivial⟩ rfl rfl ⟨rfl,trivial⟩ rfl rfl rfl rfl) ?_;refine zG ?_;cases h;exact⟨rfl,⟨rfl,trivial⟩⟩
theorem zT7 {z a1 r} (h:zA5 z a1=some r):zE Tryz.prog 185 [(eRange.dv z),(eRange.dv a1)] [(di r)]:=by refine co Tryz.func185 ?_;intro _ _ _ _;unfold zA5 at h;refine Q0 ?_;refine kE (zOY (size:=2) lr rfl rfl) ?_;refine kE (zOY (size:=2) lr rfl rfl) ?_;refine Q79 ?_;refine zX MX rfl ?_;refine q22 zJN ?_;refine q34 O3 ?_;refine q22 zJN ?_;refine q34 O3 ?_;have ⟨_,k,h⟩:=bE h;refine q25 (wG k) ?_;refine q22 zFD ?_;refine q34 O3 ?_;refine q22 zFD ?_;refine q34 O3 ?_;have ⟨_,k,h⟩:=bE h;refine q25 (wG k) ?_;refine z9R z3 ?_;have ⟨_,k,h⟩:=bE h;refine q25 (zO9 k) ?_;refine Q50 ?_;exact er h
theorem zY5 {a0 r} (h:zID a0=some r):zE Tryz.prog 160 [(zN eRange a0)] [(eSet.dv r)]:=by
 refine co Tryz.func160 ?_;intro _ _ _ _;unfold zID at h;refine Q0 ?_;refine q95 ?_;refine zG<|Q3 ?_;refine zL (jN (t:=3) 1003 184 eRange.size lr lr rfl rfl) ?_;refine Q4 ?_;refine q6 S24 ?_;refine Q29 ?_;have ⟨y1,k,h⟩:=bE h;refine tl (.exit 0) ⟨[(2,.ptr 2 0),(3,.row 1003)],[(2,.box 26 [.d (.v (.slice none 0 0))]),(1003,.row 184 eRange.size false (eRange.all y1))]⟩ ?_ ?_;refine zB (fun x=>⟨[(2,.ptr 2 0),(3,.row 1003),(11,.d (zN eRange a0)),(12,.d (di (a0.length:Int))),(13,.d (di x.1))],[(2,.box 26 [.d (.v (.slice none 0 0))]),(1003,.row 184 eRange.size false (eRange.all x.2))]⟩) k wc ?_
 rintro⟨ai,Y⟩ al p1
 replace p1:zBF a0 ai Y=some al:=p1;unfold zBF at p1;refine Q22 ?_;refine zV p1 (fun p1=>?_) (fun p1=>?_);refine Q5 ?_;have ⟨y2,H,p1⟩:=bE p1;refine tl .normal ⟨[(2,.ptr 2 0),(3,.row 1003),(11,.d (zN eRange a0)),(12,.d (di (a0.length:Int))),(13,.d (di ai))],[(2,.box 26 [.d (.v (.slice none 0 0))]),(1003,.row 184 eRange.size false (eRange.all y2))]⟩ ?_ ?_;refine z4<|Q0 ?_;have ⟨ah,k,H⟩:=bE H;refine q12 S24 k ?_;refine kE (vI (en:=eRange) (l:=a0) (i:=ai) (v:=ah) (off:=0) lr zA9 rfl k rfl rfl (by decide)) ?_;refine z40 ?_;refine q16 zA9 ?_;refine zG ?_;refine zL (z0 (t:=5) lr rfl rfl rfl) ?_;refine Q0 ?_;refine q9 zJN ?_;refine q10 O3 ?_;refine yHY ?_;refine q9 zFD ?_;refine q10 O3 ?_;refine yC5 ?_;refine q72 z1U ?_;refine z40 ?_;refine q16 zA9 ?_;refine zG ?_;refine zL (z0 (t:=6) lr rfl rfl rfl) ?_;refine Q0 ?_;refine q9 zJN ?_;refine q10 O3 ?_;refine q9 zFD ?_;refine q10 O3 ?_;refine q81 ?_;refine zG ?_;refine zV H (fun H=>?_) (fun H=>?_);refine Q57 ?_;refine q32 zA9 ?_;refine q19 S24 ?_;have ⟨_,k,H⟩:=bE H;refine z2 rfl (z6 (en:=eRange) (l:=Y) (m:=[({Lo:=max ah.Lo 0,Hi:=min ah.Hi 1114111}:Range)]) lr S24 rfl rfl rfl k (by decide) (by decide) rfl rfl) ?_;refine Q10 ?_;exact eo H;refine zI ?_;exact eo H;refine Q24 ?_;exact ew p1;exact zD (ex p1);refine Q37 ?_;have ⟨T,ak,h⟩:=bE h;refine z2 rfl (zBE [(3000,1003)] (zDY (fun _ _ _ q=> .inr ⟨_,rfl,zT7 q⟩) ak) lr (by decide) ⟨rfl,rfl,trivial⟩ rfl rfl ⟨rfl,trivial⟩ rfl rfl rfl (fun _=>rfl) rfl) ?_;refine zG<|Q3 ?_;refine zL (jN (t:=7) 1007 184 eRange.size lr lr rfl rfl) ?_;refine Q18 ?_;refine q5 ?_;refine z41 S24 ?_;refine Q29 ?_;have ⟨y4,k,h⟩:=bE h;refine tl (.exit 2) ⟨[(2,.ptr 2 0),(7,.row 1007)],[(2,.box 26 [.d (.v (.slice none 0 0))]),(1007,.row 184 eRange.size false (eRange.all y4))]⟩ ?_ ?_;refine zB (fun x=>⟨[(2,.ptr 2 0),(7,.row 1007),(36,.row 1003),(37,.d (di (T.length:Int))),(38,.d (di x.1))],[(2,.box 26 [.d (.v (.slice none 0 0))]),(1003,.row 184 eRange.size false (eRange.all T)),(1007,.row 184 eRange.size false (eRange.all x.2))]⟩) k wc ?_
 rintro⟨aj,z⟩ am p4
 replace p4:zBG T aj z=some am:=p4;unfold zBG at p4;refine Q22 ?_;refine zV p4 (fun p4=>?_) (fun p4=>?_);refine Q5 ?_;have ⟨y5,G,p4⟩:=bE p4;refine tl .normal ⟨[(2,.ptr 2 0),(7,.row 1007),(36,.row 1003),(37,.d (di (T.length:Int))),(38,.d (di aj))],[(2,.box 26 [.d (.v (.slice none 0 0))]),(1003,.row 184 eRange.size false (eRange.all T)),(1007,.row 184 eRange.size false (eRange.all y5))]⟩ ?_ ?_;refine z4<|Q0 ?_;have ⟨Z,k,G⟩:=bE G;refine q63 S24 k ?_;refine kE (wQ (en:=eRange) (l:=T) (i:=aj) (v:=Z) (off:=0) lr zA9 rfl rfl k rfl rfl (by decide)) ?_;refine z40 ?_;refine q16 zA9 ?_;refine zG ?_;refine zL (z0 (t:=9) lr rfl rfl rfl) ?_;refine Q18 ?_;refine q5 ?_;refine z41 S24 ?_;refine Q79 ?_;refine zX MX rfl ?_;refine q8 ?_;refine z4Z ?_;have ⟨_,k,G⟩:=bE G;refine q55 k ?_;refine q97 (.ip (eRange.cells Z) (0+0)) zJN ?_;refine q98 (.d (di Z.Lo)) O3 ?_;refine yDD (.row 1007) ?_;refine q53 (.d (di (z.length:Int))) ?_;refine z9W (.d (di (wi ((z.length:Int)-1)))) ?_;have ⟨ac,ag,G⟩:=bE G;refine dat (.ptr 1007 ((wi ((z.length:Int)-1)).toNat*eRange.size)) rfl (fun hb=>by subst hb;exact zD5 (en:=eRange) (l:=z) lr S24 rfl rfl rfl ag) ?_
 refine dat (.ptr 1007 ((wi ((z.length:Int)-1)).toNat*eRange.size+1)) rfl (fun hb=>by subst hb;exact zEM lr zFD rfl) ?_
 refine dat (.d (di ac.Hi)) rfl (fun hb=>by subst hb;exact xQ (en:=eRange) (l:=z) (i:=(wi ((z.length:Int)-1))) (v:=ac) (off:=1) lr O3 rfl rfl ag rfl) ?_
 refine dat (.d (di (wi (ac.Hi+1)))) rfl (fun hb=>by subst hb;exact zTM lr rfl rfl) ?_
 refine dat (.d (db (decide (Z.Lo≤(wi (ac.Hi+1)))))) rfl (fun hb=>by subst hb;exact zJV lr rfl rfl) ?_
 refine Q90 ?_;refine zV G (fun G=>?_) (fun G=>?_);refine z8 ?_;refine zDG 14 MX rfl ?_;refine Q93 ?_;refine q89 ?_;refine Q93 ?_;refine q89 ?_;have ⟨an,k,G⟩:=bE G;refine daa (zD5 (en:=eRange) (l:=z) lr S24 rfl rfl rfl k) ?_;refine z12 zFD ?_;refine daa (xQ (en:=eRange) (l:=z) (i:=(wi ((z.length:Int)-1))) (v:=an) (off:=1) lr O3 rfl rfl k rfl) ?_;refine q22 zFD ?_;refine q34 O3 ?_;refine daa (z58 lr rfl rfl) ?_;have ⟨ao,k,G⟩:=bE G;refine daa (zD5 (en:=eRange) (l:=z) lr S24 rfl rfl rfl k) ?_;refine z12 zFD ?_;refine xG ?_;have ⟨_,O,G⟩:=bE G;refine z2 rfl (wA (en:=eRange) (l:=z) (i:=(wi ((z.length:Int)-1))) (v:=ao) (off:=1) O3 rfl rfl rfl k rfl (by decide) O rfl rfl) ?_;refine zG<|zD ?_;exact eo G;refine zI<|Q57 ?_;refine q32 zA9 ?_;refine q19 S24 ?_;have ⟨_,k,G⟩:=bE G;refine z2 rfl (z6 (en:=eRange) (l:=z) (m:=[Z]) lr S24 rfl rfl rfl k (by decide) (by decide) rfl rfl) ?_;refine Q10 ?_;exact eo G;refine Q24 ?_;exact ew p4;exact zD (ex p4);refine Q37 ?_;refine zGH (zBD (t:=77) lr rfl rfl) ?_ (by simp);refine q72 B26 ?_;refine q16 G26 ?_;refine zG ?_;cases h;refine zQ ?_;exact xU rfl rfl G26 rfl
theorem zVN {O r} (h:zGW O=some r):zE Tryz.prog 114 [(eSet.dv O)] [(db r)]:=by
 refine co Tryz.func114 ?_;intro _ _ _ _;unfold zGW at h;refine Q91 ?_;refine Q48 ?_;refine yOH ?_;have ⟨Z,k,h⟩:=bE h;refine q4 (zY5 k) ?_;refine q95 ?_;refine q16 G26 ?_;refine zG ?_;refine zL (z0 (t:=3) lr rfl rfl rfl) ?_;refine Q18 ?_;refine z2D ?_;refine z2D ?_;refine Q32 ?_;refine zV h (fun h=>?_) (fun h=>?_);refine Q3 ?_;exact er h;refine Q76 ?_;refine z2D ?_;refine Q29 ?_;have ⟨H,k,h⟩:=bE h;refine zO H (.exit 0) (fun H=>⟨[],[]⟩) .ret (fun H=>⟨[(2,.d (db H))],[]⟩) ?_ ?_ ?_;refine zB (fun x=>⟨[(1,.d (.pt (eSet.cells O))),(17,.d (zN eRange Z.Ranges)),(18,.d (di (Z.Ranges.length:Int))),(19,.d (di x))],[]⟩) k wc ?_
 rintro G aa z
 replace z:zBU Z O G=some aa:=z;unfold zBU at z;refine Q22 ?_;refine zV z (fun z=>?_) (fun z=>?_);refine Q8 ?_;refine Q2 ?_;have ⟨T,k,z⟩:=bE z;refine q12 S24 k ?_;refine kE (vI (en:=eRange) (l:=Z.Ranges) (i:=G) (v:=T) (off:=0) lr zA9 rfl k rfl rfl (by decide)) ?_;refine z40 ?_;refine q1 ?_;refine q16 zA9 ?_;refine zG ?_;refine zL (z0 (t:=5) lr rfl rfl rfl) ?_;refine z8 ?_;refine zX MX rfl ?_;refine q58 zA9 ?_;refine q22 zI8 ?_;refine q34 O24 ?_;refine q8 ?_;have ⟨Y,k,z⟩:=bE z;refine q28 S24 k ?_;refine daa (vI (en:=eRange) (l:=O.Ranges) (i:=G) (v:=Y) (off:=0) lr zA9 rfl k rfl rfl (by decide)) ?_;refine daa (zYJ (en:=eRange) (a:=T) (b:=Y) lr yOA rfl rfl) ?_;refine xG ?_;refine zV z (fun z=>?_) (fun z=>?_);refine Q20 ?_;cases z;intro q;cases q;exact⟨rfl,wc⟩;refine Q54 ?_;exact ew z;refine zD ?_;cases z;intro q;cases q;exact⟨rfl,wc⟩
 rintro H rfl
 replace h:=eL h;refine Q3 ?_;exact er h
 rintro H rfl
 replace h:=eR h;exact es h
theorem zJP {z r} (h:zDK z=some r):zE Tryz.prog 136 [(di z)] [(di r)]:=by refine co Tryz.func136 ?_;intro _ _ _ _;unfold zDK at h;refine Q3 ?_;refine Q49 ?_;refine Q2 ?_;refine q43 ?_;have ⟨_,k,h⟩:=bE h;refine q7 k ?_;refine q14 (.d (di z)) ?_;refine q82 (.d (db (decide (z<4371)))) ?_;refine Q42 ?_;refine zV h (fun h=>?_) (fun h=>?_);refine Q3 ?_;exact er h;refine Q2 ?_;refine q43 ?_;have ⟨_,k,h⟩:=bE h;refine q7 k ?_;refine q14 (.d (di z)) ?_;refine q82 (.d (db (decide (z<4470)))) ?_;refine Q42 ?_;refine zV h (fun h=>?_) (fun h=>?_);refine Q3 ?_;exact er h;refine Q2 ?_;refine q43 ?_;have ⟨_,k,h⟩:=bE h;refine q7 k ?_;refine q14 (.d (di z)) ?_;refine q82 (.d (db (decide (z<4547)))) ?_;refine Q42 ?_;refine zV h (fun h=>?_) (fun h=>?_);refine Q3 ?_;exact er h;refine Q2 ?_;refine q3 ?_;have ⟨_,k,h⟩:=bE h;refine q7 k ?_;refine q39 (.d (di z)) ?_;refine q96 (.d (db (decide (55204≤z)))) ?_;refine q18 ?_;refine Q1 ?_;refine zV h (fun h=>?_) (fun h=>?_);refine Q3 ?_;exact er h;refine Q2 ?_;refine q21 ?_;have ⟨_,k,h⟩:=bE h;refine q60 k ?_;refine Q74 ?_;refine zV h (fun h=>?_) (fun h=>?_);refine Q3 ?_;exact er h;refine Q53 ?_;exact er h
theorem zJD {z r} (h:zAT z=some r):zE Tryz.prog 141 [(zN eSpan z)] [(zN eSpan r)]:=by refine co Tryz.func141 ?_;intro _ _ _ _;unfold zAT at h;refine Q43 ?_;have ⟨_,k,h⟩:=bE h;refine q4 (zJ5 k) ?_;refine Q32 ?_;refine zV h (fun h=>?_) (fun h=>?_);refine Q3 ?_;refine zL (zH8 (t:=2) eSpan.size lr rfl) ?_;exact er h;refine zI<|Q28 ?_;exact er h
theorem zBA {G:DV} {H:(List Span)} {a1:Int} {a2:Span→Int→Option (Int)} (Y:∀x0 x1 y,a2 x0 x1=some y→FnC Tryz.prog G [(eSpan.dv x0),(di x1)] [(di y)]) {r:Int×Bool} (h:kN H a1 a2=some r):zE Tryz.prog 178 [(zN eSpan H),(di a1),G] [(di r.1),(db r.2)]:=by
 refine co Tryz.func178 ?_;intro _ _ _ _;unfold kN at h;refine Q0 ?_;refine Q71 ?_;refine q6 S22 ?_;refine Q35 ?_;refine Q17 ?_;refine Q49 ?_;have ⟨y1,k,h⟩:=bE h;refine tl (.exit 0) ⟨[(0,.d (zN eSpan H)),(1,.d (di a1)),(2,.d G),(8,.d (di (H.length:Int))),(9,.d (di y1))],[]⟩ ?_ ?_;refine zB (fun x=>⟨[(0,.d (zN eSpan H)),(1,.d (di a1)),(2,.d G),(8,.d (di (H.length:Int))),(9,.d (di x.1)),(10,.d (di x.2))],[]⟩) k wc ?_
 rintro⟨v9,ag⟩ ad O
 replace O:z5 H a2 a1 v9 ag=some ad:=O;unfold z5 at O;refine Q73 ?_;refine zV O (fun O=>?_) (fun O=>?_);refine zI ?_;have ⟨y2,z,O⟩:=bE O;refine tl .normal ⟨[(0,.d (zN eSpan H)),(1,.d (di a1)),(2,.d G),(8,.d (di (H.length:Int))),(9,.d (di y2.1)),(10,.d (di y2.2))],[]⟩ ?_ ?_;refine z4<|z5H ?_;refine Q1 ?_;refine Q72 ?_;have ⟨_,k,z⟩:=bE z;refine q12 S22 k ?_;refine yHV vF k ?_;refine q0 ?_;have ⟨_,k,z⟩:=bE z;refine kE (zGI lr rfl rfl (Y _ _ _ k)) ?_;refine Q6 ?_;refine zV z (fun z=>?_) (fun z=>?_);refine Q12 ?_;exact eo z;refine Q77 ?_;exact eo z;exact ew O;exact zD (ex O);refine Q72 ?_;refine q3 ?_;have ⟨_,k,h⟩:=bE h;refine q7 k ?_;refine q14 (.d G) ?_;refine q14 (.d (zN eSpan H)) ?_;refine q14 (.d (di y1)) ?_;have ⟨aa,T,h⟩:=bE h;refine sqt (.ip (eSpan.all H) (y1.toNat*eSpan.size)) rfl (fun hb=>by subst hb;exact yZ (en:=eSpan) lr S22 rfl rfl T) ?_
 refine sqt (.d (eSpan.dv aa)) rfl (fun hb=>by subst hb;exact vI (en:=eSpan) (l:=H) (i:=y1) (v:=aa) (off:=0) lr vF rfl T rfl rfl (by decide)) ?_
 refine q14 (.d (di a1)) ?_;have ⟨ab,Z,h⟩:=bE h;refine sqt (.d (di ab)) rfl (fun hb=>by subst hb;exact zGI lr rfl rfl (Y _ _ _ Z)) ?_
 refine q75 (.d (db (decide (ab=0)))) ?_;refine q15 ?_;refine Q17 ?_;cases h;refine zQ ?_;exact zCF rfl rfl
theorem zN6 {k a1 r} (h:u5 k a1=some r):zE Tryz.prog 179 [(eSpan.dv k),(di a1)] [(di r)]:=by refine co Tryz.func179 ?_;intro _ _ _ _;unfold u5 at h;refine Q46 ?_;refine Q1 ?_;refine Q49 ?_;refine Q0 ?_;refine q9 zF9 ?_;refine q10 O3 ?_;refine q0 ?_;refine q3 ?_;refine Q1 ?_;refine zV h (fun h=>?_) (fun h=>?_);refine Q3 ?_;exact er h;refine Q0 ?_;refine q9 zF8 ?_;refine q10 O3 ?_;refine q0 ?_;refine q41 ?_;refine Q1 ?_;refine zV h (fun h=>?_) (fun h=>?_);refine Q3 ?_;exact er h;refine Q53 ?_;exact er h
theorem zGB {z a1 r} (h:kT z a1=some r):zE Tryz.prog 145 [(zN eSpan z),(di a1)] [(di r)]:=by refine co Tryz.func145 ?_;intro _ _ _ _;unfold kT at h;refine z19 ?_;have ⟨G,k,h⟩:=bE h;refine q4 (zBA (fun _ _ _ q=> .inr ⟨_,rfl,zN6 q⟩) k) ?_;refine Q92 ?_;refine Q4 ?_;refine Q40 ?_;refine zV h (fun h=>?_) (fun h=>?_);refine Q3 ?_;exact er h;refine zI<|Q14 ?_;have ⟨H,k,h⟩:=bE h;refine q12 S22 k ?_;refine q48 zHH ?_;refine kE (zT (en:=eSpan) (l:=z) (i:=G.1) (v:=H) (off:=2) lr O3 rfl k rfl) ?_;refine Q1 ?_;exact er h
theorem zJE {items:List Range} {a1:(List Int)} {a2:(List Span)} {r:Unit} (h:zAU items a1 a2=some r):zTG Tryz.prog 176 [(.pt [(zN eI a1)]),(.pt [(zN eSpan a2)])] (items.map fun x=>[eRange.dv x]):=by
 refine z6B Tryz.func176 (by kernel_rfl) rfl lr lr fun w0 I0 J hc hg hG l0 hE=>?_;unfold zAU at h;refine Q3 ?_;refine Q18 ?_;refine q65 O37 ?_;refine Q80 ?_;have ⟨T,al,h⟩:=bE h;refine zO T (.exit 0) (fun T=>⟨[(0,.d (.v (.func (.yield l0) #[] #[]))),(1,.d (.pt [(zN eI a1)])),(4,.d (di T.1)),(1000000,.gh T.2)],[]⟩) .ret (fun T=>⟨[(1000000,.gh T)],[]⟩) ?_ ?_ ?_;refine zB (fun x=>⟨[(0,.d (.v (.func (.yield l0) #[] #[]))),(1,.d (.pt [(zN eI a1)])),(2,.d (.pt [(zN eSpan a2)])),(4,.d (di x.1)),(8,.d (zN eI a1)),(9,.d (di (a1.length:Int))),(10,.d (di x.2.1)),(1000000,.gh x.2.2)],[]⟩) al wc ?_
 rintro⟨v4,ab,H⟩ am O
 replace O:kJ a1 a2 items v4 ab H=some am:=O;unfold kJ at O;refine Q22 ?_;refine zV O (fun O=>?_) (fun O=>?_);refine Q5 ?_;have ⟨Z,G,O⟩:=bE O;refine zO Z .normal (fun Z=>⟨[(0,.d (.v (.func (.yield l0) #[] #[]))),(1,.d (.pt [(zN eI a1)])),(2,.d (.pt [(zN eSpan a2)])),(4,.d (di Z.1)),(8,.d (zN eI a1)),(9,.d (di (a1.length:Int))),(10,.d (di ab)),(1000000,.gh Z.2)],[]⟩) .ret (fun Z=>⟨[(1000000,.gh Z)],[]⟩) ?_ ?_ ?_;refine Q66 ?_;have ⟨_,Y,G⟩:=bE G;refine q12 z3 Y ?_;refine q27 O3 Y ?_;refine Q17 ?_;refine Q0 ?_;refine q65 O22 ?_;refine q0 ?_;have ⟨_,ag,G⟩:=bE G;refine q4 (zGB ag) ?_;refine Q74 ?_;have ⟨y3,z,G⟩:=bE G;refine zO y3 .normal (fun y3=>⟨[(0,.d (.v (.func (.yield l0) #[] #[]))),(1,.d (.pt [(zN eI a1)])),(2,.d (.pt [(zN eSpan a2)])),(4,.d (di y3.1)),(8,.d (zN eI a1)),(9,.d (di (a1.length:Int))),(10,.d (di ab)),(1000000,.gh y3.2)],[]⟩) .ret (fun y3=>⟨[(1000000,.gh y3)],[]⟩) ?_ ?_ ?_;refine Q66 ?_;refine q36 ?_;have ⟨_,ac,z⟩:=bE z;refine q7 ac ?_;refine q14 (.d (di v4)) ?_;refine q82 (.d (db (decide (v4<0)))) ?_;refine Q42 ?_;refine zV z (fun z=>?_) (fun z=>?_);refine Q77 ?_;exact ep z;refine Q2 ?_;have ⟨_,ad,z⟩:=bE z;refine q7 ad ?_;refine q14 (.d (di v4)) ?_;refine sqt (.d (db (decide (0≤v4)))) rfl (fun hb=>by subst hb;exact zLY lr rfl rfl) ?_
 refine Q42 ?_;refine zV z (fun z=>?_) (fun z=>?_);refine Q13 ?_;refine q0 ?_;refine q72 z1U ?_;have ⟨_,ah,z⟩:=bE z;refine z2 rfl (zYB (k:=H) lr hE rfl rfl rfl (z4M _ ah)) ?_;refine Q40 ?_;refine zV z (fun z=>?_) (fun z=>?_);refine zQ ?_;exact ep z;refine zI<|kZ<|Q1 ?_;exact ep z;refine zI ?_;exact ep z
 rintro y3 rfl
 replace G:=eL G;exact ep G
 rintro y3 rfl
 replace G:=eR G;exact ep G
 rintro Z rfl
 replace O:=eL O;refine Q24 ?_;exact ew O
 rintro Z rfl
 replace O:=eR O;cases O;intro q;cases q;exact⟨rfl,wc⟩;refine zD ?_;cases O;intro q;cases q;exact⟨rfl,wc⟩
 rintro T rfl
 replace h:=eL h;refine Q2 ?_;refine Q99 ?_;refine zV h (fun h=>?_) (fun h=>?_);refine Q68 ?_;refine q65 O37 ?_;refine q6 z3 ?_;refine q72 z1U ?_;have ⟨_,ai,h⟩:=bE h;refine z2 rfl (zYB (k:=T.2) lr hE rfl rfl rfl (z4M _ ai)) ?_;refine zG ?_;exact⟨rfl,zMC _ h⟩;refine zI ?_;exact⟨rfl,zMC _ h⟩
 rintro T rfl
 replace h:=eR h;exact⟨rfl,zMC _ h⟩
theorem zLD {h:List Span} {a1:List Int}:zE Tryz.prog 142 [(zN eSpan h),(zN eI a1)] [.fn 176 [.pt [zN eI a1],.pt [zN eSpan h]]]:=by refine co Tryz.func142 ?_;intro _ _ _ _;refine Q91 ?_;refine q66 ?_;refine Q48 ?_;refine yHO ?_;refine Q1 ?_;refine zQ ?_;exact zTR rfl
theorem z2H {f:FuncId} {z:List DV} {r:List Range} (O:zTG Tryz.prog f z (r.map fun x=>[eRange.dv x])) (hr:r.length≤LIM):zE Tryz.prog 194 [.v (.slice none 0 0),.fn f z] [zN eRange r]:=by
 refine co Tryz.func194 ?_;intro _ _ _ _;refine Q0 ?_;refine z2 rfl (z6A lr rfl rfl rfl) ?_;refine Q1 ?_;refine zL (zCE (bid:=2) (off:=0) 100 184 eRange.size lr (by decide) rfl rfl rfl) ?_;refine Q96 ?_;refine z4 ?_;refine zWO [(2,.ptr 2 0),(4,.d (.v (.slice none 0 0)))] [2] (fun k=>[(2,.box 24 [.row 100]),(100,.row 184 eRange.size false (eRange.all (r.take k)))]) rfl O rfl (fun _ _ _ _ h=>h) ?hk ?hT rfl (fun _=>rfl) ?hbx (fun _ _=>rfl) ?hl ?hpn ?rd ?hK
 case hk=>exact⟨rfl,rfl,trivial⟩
 case hT=>exact⟨rfl,rfl,trivial⟩
 case hbx=>intro k id hi;simp at hi;subst hi;exact fun (h:Blk.box _ _=Blk.none)=>by cases h
 case hl=>intro x H;obtain⟨y,_,rfl⟩:=List.mem_map.1 H;rfl
 case hpn=>intro p Y;simp at Y;subst Y;exact lr
 case rd=>
  intro w1 Iall X C0 ag T l1 D ac ad ab k x H;rw[List.getElem?_map] at H;obtain⟨v,Z,rfl⟩:=Option.map_eq_some_iff.1 H;have aa:=(List.getElem?_eq_some_iff.1 Z).1;have G:app (r.take k) [v]=some (r.take (k+1)):=by
   unfold app;rw[if_pos (by simp;omega),List.take_add_one,Z]
   rfl
  refine kZ<|z40 ?_;refine q16 zA9 ?_;refine z5A ?_;refine kZ<|q23 O24 ?_;refine kE ((jD lr zA9 rfl rfl rfl rfl).data rfl) ?_;refine q19 S24 ?_;refine z2 rfl (z6 (en:=eRange) (l:=r.take k) (m:=[v]) lr S24 rfl rfl rfl G (by decide) (by decide) rfl rfl) ?_;refine q70 O24 ?_;refine zG ?_;exact⟨rfl,rfl,trivial⟩
 case hK=>
  rw[List.length_map,List.take_length];refine Q0 ?_;refine q23 O24 ?_;refine Q10 ?_;refine zQ ?_;exact zTR rfl
theorem yAD {f:FuncId} {h:List DV} {r:List Range} (k:zTG Tryz.prog f h (r.map fun x=>[eRange.dv x])) (z:r.length≤LIM):zE Tryz.prog 171 [.fn f h] [zN eRange r]:=by refine co Tryz.func171 ?_;intro _ _ _ _;refine Q56 ?_;refine q4 (z2H k z) ?_;refine Q1 ?_;refine zQ ?_;exact zTR rfl
theorem zR4 {H:List Span} {a1:List Int} {r:List Range} (h:zED H a1=some r):zE Tryz.prog 137 [(zN eSpan H),(zN eI a1)] [zN eRange r]:=by
 unfold zED at h;have ⟨T,z,O⟩:=bE h;clear h;have ⟨Y,G,h⟩:=bE O;clear O;unfold yLS at h;split at h
 case isFalse=>cases h
 rename_i k;cases h;refine co Tryz.func137 ?_;intro _ _ _ _;refine Q56 ?_;refine q4 (zJD z) ?_;refine q0 ?_;refine q4 zLD ?_;refine q4 (yAD (zJE G) k) ?_;refine Q1 ?_;refine zQ ?_;exact zTR rfl
theorem zT8 {O r} (h:zHR O=some r):zE Tryz.prog 195 [(di O)] [(eA3Int.dv r)]:=by refine co Tryz.func195 ?_;intro _ _ _ _;unfold zHR at h;refine Q0 ?_;refine z9X ?_;refine zG<|Q4 ?_;have ⟨_,k,h⟩:=bE h;refine q4 (zJP k) ?_;refine Q6 ?_;refine zV h (fun h=>?_) (fun h=>?_);refine Q0 ?_;refine q83 zQN ?_;refine q16 z1V ?_;refine zG ?_;cases h;refine zQ ?_;exact xU rfl rfl z1V rfl;refine z49 ?_;refine q21 ?_;refine Q35 ?_;have ⟨_,k,h⟩:=bE h;refine q91 k ?_;have ⟨G,k,h⟩:=bE h;refine q91 k ?_;refine z2B ?_;have ⟨_,k,h⟩:=bE h;refine q91 k ?_;have ⟨H,k,h⟩:=bE h;refine q60 k ?_;refine q2 ?_;refine q83 zQN ?_;refine z9X ?_;refine q16 z1V ?_;refine zG<|Q4 ?_;have ⟨_,k,h⟩:=bE h;refine q60 k ?_;refine Q52 ?_;have ⟨T,z,h⟩:=bE h;refine tl .normal ⟨[(2,.ptr 2 0),(4,.ptr 4 0)],[(2,.box 173 [.d (di 0),.d (di 0),.d (di 0)]),(4,.box 173 [.d (di (({x0:=wi (4352+G),x1:=wi (4449+H),x2:=0}:A3Int).x0)),.d (di (({x0:=wi (4352+G),x1:=wi (4449+H),x2:=0}:A3Int).x1)),.d (di T)])]⟩ ?_ ?_;refine zV z (fun z=>?_) (fun z=>?_);refine Q7 ?_;have ⟨_,k,z⟩:=bE z;refine q60 k ?_;refine q2 ?_;refine q21 ?_;refine q68 zQN ?_;refine Q86 ?_;exact eo z;refine zI ?_;exact eo z;refine Q0 ?_;refine kE ((jD lr z1V rfl rfl rfl rfl).data rfl) ?_;refine q16 z1V ?_;refine zG ?_;cases h;refine zQ ?_;exact xU rfl rfl z1V rfl
theorem zN7 {z r} (h:zBV z=some r):zE Tryz.prog 173 [(di z)] [(zN eI r)]:=by refine co Tryz.func173 ?_;intro _ _ _ _;unfold zBV at h;refine Q56 ?_;have ⟨G,k,h⟩:=bE h;refine q4 (zT8 k) ?_;refine z9X ?_;refine q16 z1V ?_;refine zG ?_;refine zL (z0 (t:=3) lr rfl rfl rfl) ?_;refine Q49 ?_;refine Q0 ?_;refine q32 z1V ?_;refine q83 zQN ?_;refine kE (yGU (en:=eA3Int) (a:=G) (b:=({x0:=0,x1:=0,x2:=0}:A3Int)) lr yPZ rfl rfl) ?_;refine Q1 ?_;refine zV h (fun h=>?_) (fun h=>?_);refine Q2 ?_;refine q19 z3 ?_;refine Q1 ?_;exact er h;refine Q0 ?_;refine z9Y zQN ?_;refine q10 O3 ?_;refine Q74 ?_;refine zV h (fun h=>?_) (fun h=>?_);refine Q0 ?_;refine z9Y zQN ?_;refine q10 O3 ?_;refine z9Y zQN ?_;refine q10 O3 ?_;refine q19 z3 ?_;refine Q1 ?_;exact er h;refine Q55 ?_;refine z9Y zQN ?_;refine q10 O3 ?_;refine z9Y zQN ?_;refine q10 O3 ?_;refine z9Y zQN ?_;refine q10 O3 ?_;refine q19 z3 ?_;refine Q1 ?_;exact er h
theorem uO {G:DV} {H:(List Mapping)} {a1:Int} {a2:Mapping→Int→Option (Int)} (Y:∀x0 x1 y,a2 x0 x1=some y→FnC Tryz.prog G [(eMapping.dv x0),(di x1)] [(di y)]) {r:Int×Bool} (h:yF H a1 a2=some r):zE Tryz.prog 174 [(zN eMapping H),(di a1),G] [(di r.1),(db r.2)]:=by
 refine co Tryz.func174 ?_;intro _ _ _ _;unfold yF at h;refine Q0 ?_;refine Q71 ?_;refine q6 S23 ?_;refine Q35 ?_;refine Q17 ?_;refine Q49 ?_;have ⟨y1,k,h⟩:=bE h;refine tl (.exit 0) ⟨[(0,.d (zN eMapping H)),(1,.d (di a1)),(2,.d G),(8,.d (di (H.length:Int))),(9,.d (di y1))],[]⟩ ?_ ?_;refine zB (fun x=>⟨[(0,.d (zN eMapping H)),(1,.d (di a1)),(2,.d G),(8,.d (di (H.length:Int))),(9,.d (di x.1)),(10,.d (di x.2))],[]⟩) k wc ?_
 rintro⟨v9,ag⟩ ad O
 replace O:zY H a2 a1 v9 ag=some ad:=O;unfold zY at O;refine Q73 ?_;refine zV O (fun O=>?_) (fun O=>?_);refine zI ?_;have ⟨y2,z,O⟩:=bE O;refine tl .normal ⟨[(0,.d (zN eMapping H)),(1,.d (di a1)),(2,.d G),(8,.d (di (H.length:Int))),(9,.d (di y2.1)),(10,.d (di y2.2))],[]⟩ ?_ ?_;refine z4<|z5H ?_;refine Q1 ?_;refine Q72 ?_;have ⟨_,k,z⟩:=bE z;refine q12 S23 k ?_;refine q93 G72 k ?_;refine q0 ?_;have ⟨_,k,z⟩:=bE z;refine kE (zGI lr rfl rfl (Y _ _ _ k)) ?_;refine Q6 ?_;refine zV z (fun z=>?_) (fun z=>?_);refine Q12 ?_;exact eo z;refine Q77 ?_;exact eo z;exact ew O;exact zD (ex O);refine Q72 ?_;refine q3 ?_;have ⟨_,k,h⟩:=bE h;refine q7 k ?_;refine q14 (.d G) ?_;refine q14 (.d (zN eMapping H)) ?_;refine q14 (.d (di y1)) ?_;have ⟨aa,T,h⟩:=bE h;refine sqt (.ip (eMapping.all H) (y1.toNat*eMapping.size)) rfl (fun hb=>by subst hb;exact yZ (en:=eMapping) lr S23 rfl rfl T) ?_
 refine sqt (.d (eMapping.dv aa)) rfl (fun hb=>by subst hb;exact vI (en:=eMapping) (l:=H) (i:=y1) (v:=aa) (off:=0) lr G72 rfl T rfl rfl (by decide)) ?_
 refine q14 (.d (di a1)) ?_;have ⟨ab,Z,h⟩:=bE h;refine sqt (.d (di ab)) rfl (fun hb=>by subst hb;exact zGI lr rfl rfl (Y _ _ _ Z)) ?_
 refine q75 (.d (db (decide (ab=0)))) ?_;refine q15 ?_;refine Q17 ?_;cases h;refine zQ ?_;exact zCF rfl rfl
theorem zN8 {z a1 r} (h:wV z a1=some r):zE Tryz.prog 175 [(eMapping.dv z),(di a1)] [(di r)]:=by refine co Tryz.func175 ?_;intro _ _ _ _;unfold wV at h;refine Q46 ?_;refine Q48 ?_;refine zY3 ?_;refine q0 ?_;have ⟨_,k,h⟩:=bE h;refine q4 (wG k) ?_;refine Q1 ?_;exact er h
theorem zJ6 {T a1 a2 r} (h:vO T a1 a2=some r):zE Tryz.prog 140 [(eNorm.dv T),(di a1),(db a2)] [(zN eI r.1),(db r.2)]:=by
 refine co Tryz.func140 ?_;intro _ _ _ _;unfold vO at h;refine Q46 ?_;refine Q17 ?_;refine Q4 ?_;have ⟨_,k,h⟩:=bE h;refine q4 (zJP k) ?_;refine Q99 ?_;refine zV h (fun h=>?_) (fun h=>?_);refine Q2 ?_;have ⟨_,k,h⟩:=bE h;refine q4 (zN7 k) ?_;refine Q17 ?_;cases h;refine zQ ?_;exact zCF rfl rfl;refine Q55 ?_;refine Q85 ?_;refine q0 ?_;have ⟨G,k,h⟩:=bE h;refine q4 (uO (fun _ _ _ q=> .inr ⟨_,rfl,zN8 q⟩) k) ?_;refine Q92 ?_;refine Q4 ?_;refine q36 ?_;have ⟨_,k,h⟩:=bE h;refine q7 k ?_;refine q29 (.ip (eNorm.cells T) (0+1)) zRI ?_;refine q30 (.d (zN eMapping T.Decomp)) O23 ?_;refine q39 (.d (di G.1)) ?_;have ⟨H,O,h⟩:=bE h;refine sqf (.ip (eMapping.all T.Decomp) (G.1.toNat*eMapping.size)) rfl (fun hb=>by subst hb;exact yZ (en:=eMapping) lr S23 rfl rfl O) ?_
 refine yC3 (.ip (eMapping.all T.Decomp) (G.1.toNat*eMapping.size+2)) zEZ ?_;refine sqf (.d (ds H.Tag)) rfl (fun hb=>by subst hb;exact zT (en:=eMapping) (l:=T.Decomp) (i:=G.1) (v:=H) (off:=2) lr O9 rfl O rfl) ?_
 refine sqf (.d (db (!(H.Tag== [])))) rfl (fun hb=>by subst hb;exact z4A (a:=H.Tag) (b:=[]) lr rfl rfl) ?_
 have ⟨z,Z,h⟩:=bE h;refine sqf (.d (db z)) rfl (fun hb=>by subst hb;exact(zS lr rfl).bool (oi Z)) ?_
 refine jM (x:= .d (db a2)) rfl rfl rfl lr lr rfl (fun hb=>by obtain⟨hb,Y⟩:=zM hb;obtain rfl:=gF hb;obtain rfl:z=true:=Y;exact zS lr rfl) ?_
 refine jM (x:= .d (db (!a2))) rfl rfl rfl lr lr rfl (fun hb=>by obtain⟨hb,Y⟩:=zM hb;obtain rfl:=gF hb;obtain rfl:z=true:=Y;exact zWE lr rfl) ?_
 refine q86 (.d (db (z&&(!a2)))) ?_;refine Q39 ?_;refine zV h (fun h=>?_) (fun h=>?_);refine z18 ?_;refine zL (zH8 (t:=6) eI.size lr rfl) ?_;cases h;refine zQ ?_;exact zCF rfl rfl;refine Q55 ?_;refine Q85 ?_;refine q0 ?_;have ⟨_,k,h⟩:=bE h;refine q12 S23 k ?_;refine q48 zG7 ?_;refine q88 O37 k ?_;refine Q17 ?_;cases h;refine zQ ?_;exact zCF rfl rfl
theorem zLM:∀(n:Nat) {T:Int} {a1:Norm} {a2:(List (Int×Int))} {a3:Bool} {a5:Bool} {r:Int×Bool×Bool×(List (Int×Int))},z9 n T a1 a2 a3 a5=some r→GC Tryz.prog 172 [.d (di T),.d (.pt (eNorm.cells a1)),.ptr 3002 0,.ptr 3003 0,.ptr 3004 0,.ptr 3005 0] [(3002,.box 209 [.row 3140]),(3003,.box 4 [.d (db a3)]),(3004,.box 86 [.clo 172 [.d (.pt (eNorm.cells a1)),.ptr 3002 0,.ptr 3003 0,.ptr 3004 0,.ptr 3005 0]]),(3005,.box 4 [.d (db a5)]),(3140,.map (vV kI eI a2))] [3002,3003,3004,3005,3140] [.d (di r.1)] [(3002,.box 209 [.row 3140]),(3003,.box 4 [.d (db r.2.1)]),(3004,.box 86 [.clo 172 [.d (.pt (eNorm.cells a1)),.ptr 3002 0,.ptr 3003 0,.ptr 3004 0,.ptr 3005 0]]),(3005,.box 4 [.d (db r.2.2.1)]),(3140,.map (vV kI eI r.2.2.2))]:=by
 intro n
 induction n with
 | zero=>intro T a1 a2 a3 a5 r h;cases h
 | succ n ih=>
 intro T a1 a2 a3 a5 r h;replace h:k5 (z9 n) T a1 a2 a3 a5=some r:=h;generalize z9 n=ag at h ih;refine zC6 Tryz.func172 (by kernel_rfl) rfl lr lr fun w0 I0 al p0=>?_;unfold k5 at h;refine Q3 ?_;refine Q0 ?_;refine q32 G28 ?_;refine q0 ?_;have ⟨z,ad,h⟩:=bE h;refine q4 (zJ6 ad) ?_;refine Q92 ?_;refine Q4 ?_;refine q36 ?_;have ⟨_,ac,h⟩:=bE h;refine q7 ac ?_;refine q39 (.d (zN eI z.1)) ?_;refine q80 (.d (di (z.1.length:Int))) z3 ?_;refine z9U (.d (db (decide ((z.1.length:Int)=0)))) ?_;refine Q39 ?_;refine zV h (fun h=>?_) (fun h=>?_);refine Q3 ?_;cases h;refine zQ ?_;exact⟨⟨_,_,rfl,rfl,rfl⟩,⟨rfl,rfl,rfl,rfl,rfl,trivial⟩⟩;refine Q76 ?_;refine q23 yHC ?_;refine q0 ?_;refine kE (zWW (kv:=kI) (ev:=eI) (mp:=a2) (k:=T) (zero:=0) lr yLU K3 rfl rfl rfl (fun _ _=> .v _)) ?_;refine Q61 ?_;refine Q71 ?_;refine zG ?_;refine zV h (fun h=>?_) (fun h=>?_);refine Q0 ?_;refine q23 O4 ?_;have ⟨_,k,h⟩:=bE h;refine q7 k ?_;refine q39 (.d (di (zAN a2 T 0))) ?_;refine z9U (.d (db (decide ((zAN a2 T 0)=(-1))))) ?_;refine q18 ?_;refine q56 O4 ?_;refine zG<|Q2 ?_;refine yHY ?_;refine Q1 ?_;cases h;refine zQ ?_;exact⟨⟨_,_,rfl,rfl,rfl⟩,⟨rfl,rfl,rfl,rfl,rfl,trivial⟩⟩;refine Q55 ?_;refine q23 yHC ?_;refine q0 ?_;refine yHS yLU K3 ?_;refine zG<|Q43 ?_;refine Q80 ?_;have ⟨Z,k,h⟩:=bE h;refine tl (.exit 0) ⟨[(0,.d (di T)),(2,.ptr 3002 0),(3,.ptr 3003 0),(4,.ptr 3004 0),(5,.ptr 3005 0),(12,.d (di Z.1))],[(3002,.box 209 [.row 3140]),(3003,.box 4 [.d (db Z.2.1)]),(3004,.box 86 [.clo 172 [.d (.pt (eNorm.cells a1)),.ptr 3002 0,.ptr 3003 0,.ptr 3004 0,.ptr 3005 0]]),(3005,.box 4 [.d (db Z.2.2.1)]),(3140,.map (vV kI eI Z.2.2.2))]⟩ ?_ ?_;refine zB (fun x=>⟨[(0,.d (di T)),(2,.ptr 3002 0),(3,.ptr 3003 0),(4,.ptr 3004 0),(5,.ptr 3005 0),(12,.d (di x.1)),(44,.d (zN eI z.1)),(45,.d (di (z.1.length:Int))),(46,.d (di x.2.1))],[(3002,.box 209 [.row 3140]),(3003,.box 4 [.d (db x.2.2.1)]),(3004,.box 86 [.clo 172 [.d (.pt (eNorm.cells a1)),.ptr 3002 0,.ptr 3003 0,.ptr 3004 0,.ptr 3005 0]]),(3005,.box 4 [.d (db x.2.2.2.1)]),(3140,.map (vV kI eI x.2.2.2.2))]⟩) k wc ?_
 rintro⟨ai,aj,H,O,Y⟩ ah G
 replace G:jA z ag a1 ai aj H O Y=some ah:=G;unfold jA at G;refine Q22 ?_;refine zV G (fun G=>?_) (fun G=>?_);refine Q30 ?_;have ⟨_,k,G⟩:=bE G;refine q12 z3 k ?_;refine q27 O3 k ?_;refine Q1 ?_;refine Q7 ?_;refine q23 O86 ?_;refine q0 ?_;have ⟨_,k,G⟩:=bE G;refine z2 rfl (z1O [(3002,3002),(3003,3003),(3004,3004),(3005,3005),(3140,3140)] (ih k) lr (by decide) rfl ⟨rfl,rfl,rfl,rfl,rfl,rfl,trivial⟩ rfl rfl ⟨rfl,rfl,rfl,rfl,rfl,trivial⟩ rfl rfl rfl rfl) ?_;refine q2 ?_;refine yC5 ?_;refine Q1 ?_;refine Q24 ?_;exact ew G;exact zD (ex G);refine Q0 ?_;refine q23 yHC ?_;refine Q41 ?_;refine yHS yLU K3 ?_;refine Q58 ?_;refine q23 O4 ?_;have ⟨_,k,h⟩:=bE h;refine q7 k ?_;refine q39 (.d (di Z.1)) ?_;refine q42 (.d (db (decide (64<Z.1)))) ?_;refine q18 ?_;refine q56 O4 ?_;refine zG<|Q28 ?_;cases h;refine zQ ?_;exact⟨⟨_,_,rfl,rfl,rfl⟩,⟨rfl,rfl,rfl,rfl,rfl,trivial⟩⟩
set_option maxHeartbeats 8000000 in
theorem zNE {G r} (h:decompose_measure G=some r):zE Tryz.prog 138 [(eNorm.dv G)] [(db r.1),(db r.2)]:=by
 refine co Tryz.func138 ?_;intro _ _ _ _;unfold decompose_measure at h;refine Q46 ?_;refine z2 rfl (yE (zs:=[(.bool false)]) lr (by kernel_rfl) rfl rfl) ?_;refine z2 rfl (yE (zs:=[(.bool false)]) lr (by kernel_rfl) rfl rfl) ?_;refine Q58 ?_;refine yC6 ?_;refine z2 rfl (yE (zs:=[(.map none)]) lr (by kernel_rfl) rfl rfl) ?_;refine q70 yHC ?_;refine Q58 ?_;refine z2 rfl (yE (zs:=[.nilFunc]) lr (by kernel_rfl) rfl rfl) ?_;refine Q58 ?_;refine kE (zQM (cs:=[.d (.pt (eNorm.cells G)),.ptr 4 0,.ptr 2 0,.ptr 5 0,.ptr 3 0]) lr ⟨_,_,rfl,rfl,⟨_,_,rfl,rfl,⟨_,_,rfl,rfl,⟨_,_,rfl,rfl,⟨_,_,rfl,rfl,rfl⟩⟩⟩⟩⟩) ?_;refine z2 rfl (zMB O86 rfl rfl lr rfl rfl rfl rfl) ?_;refine z2C ?_;refine Q85 ?_;refine z5E ?_;have ⟨T,k,h⟩:=bE h;refine tl (.exit 0) ⟨[(2,.ptr 2 0),(3,.ptr 3 0)],[(2,.box 4 [.d (db T.1)]),(3,.box 4 [.d (db T.2)])]⟩ ?_ ?_;refine zB (fun x=>⟨[(2,.ptr 2 0),(3,.ptr 3 0),(5,.ptr 5 0),(11,.d (zN eMapping G.Decomp)),(12,.d (di (G.Decomp.length:Int))),(13,.d (di x.1))],[(2,.box 4 [.d (db x.2.1)]),(3,.box 4 [.d (db x.2.2.1)]),(4,.box 209 [.row 8]),(5,.box 86 [.clo 172 [.d (.pt (eNorm.cells G)),.ptr 4 0,.ptr 2 0,.ptr 5 0,.ptr 3 0]]),(8,.map (vV kI eI x.2.2.2))]⟩) k wc ?_
 rintro⟨Z,H,O,r8⟩ Y z
 replace z:kL G Z H O r8=some Y:=z;unfold kL at z;refine Q22 ?_;refine zV z (fun z=>?_) (fun z=>?_);refine Q30 ?_;have ⟨_,k,z⟩:=bE z;refine q12 S23 k ?_;refine q93 G72 k ?_;refine z5F ?_;refine zL (z0 (t:=7) lr rfl rfl rfl) ?_;refine kZ<|q23 O86 ?_;refine zY3 ?_;have ⟨_,k,z⟩:=bE z;refine z2 rfl (zYP [(3002,4),(3003,2),(3004,5),(3005,3),(3140,8)] (zLM _ k) lr (by decide) rfl ⟨rfl,rfl,rfl,rfl,rfl,rfl,trivial⟩ rfl rfl ⟨rfl,rfl,rfl,rfl,rfl,trivial⟩ rfl rfl rfl (fun _=>rfl) rfl) ?_;refine zG<|Q24 ?_;exact ew z;exact zD (ex z);refine z8 ?_;refine tl .normal ⟨[(2,.ptr 2 0),(3,.ptr 3 0)],[(2,.box 4 [.d (db T.1)]),(3,.box 4 [.d (db T.2)])]⟩ ?_ ?_;refine zGJ MX ?_;refine xn [0,1] ?_;refine xa rfl (zCD lr O4 rfl rfl rfl) ?_ ?_;refine xn [1,2] ?_;refine xa rfl (zCD lr O4 rfl rfl rfl) ?_ ?_;refine xn [2] ?_;refine z9Z O4 ?_;refine xn [3] ?_;refine z9Z O4 ?_;exact ae;refine z9Z O4 ?_;refine xn [1] ?_;refine xc rfl (zCD lr O4 rfl rfl rfl) ?_;refine xn [3] ?_;refine z9Z O4 ?_;exact ae;refine xc rfl (zCD lr O4 rfl rfl rfl) ?_;refine xn [0] ?_;refine xc rfl (zCD lr O4 rfl rfl rfl) ?_;refine xn [2] ?_;refine z9Z O4 ?_;refine xn [3] ?_;refine z9Z O4 ?_;exact ae;cases h;refine zQ ?_;exact z4L rfl rfl O4 rfl rfl O4
theorem zJF {H r} (h:zAV H=some r):zE Tryz.prog 96 [(eNorm.dv H)] [(di r)]:=by
 refine co Tryz.func96 ?_;intro _ _ _ _;unfold zAV at h;refine Q46 ?_;refine Q63 ?_;refine q9 zAL ?_;refine q10 O22 ?_;have ⟨_,k,h⟩:=bE h;refine q4 (zJ5 k) ?_;refine Q78 ?_;refine zV h (fun h=>?_) (fun h=>?_);refine Q28 ?_;exact er h;refine Q76 ?_;refine Q85 ?_;have ⟨_,k,h⟩:=bE h;refine q4 (zR2 k) ?_;refine Q78 ?_;refine zV h (fun h=>?_) (fun h=>?_);refine Q28 ?_;exact er h;refine Q76 ?_;refine q9 yCS ?_;refine z4W G26 ?_;have ⟨_,k,h⟩:=bE h;refine q4 (zVN k) ?_;refine Q40 ?_;refine zV h (fun h=>?_) (fun h=>?_);refine Q3 ?_;exact er h;refine z17 ?_;have ⟨y1,k,h⟩:=bE h;refine zO y1 (.exit 0) (fun y1=>⟨[(1,.d (.pt (eNorm.cells H)))],[]⟩) .ret (fun y1=>⟨[(2,.d (di y1))],[]⟩) ?_ ?_ ?_;refine zB (fun x=>⟨[(1,.d (.pt (eNorm.cells H))),(5,.d (di x))],[]⟩) k wc ?_
 rintro v5 ah T
 replace T:wW H v5=some ah:=T;unfold wW at T;refine Q4 ?_;refine Q85 ?_;refine Q51 ?_;refine zV T (fun T=>?_) (fun T=>?_);refine Q75 ?_;refine zX MX rfl ?_;refine q22 zRI ?_;refine q34 O23 ?_;refine q8 ?_;have ⟨_,k,T⟩:=bE T;refine q28 S23 k ?_;refine q50 zJZ ?_;refine yDE O3 k ?_;refine q22 zRI ?_;refine q34 O23 ?_;refine q8 ?_;refine q89 ?_;have ⟨_,k,T⟩:=bE T;refine q28 S23 k ?_;refine q50 zJZ ?_;refine yDE O3 k ?_;refine daa (zI1 lr rfl rfl) ?_;refine xG ?_;refine zV T (fun T=>?_) (fun T=>?_);refine Q20 ?_;cases T;intro q;cases q;exact⟨rfl,wc⟩;refine Q34 ?_;exact ew T;refine zD ?_;cases T;intro q;cases q;exact⟨rfl,wc⟩
 rintro y1 rfl
 replace h:=eL h;refine Q18 ?_;refine Q85 ?_;refine z5E ?_;have ⟨y2,k,h⟩:=bE h;refine zO y2 (.exit 2) (fun y2=>⟨[(1,.d (.pt (eNorm.cells H)))],[]⟩) .ret (fun y2=>⟨[(2,.d (di y2))],[]⟩) ?_ ?_ ?_;refine zB (fun x=>⟨[(1,.d (.pt (eNorm.cells H))),(51,.d (zN eMapping H.Decomp)),(52,.d (di (H.Decomp.length:Int))),(53,.d (di x))],[]⟩) k wc ?_
 rintro al ai O
 replace O:wX H al=some ai:=O;unfold wX at O;refine Q22 ?_;refine zV O (fun O=>?_) (fun O=>?_);refine Q30 ?_;have ⟨G,k,O⟩:=bE O;refine q12 S23 k ?_;refine q93 G72 k ?_;refine z5F ?_;refine zL (z0 (t:=7) lr rfl rfl rfl) ?_;refine Q0 ?_;refine q9 zEZ ?_;refine q10 O9 ?_;refine kE (zL5 (a:=G.Tag) (b:=[]) lr rfl rfl) ?_;have ⟨_,k,O⟩:=bE O;refine q7 k ?_;refine q62 (.ip (eMapping.cells G) (0+1)) zG7 ?_;refine q67 (.d (zN eI G.To)) O37 ?_;refine z9T (.d (di (G.To.length:Int))) z3 ?_;refine yDC (.d (db (!decide ((G.To.length:Int)=1)))) ?_;refine q15 ?_;have ⟨_,k,O⟩:=bE O;refine q7 k ?_;refine q62 (.ip (eMapping.cells G) (0+1)) zG7 ?_;refine q67 (.d (zN eI G.To)) O37 ?_;refine z9T (.d (di (G.To.length:Int))) z3 ?_;refine yDC (.d (db (!decide ((G.To.length:Int)=2)))) ?_;refine Q36 ?_;refine zV O (fun O=>?_) (fun O=>?_);refine Q20 ?_;cases O;intro q;cases q;exact⟨rfl,wc⟩;refine Q54 ?_;exact ew O;refine zD ?_;cases O;intro q;cases q;exact⟨rfl,wc⟩
 rintro y2 rfl
 replace h:=eL h;refine Q3 ?_;refine zL (jN (t:=8) 1008 3 eI.size lr lr rfl rfl) ?_;refine Q18 ?_;refine Q85 ?_;refine z5E ?_;have ⟨y3,k,h⟩:=bE h;refine zO y3 (.exit 4) (fun y3=>⟨[(1,.d (.pt (eNorm.cells H))),(8,.row 1008)],[(1008,.row 3 eI.size false (eI.all y3))]⟩) .ret (fun y3=>⟨[(2,.d (di y3))],[]⟩) ?_ ?_ ?_;refine zB (fun x=>⟨[(1,.d (.pt (eNorm.cells H))),(8,.row 1008),(74,.d (zN eMapping H.Decomp)),(75,.d (di (H.Decomp.length:Int))),(76,.d (di x.1))],[(1008,.row 3 eI.size false (eI.all x.2))]⟩) k wc ?_
 rintro⟨ag,Z⟩ aj Y
 replace Y:yP H ag Z=some aj:=Y;unfold yP at Y;refine Q22 ?_;refine zV Y (fun Y=>?_) (fun Y=>?_);refine Q5 ?_;have ⟨y4,z,Y⟩:=bE Y;refine zO y4 .normal (fun y4=>⟨[(1,.d (.pt (eNorm.cells H))),(8,.row 1008),(74,.d (zN eMapping H.Decomp)),(75,.d (di (H.Decomp.length:Int))),(76,.d (di ag))],[(1008,.row 3 eI.size false (eI.all y4))]⟩) .ret (fun y4=>⟨[(2,.d (di 11))],[]⟩) ?_ ?_ ?_;refine z4<|Q0 ?_;have ⟨ak,k,z⟩:=bE z;refine q12 S23 k ?_;refine q93 G72 k ?_;refine z5F ?_;refine zL (z0 (t:=10) lr rfl rfl rfl) ?_;refine Q18 ?_;refine zY3 ?_;have ⟨_,k,z⟩:=bE z;refine q4 (zJP k) ?_;refine Q32 ?_;refine zV z (fun z=>?_) (fun z=>?_);refine Q20 ?_;exact ep z;refine Q55 ?_;refine q9 zEZ ?_;refine q10 O9 ?_;refine z9V ?_;refine zG ?_;refine zV z (fun z=>?_) (fun z=>?_);refine Q57 ?_;refine zY3 ?_;refine q19 z3 ?_;have ⟨_,k,z⟩:=bE z;refine z2 rfl (z6 (en:=eI) (l:=Z) (m:=[ak.From]) lr z3 rfl rfl rfl k (by decide) (by decide) rfl rfl) ?_;refine Q10 ?_;exact ep z;refine zI ?_;exact ep z
 rintro y4 rfl
 replace Y:=eL Y;refine Q24 ?_;exact ew Y
 rintro y4 rfl
 replace Y:=eR Y;cases Y;intro q;cases q;exact⟨rfl,wc⟩;refine zD ?_;cases Y;intro q;cases q;exact⟨rfl,wc⟩
 rintro y3 rfl
 replace h:=eL h;refine Q18 ?_;refine q9 zAL ?_;refine q10 O22 ?_;refine q5 ?_;have ⟨_,k,h⟩:=bE h;refine z2 rfl (z32 lr rfl rfl (zR4 k)) ?_;refine q6 S24 ?_;refine Q52 ?_;refine zV h (fun h=>?_) (fun h=>?_);refine Q3 ?_;exact er h;refine Q55 ?_;refine q32 G28 ?_;have ⟨_,k,h⟩:=bE h;refine q4 (zNE k) ?_;refine Q92 ?_;refine Q49 ?_;refine Q28 ?_;refine zV h (fun h=>?_) (fun h=>?_);refine Q3 ?_;exact er h;refine Q28 ?_;refine zV h (fun h=>?_) (fun h=>?_);refine Q3 ?_;exact er h;refine Q53 ?_;exact er h
 rintro y3 rfl
 replace h:=eR h;exact es h
 rintro y2 rfl
 replace h:=eR h;exact es h
 rintro y1 rfl
 replace h:=eR h;exact es h
theorem zCK {z} {a1} {r:Colltable_table} (h:vP z a1=some r):GC Tryz.prog 64 [.ptr 3000 0,.d (eNorm.dv a1)] [(3000,.box 131 [.d (zN eEntry z.c.Entries),.d (zN eGroup z.c.Groups),.d (di z.c.Base),.d (di z.c.Second),.d (di z.c.Third),.row 3105,.d (di z.longest),.d (zN eSpan z.classes),.d (di z.top)]),(3105,.map (vV zFU (eL eElement) z.entries))] [3000,3105] [.ptr 3000 0] [(3000,.box 131 [.d (zN eEntry r.c.Entries),.d (zN eGroup r.c.Groups),.d (di r.c.Base),.d (di r.c.Second),.d (di r.c.Third),.row 3105,.d (di r.longest),.d (zN eSpan r.classes),.d (di r.top)]),(3105,.map (vV zFU (eL eElement) r.entries))]:=by
 refine zC6 Tryz.func64 (by kernel_rfl) rfl lr lr fun w0 I0 aa p0=>?_;unfold vP at h;refine Q46 ?_;refine Q63 ?_;refine q32 G28 ?_;have ⟨_,k,h⟩:=bE h;refine q4 (zJF k) ?_;refine Q84 ?_;have ⟨T,G,h⟩:=bE h;refine tl .normal ⟨[(0,.ptr 3000 0)],[(3000,.box 131 [.d (zN eEntry z.c.Entries),.d (zN eGroup z.c.Groups),.d (di z.c.Base),.d (di z.c.Second),.d (di z.c.Third),.row 3105,.d (di z.longest),.d (zN eSpan T),.d (di z.top)]),(3105,.map (vV zFU (eL eElement) z.entries))]⟩ ?_ ?_;refine zV G (fun G=>?_) (fun G=>?_);refine kZ<|yHU ?_;refine q9 zAL ?_;refine q10 O22 ?_;refine kE (zQL lr rfl) ?_;refine q54 zN2 ?_;refine q56 O22 ?_;refine zG ?_;exact eo G;refine zI ?_;exact eo G;refine Q18 ?_;refine yHU ?_;refine kE (zQL lr rfl) ?_;refine q54 zN2 ?_;refine q23 O22 ?_;refine q6 S22 ?_;refine Q29 ?_;have ⟨y2,k,h⟩:=bE h;refine tl (.exit 0) ⟨[(0,.ptr 3000 0)],[(3000,.box 131 [.d (zN eEntry z.c.Entries),.d (zN eGroup z.c.Groups),.d (di z.c.Base),.d (di z.c.Second),.d (di z.c.Third),.row 3105,.d (di z.longest),.d (zN eSpan T),.d (di y2)]),(3105,.map (vV zFU (eL eElement) z.entries))]⟩ ?_ ?_;refine zB (fun x=>⟨[(0,.ptr 3000 0),(18,.d (zN eSpan T)),(19,.d (di (T.length:Int))),(20,.d (di x.1))],[(3000,.box 131 [.d (zN eEntry z.c.Entries),.d (zN eGroup z.c.Groups),.d (di z.c.Base),.d (di z.c.Second),.d (di z.c.Third),.row 3105,.d (di z.longest),.d (zN eSpan T),.d (di x.2)]),(3105,.map (vV zFU (eL eElement) z.entries))]⟩) k wc ?_
 rintro⟨Z,H⟩ Y O
 replace O:jH T Z H=some Y:=O;unfold jH at O;refine Q22 ?_;refine zV O (fun O=>?_) (fun O=>?_);refine Q30 ?_;have ⟨_,k,O⟩:=bE O;refine q12 S22 k ?_;refine yHV vF k ?_;refine z9X ?_;refine q16 vF ?_;refine zG ?_;refine zL (z0 (t:=6) lr rfl rfl rfl) ?_;refine zDG 10 MX rfl ?_;refine yC9 ?_;refine yC9 ?_;refine yDA ?_;refine z12 z4Q ?_;refine z4Y O3 ?_;refine q22 zHH ?_;refine q34 O3 ?_;refine daa (z58 lr rfl rfl) ?_;refine yDA ?_;refine z12 z4Q ?_;refine xG<|Q86 ?_;refine Q24 ?_;exact ew O;exact zD (ex O);refine Q0 ?_;refine yHU ?_;refine kE (zDS lr rfl) ?_;refine zG ?_;cases h;refine zQ ?_;exact⟨⟨_,_,rfl,rfl,rfl⟩,⟨rfl,rfl,trivial⟩⟩
theorem zN9 {z r} (h:u6 z=some r):zE Tryz.prog 97 [(eNorm.dv z)] [(eNorm.dv r)]:=by refine co Tryz.func97 ?_;intro _ _ _ _;unfold u6 at h;refine Q46 ?_;refine z2 rfl (yE (zs:=[(.slice none 0 0),(.slice none 0 0),(.slice none 0 0)]) lr (by kernel_rfl) rfl rfl) ?_;refine z2C ?_;refine q32 G28 ?_;have ⟨_,k,h⟩:=bE h;refine q4 (zJF k) ?_;refine Q32 ?_;refine zV h (fun h=>?_) (fun h=>?_);refine Q0 ?_;refine kE ((zHN lr B28 rfl rfl).nils (bs:=eNorm.cells ({Classes:=[],Decomp:=[],Excluded:=(({Ranges:=[]}):Set)}:Norm)) (nlN (nlN (nlN nl0)))) ?_;refine q16 G28 ?_;refine zG ?_;cases h;refine zQ ?_;exact xU rfl rfl G28 rfl;refine Q55 ?_;refine q32 G28 ?_;refine q16 G28 ?_;refine zG ?_;cases h;refine zQ ?_;exact xU rfl rfl G28 rfl
theorem zKW:∀(n:Nat) {O:Int} {a1:(List (Int×(List Int)))} {a2:Norm} {H:Bool} {r:(List Int)×(List (Int×(List Int)))},kA n O a1 a2 H=some r→GC Tryz.prog 139 [.d (di O),.ptr 3001 0,.d (.pt (eNorm.cells a2)),.d (.pt [(db H)]),.ptr 3004 0] [(3001,.box 73 [.row 3120]),(3004,.box 138 [.clo 139 [.ptr 3001 0,.d (.pt (eNorm.cells a2)),.d (.pt [(db H)]),.ptr 3004 0]]),(3120,.map (vV kI (eL eI) a1))] [3001,3004,3120] [.d (zN eI r.1)] [(3001,.box 73 [.row 3120]),(3004,.box 138 [.clo 139 [.ptr 3001 0,.d (.pt (eNorm.cells a2)),.d (.pt [(db H)]),.ptr 3004 0]]),(3120,.map (vV kI (eL eI) r.2))]:=by
 intro n
 induction n with
 | zero=>intro O a1 a2 H r h;cases h
 | succ n ih=>
 intro O a1 a2 H r h;replace h:wD (kA n) O a1 a2 H=some r:=h;generalize kA n=Z at h ih;refine zC6 Tryz.func139 (by kernel_rfl) rfl lr lr fun w0 I0 ah p0=>?_;unfold wD at h;refine Q3 ?_;refine Q18 ?_;refine q23 O73 ?_;refine q0 ?_;refine kE (zWW (kv:=kI) (ev:=(eL eI)) (mp:=a1) (k:=O) (zero:=[]) lr M73 K3 rfl rfl rfl (fun _ _=> .nil _ _ _)) ?_;refine Q61 ?_;refine Q71 ?_;refine zG ?_;refine zV h (fun h=>?_) (fun h=>?_);refine Q28 ?_;cases h;refine zQ ?_;exact⟨⟨_,_,rfl,rfl,rfl⟩,⟨rfl,rfl,rfl,trivial⟩⟩;refine Q55 ?_;refine q32 G28 ?_;refine q0 ?_;refine q65 O4 ?_;have ⟨Y,k,h⟩:=bE h;refine q4 (zJ6 k) ?_;refine Q92 ?_;refine Q4 ?_;refine Q40 ?_;refine zV h (fun h=>?_) (fun h=>?_);refine Q2 ?_;refine q19 z3 ?_;refine Q1 ?_;cases h;refine zQ ?_;exact⟨⟨_,_,rfl,rfl,rfl⟩,⟨rfl,rfl,rfl,trivial⟩⟩;refine Q53 ?_;refine zL (jN (t:=11) 1011 3 eI.size lr lr rfl rfl) ?_;refine Q4 ?_;refine Q80 ?_;have ⟨y1,k,h⟩:=bE h;refine tl (.exit 0) ⟨[(0,.d (di O)),(1,.ptr 3001 0),(4,.ptr 3004 0),(11,.row 1011)],[(1011,.row 3 eI.size false (eI.all y1.1)),(3001,.box 73 [.row 3120]),(3004,.box 138 [.clo 139 [.ptr 3001 0,.d (.pt (eNorm.cells a2)),.d (.pt [(db H)]),.ptr 3004 0]]),(3120,.map (vV kI (eL eI) y1.2))]⟩ ?_ ?_;refine zB (fun x=>⟨[(0,.d (di O)),(1,.ptr 3001 0),(4,.ptr 3004 0),(11,.row 1011),(33,.d (zN eI Y.1)),(34,.d (di (Y.1.length:Int))),(35,.d (di x.1))],[(1011,.row 3 eI.size false (eI.all x.2.1)),(3001,.box 73 [.row 3120]),(3004,.box 138 [.clo 139 [.ptr 3001 0,.d (.pt (eNorm.cells a2)),.d (.pt [(db H)]),.ptr 3004 0]]),(3120,.map (vV kI (eL eI) x.2.2))]⟩) k wc ?_
 rintro⟨ac,G,T⟩ aa z
 replace z:k6 Y Z a2 H ac G T=some aa:=z;unfold k6 at z;refine Q22 ?_;refine zV z (fun z=>?_) (fun z=>?_);refine Q30 ?_;have ⟨_,k,z⟩:=bE z;refine q12 z3 k ?_;refine q27 O3 k ?_;refine Q1 ?_;refine Q57 ?_;refine q23 yLV ?_;refine q0 ?_;have ⟨ab,k,z⟩:=bE z;refine z2 rfl (z1O [(3001,3001),(3004,3004),(3120,3120)] (ih k) lr (by decide) rfl ⟨rfl,rfl,rfl,rfl,rfl,trivial⟩ rfl rfl ⟨rfl,rfl,rfl,trivial⟩ rfl rfl rfl rfl) ?_;have ⟨_,k,z⟩:=bE z;refine z2 rfl (z6 (en:=eI) (l:=G) (m:=ab.1) lr z3 rfl rfl rfl k (by decide) (by decide) rfl rfl) ?_;refine Q10 ?_;refine Q24 ?_;exact ew z;exact zD (ex z);refine Q0 ?_;refine q23 O73 ?_;refine q0 ?_;refine q5 ?_;refine zGH (zBD (t:=47) lr rfl rfl) ?_ (by simp);refine yHS M73 K3 ?_;refine zG<|Q47 ?_;refine zL (zBD (t:=6) lr rfl rfl) ?_;cases h;refine zQ ?_;exact⟨⟨_,_,rfl,rfl,rfl⟩,⟨rfl,rfl,rfl,trivial⟩⟩
theorem zMI {k} {a1} {r:Unit} (h:zCI k a1=some r):GCA Tryz.prog 98 [.d (eNorm.dv k),.d (db a1)] [] [] (.clo 139 [.ptr 5 0,.d (.pt (eNorm.cells k)),.d (.pt [(db a1)]),.ptr 6 0]) [(5,.box 73 [.row 7]),(6,.box 138 [.clo 139 [.ptr 5 0,.d (.pt (eNorm.cells k)),.d (.pt [(db a1)]),.ptr 6 0]]),(7,.map (vV kI (eL eI) []))]:=by refine yB3 Tryz.func98 (by kernel_rfl) rfl lr lr rfl fun w0 G z H=>?_;unfold zCI at h;refine Q46 ?_;refine q66 ?_;refine Q48 ?_;refine yC6 ?_;refine z2 rfl (yE (zs:=[(.map none)]) lr (by kernel_rfl) rfl rfl) ?_;refine q70 O73 ?_;refine Q58 ?_;refine z2 rfl (yE (zs:=[.nilFunc]) lr (by kernel_rfl) rfl rfl) ?_;refine Q58 ?_;refine kE (zQM (cs:=[.ptr 5 0,.d (.pt (eNorm.cells k)),.d (.pt [(db a1)]),.ptr 6 0]) lr ⟨_,_,rfl,rfl,⟨_,_,rfl,rfl,⟨_,_,rfl,rfl,⟨_,_,rfl,rfl,rfl⟩⟩⟩⟩) ?_;refine z2 rfl (zMB yLV rfl rfl lr rfl rfl rfl rfl) ?_;refine Q58 ?_;refine q23 yLV ?_;refine yHM ?_;refine zG ?_;cases h;refine zQ ?_;exact⟨rfl,⟨rfl,rfl,rfl,trivial⟩⟩
theorem zKX {k r:(List Int)} (h:zA6 k=some r):GC Tryz.prog 86 [.d (zN eI k)] [] [] [.row 5] [(5,.row 3 eI.size false (eI.all r))]:=by
 unfold zA6 at h;cases k with
 | nil=>
  refine yCH (by decide) fun B c=>?_;refine zC6 Tryz.func86 (by kernel_rfl) rfl lr lr fun w0 G z H=>?_;refine Q43 ?_;refine kE (z9D lr Tryz.underlying37 rfl) ?_;refine zG ?_;refine zHE rfl ⟨fun c1=>?_,fun c1=>?_⟩;obtain⟨rfl,_⟩:=zO0 h;refine Q3 ?_;refine zL (jN (t:=2) 5 3 eI.size lr lr rfl rfl) ?_;refine zQ ?_;exact⟨⟨_,_,rfl,rfl,rfl⟩,rfl,trivial⟩;refine zI ?_;refine Q0 ?_;refine z42 z3 ?_;refine q0 ?_;refine zGH (zYO (t:=6) eI.size lr rfl) ?_ (by simp);refine z2 rfl (z6 (en:=eI) (l:=[]) (m:=[]) lr z3 rfl rfl rfl h (by decide) (by decide) rfl rfl) ?_;refine Q10 ?_;refine zQ ?_;exact⟨⟨_,_,rfl,rfl,rfl⟩,rfl,trivial⟩
 | cons x l=>
  refine zC6 Tryz.func86 (by kernel_rfl) rfl lr lr fun w0 G z H=>?_;refine Q43 ?_;refine kE (yG0 lr Tryz.underlying37 rfl (yLM (by decide))) ?_;refine zG ?_;refine zHE rfl ⟨fun c1=>(by cases c1),fun c1=>?_⟩;refine Q55 ?_;refine z42 z3 ?_;refine q0 ?_;refine z2 rfl (z6 (en:=eI) (l:=[]) (m:=x::l) lr z3 rfl rfl rfl h (by decide) (by decide) rfl rfl) ?_;refine Q10 ?_;refine zQ ?_;exact⟨⟨_,_,rfl,rfl,rfl⟩,rfl,trivial⟩
theorem zPC {z a1 a2 r} (h:wK z a1 a2=some r):zE Tryz.prog 144 [(di z),(di a1),(.pt [(zN eSpan a2)])] [(di r)]:=by refine co Tryz.func144 ?_;intro _ _ _ _;unfold wK at h;refine Q3 ?_;refine z8 ?_;refine zX MX rfl ?_;refine q94 O22 ?_;refine q8 ?_;have ⟨_,k,h⟩:=bE h;refine q25 (zGB k) ?_;refine q94 O22 ?_;refine q8 ?_;have ⟨_,k,h⟩:=bE h;refine q25 (zGB k) ?_;have ⟨_,k,h⟩:=bE h;refine q25 (wG k) ?_;refine Q50 ?_;exact er h
set_option maxHeartbeats 8000000 in
theorem zAP {ab:DV} {a0:(List Int)} {a1:Int} {a2:Int} {a3:Int→Int→Option (Int)} (ao:∀x0 x1 y,a3 x0 x1=some y→FnC Tryz.prog ab [(di x0),(di x1)] [(di y)]) {r:(List Int)} (h:kD a0 a1 a2 a3=some r):GC Tryz.prog 196 [.row 3000,.d (di a1),.d (di a2),.d ab] [(3000,.win 3 eI.size 0 (eI.all a0))] [3000] [] [(3000,.win 3 eI.size 0 (eI.all r))]:=by
 refine zC6 Tryz.func196 (by kernel_rfl) rfl lr lr fun w0 I0 au p0=>?_;unfold kD at h;refine Q2 ?_;refine Q9 ?_;refine z4 ?_;have ⟨y1,k,h⟩:=bE h;refine tl (.exit 0) ⟨[(0,.row 3000)],[(3000,.win 3 eI.size 0 (eI.all y1))]⟩ ?_ ?_;refine zB (fun x=>⟨[(0,.row 3000),(1,.d (di a1)),(2,.d (di a2)),(3,.d ab),(8,.d (di x.1))],[(3000,.win 3 eI.size 0 (eI.all x.2))]⟩) k wc ?_
 rintro⟨v8,T⟩ ap p1
 replace p1:zU a2 a1 a3 v8 T=some ap:=p1;unfold zU at p1;refine Q73 ?_;refine zV p1 (fun p1=>?_) (fun p1=>?_);refine Q8 ?_;refine Q28 ?_;refine z4 ?_;have ⟨y2,k,p1⟩:=bE p1;refine tl (.exit 2) ⟨[(0,.row 3000),(1,.d (di a1)),(2,.d (di a2)),(3,.d ab),(8,.d (di v8))],[(3000,.win 3 eI.size 0 (eI.all y2))]⟩ ?_ ?_;refine zB (fun x=>⟨[(0,.row 3000),(1,.d (di a1)),(2,.d (di a2)),(3,.d ab),(8,.d (di v8)),(9,.d (di x.1))],[(3000,.win 3 eI.size 0 (eI.all x.2))]⟩) k wc ?_
 rintro⟨v9,T⟩ aq Z
 replace Z:zZ a1 a3 v9 T=some aq:=Z;unfold zZ at Z;refine z8<|z8 ?_;refine zX MX rfl ?_;refine Q33 ?_;refine z4Z ?_;have ⟨_,k,Z⟩:=bE Z;refine q55 k ?_;refine q53 (.d ab) ?_;refine yDD (.row 3000) ?_;refine q53 (.d (di v9)) ?_;have ⟨aj,ag,Z⟩:=bE Z;refine dat (.wp 3000 (v9.toNat*eI.size)) rfl (fun hb=>by subst hb;exact zGT (en:=eI) (l:=T) lr z3 rfl rfl rfl ag) ?_
 refine dat (.d (di aj)) rfl (fun hb=>by subst hb;exact zKQ (en:=eI) (l:=T) (i:=v9) (v:=aj) lr O3 rfl rfl ag rfl) ?_
 refine yDD (.row 3000) ?_;refine q53 (.d (di v9)) ?_;refine z9W (.d (di (wi (v9-1)))) ?_;have ⟨ak,ah,Z⟩:=bE Z;refine dat (.wp 3000 ((wi (v9-1)).toNat*eI.size)) rfl (fun hb=>by subst hb;exact zGT (en:=eI) (l:=T) lr z3 rfl rfl rfl ah) ?_
 refine dat (.d (di ak)) rfl (fun hb=>by subst hb;exact zKQ (en:=eI) (l:=T) (i:=(wi (v9-1))) (v:=ak) lr O3 rfl rfl ah rfl) ?_
 have ⟨al,ai,Z⟩:=bE Z;refine dat (.d (di al)) rfl (fun hb=>by subst hb;exact zGI lr rfl rfl (ao _ _ _ ai)) ?_
 refine dat (.d (db (decide (al<0)))) rfl (fun hb=>by subst hb;exact zLX lr rfl rfl) ?_
 refine Q90 ?_;refine zV Z (fun Z=>?_) (fun Z=>?_);refine Q8 ?_;have ⟨_,k,Z⟩:=bE Z;have ⟨_,Y,Z⟩:=bE Z;have ⟨_,H,Z⟩:=bE Z;have ⟨_,z,Z⟩:=bE Z;have ⟨_,O,Z⟩:=bE Z;have ⟨aa,G,Z⟩:=bE Z;refine tl .normal ⟨[(0,.row 3000),(1,.d (di a1)),(2,.d (di a2)),(3,.d ab),(8,.d (di v8)),(9,.d (di v9))],[(3000,.win 3 eI.size 0 (eI.all aa))]⟩ ?_ ?_;refine zGJ MX ?_;refine z5D ?_;refine xm 2 ?_;refine xm 3 ?_;refine zKR (i:=4) rfl lr rfl rfl rfl rfl rfl rfl ?_;refine xm 5 ?_;refine xm 6 ?_;refine zKR (i:=7) rfl lr rfl rfl rfl rfl rfl rfl ?_;refine xm 10 ?_;refine xm 11 ?_;refine xn [8,12] ?_;refine z14 z3 k ?_ ?_;refine xn [9,12] ?_;refine q78 O3 k ?_ ?_;refine xn [12] ?_;refine q17 z3 Y ?_;refine xn [13] ?_;refine q35 O3 Y ?_;refine xn [14] ?_;refine q17 z3 H ?_;refine xn [15] ?_;refine q20 O3 H z ?_;refine xn [16] ?_;refine q17 z3 O ?_;refine xn [17] ?_;refine q20 O3 O G ?_;exact ae;refine q17 z3 Y ?_;refine xn [9,13] ?_;refine q78 O3 k ?_ ?_;refine xn [13] ?_;refine q35 O3 Y ?_;refine xn [14] ?_;refine q17 z3 H ?_;refine xn [15] ?_;refine q20 O3 H z ?_;refine xn [16] ?_;refine q17 z3 O ?_;refine xn [17] ?_;refine q20 O3 O G ?_;exact ae;refine q35 O3 Y ?_;refine xn [9] ?_;refine q35 O3 k ?_;refine xn [14] ?_;refine q17 z3 H ?_;refine xn [15] ?_;refine q20 O3 H z ?_;refine xn [16] ?_;refine q17 z3 O ?_;refine xn [17] ?_;refine q20 O3 O G ?_;exact ae;refine q17 z3 Y ?_;refine xn [8,13] ?_;refine z14 z3 k ?_ ?_;refine xn [9,13] ?_;refine q78 O3 k ?_ ?_;refine xn [13] ?_;refine q35 O3 Y ?_;refine xn [14] ?_;refine q17 z3 H ?_;refine xn [15] ?_;refine q20 O3 H z ?_;refine xn [16] ?_;refine q17 z3 O ?_;refine xn [17] ?_;refine q20 O3 O G ?_;exact ae;refine q35 O3 Y ?_;refine xn [9] ?_;refine q35 O3 k ?_;refine xn [14] ?_;refine q17 z3 H ?_;refine xn [15] ?_;refine q20 O3 H z ?_;refine xn [16] ?_;refine q17 z3 O ?_;refine xn [17] ?_;refine q20 O3 O G ?_;exact ae;refine q35 O3 Y ?_;refine xn [8] ?_;refine q17 z3 k ?_;refine xn [9] ?_;refine q35 O3 k ?_;refine xn [14] ?_;refine q17 z3 H ?_;refine xn [15] ?_;refine q20 O3 H z ?_;refine xn [16] ?_;refine q17 z3 O ?_;refine xn [17] ?_;refine q20 O3 O G ?_;exact ae;refine Q7 ?_;refine Q62 ?_;exact ew Z;exact zD (ex Z);refine Q12 ?_;exact ew p1;exact zD (ex p1);cases h;exact⟨rfl,⟨rfl,trivial⟩⟩
set_option maxHeartbeats 8000000 in
theorem vU {ac:DV} {a0:(List Int)} {a1:Int} {a2:Int} {a3:Int} {a4:Int→Int→Option (Int)} (ak:∀x0 x1 y,a4 x0 x1=some y→FnC Tryz.prog ac [(di x0),(di x1)] [(di y)]) {r:(List Int)} (h:kG a0 a1 a2 a3 a4=some r):GC Tryz.prog 216 [.row 3000,.d (di a1),.d (di a2),.d (di a3),.d ac] [(3000,.win 3 eI.size 0 (eI.all a0))] [3000] [] [(3000,.win 3 eI.size 0 (eI.all r))]:=by
 refine zC6 Tryz.func216 (by kernel_rfl) rfl lr lr fun w0 I0 aj p0=>?_;unfold kG at h;refine Q15 ?_;have ⟨y1,k,h⟩:=bE h;refine tl (.exit 0) ⟨[(0,.row 3000)],[(3000,.win 3 eI.size 0 (eI.all y1))]⟩ ?_ ?_;refine zB (fun x=>⟨[(0,.row 3000),(1,.d (di a1)),(2,.d (di a2)),(3,.d (di a3)),(10,.d (di x.1))],[(3000,.win 3 eI.size 0 (eI.all x.2))]⟩) k wc ?_
 rintro⟨ad,aa⟩ ag Y
 replace Y:yQ a3 a2 a1 ad aa=some ag:=Y;unfold yQ at Y;refine Q73 ?_;refine zV Y (fun Y=>?_) (fun Y=>?_);refine Q8 ?_;have ⟨_,k,Y⟩:=bE Y;have ⟨_,T,Y⟩:=bE Y;have ⟨_,H,Y⟩:=bE Y;have ⟨_,z,Y⟩:=bE Y;have ⟨_,O,Y⟩:=bE Y;have ⟨Z,G,Y⟩:=bE Y;refine tl .normal ⟨[(0,.row 3000),(1,.d (di a1)),(2,.d (di a2)),(3,.d (di a3)),(10,.d (di ad))],[(3000,.win 3 eI.size 0 (eI.all Z))]⟩ ?_ ?_;refine zGJ MX ?_;refine z5D ?_;refine xm 2 ?_;refine zM0 (i:=3) rfl lr rfl rfl rfl rfl rfl rfl ?_;refine xm 4 ?_;refine xm 5 ?_;refine xm 6 ?_;refine zM0 (i:=7) rfl lr rfl rfl rfl rfl rfl rfl ?_;refine xm 8 ?_;refine xm 9 ?_;refine xm 10 ?_;refine zM0 (i:=11) rfl lr rfl rfl rfl rfl rfl rfl ?_;refine xm 14 ?_;refine xm 15 ?_;refine xm 16 ?_;refine zM0 (i:=17) rfl lr rfl rfl rfl rfl rfl rfl ?_;refine xn [12,18] ?_;refine z14 z3 k ?_ ?_;refine xn [13,18] ?_;refine q78 O3 k ?_ ?_;refine xn [18] ?_;refine q17 z3 T ?_;refine xn [19] ?_;refine q35 O3 T ?_;refine xn [20] ?_;refine q17 z3 H ?_;refine xn [21] ?_;refine q20 O3 H z ?_;refine xn [22] ?_;refine q17 z3 O ?_;refine xn [23] ?_;refine q20 O3 O G ?_;exact ae;refine q17 z3 T ?_;refine xn [13,19] ?_;refine q78 O3 k ?_ ?_;refine xn [19] ?_;refine q35 O3 T ?_;refine xn [20] ?_;refine q17 z3 H ?_;refine xn [21] ?_;refine q20 O3 H z ?_;refine xn [22] ?_;refine q17 z3 O ?_;refine xn [23] ?_;refine q20 O3 O G ?_;exact ae;refine q35 O3 T ?_;refine xn [13] ?_;refine q35 O3 k ?_;refine xn [20] ?_;refine q17 z3 H ?_;refine xn [21] ?_;refine q20 O3 H z ?_;refine xn [22] ?_;refine q17 z3 O ?_;refine xn [23] ?_;refine q20 O3 O G ?_;exact ae;refine q17 z3 T ?_;refine xn [12,19] ?_;refine z14 z3 k ?_ ?_;refine xn [13,19] ?_;refine q78 O3 k ?_ ?_;refine xn [19] ?_;refine q35 O3 T ?_;refine xn [20] ?_;refine q17 z3 H ?_;refine xn [21] ?_;refine q20 O3 H z ?_;refine xn [22] ?_;refine q17 z3 O ?_;refine xn [23] ?_;refine q20 O3 O G ?_;exact ae;refine q35 O3 T ?_;refine xn [13] ?_;refine q35 O3 k ?_;refine xn [20] ?_;refine q17 z3 H ?_;refine xn [21] ?_;refine q20 O3 H z ?_;refine xn [22] ?_;refine q17 z3 O ?_;refine xn [23] ?_;refine q20 O3 O G ?_;exact ae;refine q35 O3 T ?_;refine xn [12] ?_;refine q17 z3 k ?_;refine xn [13] ?_;refine q35 O3 k ?_;refine xn [20] ?_;refine q17 z3 H ?_;refine xn [21] ?_;refine q20 O3 H z ?_;refine xn [22] ?_;refine q17 z3 O ?_;refine xn [23] ?_;refine q20 O3 O G ?_;exact ae;refine Q12 ?_;exact ew Y;exact zD (ex Y);cases h;exact⟨rfl,⟨rfl,trivial⟩⟩
theorem zIL {G:DV} {a0:(List Int)} {a1:Int} {a2:Int} {a3:Int} {Y:Int→Int→Option (Int)} (O:∀x0 x1 y,Y x0 x1=some y→FnC Tryz.prog G [(di x0),(di x1)] [(di y)]) {r:(List Int)} (h:jU a0 a1 a2 a3 Y=some r):GC Tryz.prog 206 [.row 3000,.d (di a1),.d (di a2),.d (di a3),.d G] [(3000,.win 3 eI.size 0 (eI.all a0))] [3000] [] [(3000,.win 3 eI.size 0 (eI.all r))]:=by
 refine zC6 Tryz.func206 (by kernel_rfl) rfl lr lr fun w0 I0 ai p0=>?_;unfold jU at h;refine Q14 ?_;refine Q62 ?_;refine Q14 ?_;refine Q62 ?_;refine Q49 ?_;have ⟨y1,k,h⟩:=bE h;refine tl (.exit 0) ⟨[(0,.row 3000),(2,.d (di a2)),(4,.d G),(10,.d (di y1.1))],[(3000,.win 3 eI.size 0 (eI.all y1.2))]⟩ ?_ ?_;refine zB (fun x=>⟨[(0,.row 3000),(2,.d (di a2)),(4,.d G),(10,.d (di x.1)),(11,.d (di x.2.1))],[(3000,.win 3 eI.size 0 (eI.all x.2.2))]⟩) k wc ?_
 rintro⟨aa,ab,T⟩ Z H
 replace H:yJ a2 Y aa ab T=some Z:=H;unfold yJ at H;refine Q13 ?_;refine Q32 ?_;refine zV H (fun H=>?_) (fun H=>?_);refine zI ?_;have ⟨y2,z,H⟩:=bE H;refine tl .normal ⟨[(0,.row 3000),(2,.d (di a2)),(4,.d G),(10,.d (di y2.1)),(11,.d (di y2.2.1))],[(3000,.win 3 eI.size 0 (eI.all y2.2.2))]⟩ ?_ ?_;refine z4<|Q14 ?_;refine Q52 ?_;refine zV z (fun z=>?_) (fun z=>?_);refine Q64 ?_;refine q0 ?_;refine q21 ?_;refine Q41 ?_;refine q0 ?_;have ⟨_,k,z⟩:=bE z;refine z2 rfl (zDU [(3000,3000)] (vU O k) lr (by decide) ⟨rfl,rfl,rfl,rfl,rfl,trivial⟩ rfl rfl ⟨rfl,trivial⟩ rfl rfl rfl rfl) ?_;refine zG<|Q68 ?_;refine Q62 ?_;exact eo z;refine Q64 ?_;refine q0 ?_;refine q21 ?_;refine Q41 ?_;refine z2B ?_;refine q21 ?_;refine Q41 ?_;have ⟨_,k,z⟩:=bE z;refine z2 rfl (zDU [(3000,3000)] (vU O k) lr (by decide) ⟨rfl,rfl,rfl,rfl,rfl,trivial⟩ rfl rfl ⟨rfl,trivial⟩ rfl rfl rfl rfl) ?_;refine zG<|Q68 ?_;refine Q62 ?_;exact eo z;exact ew H;exact zD (ex H);refine Q67 ?_;refine q21 ?_;refine Q41 ?_;refine q0 ?_;have ⟨_,k,h⟩:=bE h;refine z2 rfl (zDU [(3000,3000)] (vU O k) lr (by decide) ⟨rfl,rfl,rfl,rfl,rfl,trivial⟩ rfl rfl ⟨rfl,trivial⟩ rfl rfl rfl rfl) ?_;refine zG ?_;cases h;exact⟨rfl,⟨rfl,trivial⟩⟩
set_option maxHeartbeats 8000000 in
theorem zCU:∀(n:Nat) {ad:DV} {a0:(List Int)} {a1:Int} {a2:Int} {a3:Int} {a4:Int→Int→Option (Int)} (ar:∀x0 x1 y,a4 x0 x1=some y→FnC Tryz.prog ad [(di x0),(di x1)] [(di y)]) {r:(List Int)} (h:yX n a0 a1 a2 a3 a4=some r),GC Tryz.prog 197 [.row 3000,.d (di a1),.d (di a2),.d (di a3),.d ad] [(3000,.win 3 eI.size 0 (eI.all a0))] [3000] [] [(3000,.win 3 eI.size 0 (eI.all r))]:=by
 intro n
 induction n with
 | zero=>intro ad a0 a1 a2 a3 a4 ar r h;cases h
 | succ n ih=>
 intro ad a0 a1 a2 a3 a4 ar r h;replace h:yH (yX n) a0 a1 a2 a3 a4=some r:=h;generalize yX n=cb at h ih;refine zC6 Tryz.func197 (by kernel_rfl) rfl lr lr fun w0 I0 ca p0=>?_;unfold yH at h;refine Q13 ?_;refine q21 ?_;refine Q84 ?_;refine zV h (fun h=>?_) (fun h=>?_);refine Q28 ?_;refine Q28 ?_;refine Q49 ?_;have ⟨y1,k,h⟩:=bE h;refine tl (.exit 0) ⟨[(0,.row 3000),(1,.d (di a1)),(10,.d (di y1))],[(3000,.win 3 eI.size 0 (eI.all a0))]⟩ ?_ ?_;refine zB (fun x=>⟨[(0,.row 3000),(1,.d (di a1)),(4,.d ad),(10,.d (di x.1)),(11,.d (di x.2))],[(3000,.win 3 eI.size 0 (eI.all a0))]⟩) k wc ?_
 rintro⟨bm,bn⟩ bh p1
 replace p1:yR a0 a1 a4 bm bn=some bh:=p1;unfold yR at p1;refine Q73 ?_;refine zV p1 (fun p1=>?_) (fun p1=>?_);refine zI ?_;have ⟨y2,aj,p1⟩:=bE p1;refine tl .normal ⟨[(0,.row 3000),(1,.d (di a1)),(4,.d ad),(10,.d (di y2.1)),(11,.d (di y2.2))],[(3000,.win 3 eI.size 0 (eI.all a0))]⟩ ?_ ?_;refine z4<|z5H ?_;refine Q79 ?_;refine zX MX rfl ?_;refine q8 ?_;refine Q93 ?_;have ⟨_,k,aj⟩:=bE aj;refine z90 z3 k ?_;refine z91 O3 k ?_;refine Q93 ?_;have ⟨_,k,aj⟩:=bE aj;refine z90 z3 k ?_;refine z91 O3 k ?_;have ⟨_,k,aj⟩:=bE aj;refine daa (zGI lr rfl rfl (ar _ _ _ k)) ?_;refine z4X ?_;refine xG ?_;refine zV aj (fun aj=>?_) (fun aj=>?_);refine Q12 ?_;exact eo aj;refine Q77 ?_;exact eo aj;exact ew p1;exact zD (ex p1);refine Q4 ?_;refine Q1 ?_;refine z4 ?_;have ⟨y3,k,h⟩:=bE h;refine tl (.exit 2) ⟨[(0,.row 3000)],[(3000,.win 3 eI.size 0 (eI.all y3))]⟩ ?_ ?_;refine zB (fun x=>⟨[(0,.row 3000),(10,.d (di y1)),(13,.d (di x.1))],[(3000,.win 3 eI.size 0 (eI.all x.2))]⟩) k wc ?_
 rintro⟨bc,au⟩ bi p3
 replace p3:yS y1 bc au=some bi:=p3;unfold yS at p3;refine Q13 ?_;refine q21 ?_;refine Q6 ?_;refine zV p3 (fun p3=>?_) (fun p3=>?_);refine Q8 ?_;have ⟨_,k,p3⟩:=bE p3;have ⟨_,ag,p3⟩:=bE p3;have ⟨_,aa,p3⟩:=bE p3;have ⟨_,z,p3⟩:=bE p3;have ⟨_,ab,p3⟩:=bE p3;have ⟨ao,G,p3⟩:=bE p3;refine tl .normal ⟨[(0,.row 3000),(10,.d (di y1)),(13,.d (di bc))],[(3000,.win 3 eI.size 0 (eI.all ao))]⟩ ?_ ?_;refine zGJ MX ?_;refine z5D ?_;refine xm 2 ?_;refine xm 3 ?_;refine zM0 (i:=4) rfl lr rfl rfl rfl rfl rfl rfl ?_;refine xm 5 ?_;refine xm 6 ?_;refine zM0 (i:=7) rfl lr rfl rfl rfl rfl rfl rfl ?_;refine xm 10 ?_;refine xm 11 ?_;refine xn [8,12] ?_;refine z14 z3 k ?_ ?_;refine xn [9,12] ?_;refine q78 O3 k ?_ ?_;refine xn [12] ?_;refine q17 z3 ag ?_;refine xn [13] ?_;refine q35 O3 ag ?_;refine xn [14] ?_;refine q17 z3 aa ?_;refine xn [15] ?_;refine q20 O3 aa z ?_;refine xn [16] ?_;refine q17 z3 ab ?_;refine xn [17] ?_;refine q20 O3 ab G ?_;exact ae;refine q17 z3 ag ?_;refine xn [9,13] ?_;refine q78 O3 k ?_ ?_;refine xn [13] ?_;refine q35 O3 ag ?_;refine xn [14] ?_;refine q17 z3 aa ?_;refine xn [15] ?_;refine q20 O3 aa z ?_;refine xn [16] ?_;refine q17 z3 ab ?_;refine xn [17] ?_;refine q20 O3 ab G ?_;exact ae;refine q35 O3 ag ?_;refine xn [9] ?_;refine q35 O3 k ?_;refine xn [14] ?_;refine q17 z3 aa ?_;refine xn [15] ?_;refine q20 O3 aa z ?_;refine xn [16] ?_;refine q17 z3 ab ?_;refine xn [17] ?_;refine q20 O3 ab G ?_;exact ae;refine q17 z3 ag ?_;refine xn [8,13] ?_;refine z14 z3 k ?_ ?_;refine xn [9,13] ?_;refine q78 O3 k ?_ ?_;refine xn [13] ?_;refine q35 O3 ag ?_;refine xn [14] ?_;refine q17 z3 aa ?_;refine xn [15] ?_;refine q20 O3 aa z ?_;refine xn [16] ?_;refine q17 z3 ab ?_;refine xn [17] ?_;refine q20 O3 ab G ?_;exact ae;refine q35 O3 ag ?_;refine xn [9] ?_;refine q35 O3 k ?_;refine xn [14] ?_;refine q17 z3 aa ?_;refine xn [15] ?_;refine q20 O3 aa z ?_;refine xn [16] ?_;refine q17 z3 ab ?_;refine xn [17] ?_;refine q20 O3 ab G ?_;exact ae;refine q35 O3 ag ?_;refine xn [8] ?_;refine q17 z3 k ?_;refine xn [9] ?_;refine q35 O3 k ?_;refine xn [14] ?_;refine q17 z3 aa ?_;refine xn [15] ?_;refine q20 O3 aa z ?_;refine xn [16] ?_;refine q17 z3 ab ?_;refine xn [17] ?_;refine q20 O3 ab G ?_;exact ae;refine Q12 ?_;exact ew p3;exact zD (ex p3);cases h;refine zQ ?_;exact⟨rfl,⟨rfl,trivial⟩⟩;refine zI<|Q13 ?_;refine q21 ?_;refine Q84 ?_;refine zV h (fun h=>?_) (fun h=>?_);refine Q28 ?_;refine Q28 ?_;refine Q49 ?_;have ⟨y4,k,h⟩:=bE h;refine tl (.exit 4) ⟨[(0,.row 3000),(2,.d (di a2)),(14,.d (di y4))],[(3000,.win 3 eI.size 0 (eI.all a0))]⟩ ?_ ?_;refine zB (fun x=>⟨[(0,.row 3000),(2,.d (di a2)),(4,.d ad),(14,.d (di x.1)),(15,.d (di x.2))],[(3000,.win 3 eI.size 0 (eI.all a0))]⟩) k wc ?_
 rintro⟨bo,bp⟩ bj p4
 replace p4:yT a0 a2 a4 bo bp=some bj:=p4;unfold yT at p4;refine Q73 ?_;refine zV p4 (fun p4=>?_) (fun p4=>?_);refine zI ?_;have ⟨y5,ak,p4⟩:=bE p4;refine tl .normal ⟨[(0,.row 3000),(2,.d (di a2)),(4,.d ad),(14,.d (di y5.1)),(15,.d (di y5.2))],[(3000,.win 3 eI.size 0 (eI.all a0))]⟩ ?_ ?_;refine z4<|z5H ?_;refine Q79 ?_;refine zX MX rfl ?_;refine q8 ?_;refine Q93 ?_;have ⟨_,k,ak⟩:=bE ak;refine z90 z3 k ?_;refine z91 O3 k ?_;refine Q93 ?_;have ⟨_,k,ak⟩:=bE ak;refine z90 z3 k ?_;refine z91 O3 k ?_;have ⟨_,k,ak⟩:=bE ak;refine daa (zGI lr rfl rfl (ar _ _ _ k)) ?_;refine z4X ?_;refine yHZ ?_;refine xG ?_;refine zV ak (fun ak=>?_) (fun ak=>?_);refine Q12 ?_;exact eo ak;refine Q77 ?_;exact eo ak;exact ew p4;exact zD (ex p4);refine Q4 ?_;refine Q1 ?_;refine z4 ?_;have ⟨y6,k,h⟩:=bE h;refine tl (.exit 6) ⟨[(0,.row 3000)],[(3000,.win 3 eI.size 0 (eI.all y6))]⟩ ?_ ?_;refine zB (fun x=>⟨[(0,.row 3000),(14,.d (di y4)),(17,.d (di x.1))],[(3000,.win 3 eI.size 0 (eI.all x.2))]⟩) k wc ?_
 rintro⟨bd,au⟩ bk p6
 replace p6:yU y4 bd au=some bk:=p6;unfold yU at p6;refine Q13 ?_;refine Q52 ?_;refine zV p6 (fun p6=>?_) (fun p6=>?_);refine Q8 ?_;have ⟨_,k,p6⟩:=bE p6;have ⟨_,Z,p6⟩:=bE p6;have ⟨_,T,p6⟩:=bE p6;have ⟨_,H,p6⟩:=bE p6;have ⟨_,Y,p6⟩:=bE p6;have ⟨ap,O,p6⟩:=bE p6;refine tl .normal ⟨[(0,.row 3000),(14,.d (di y4)),(17,.d (di bd))],[(3000,.win 3 eI.size 0 (eI.all ap))]⟩ ?_ ?_;refine zGJ MX ?_;refine z5D ?_;refine xm 2 ?_;refine xm 3 ?_;refine zKR (i:=4) rfl lr rfl rfl rfl rfl rfl rfl ?_;refine xm 5 ?_;refine xm 6 ?_;refine zKR (i:=7) rfl lr rfl rfl rfl rfl rfl rfl ?_;refine xm 10 ?_;refine xm 11 ?_;refine xn [8,12] ?_;refine z14 z3 k ?_ ?_;refine xn [9,12] ?_;refine q78 O3 k ?_ ?_;refine xn [12] ?_;refine q17 z3 Z ?_;refine xn [13] ?_;refine q35 O3 Z ?_;refine xn [14] ?_;refine q17 z3 T ?_;refine xn [15] ?_;refine q20 O3 T H ?_;refine xn [16] ?_;refine q17 z3 Y ?_;refine xn [17] ?_;refine q20 O3 Y O ?_;exact ae;refine q17 z3 Z ?_;refine xn [9,13] ?_;refine q78 O3 k ?_ ?_;refine xn [13] ?_;refine q35 O3 Z ?_;refine xn [14] ?_;refine q17 z3 T ?_;refine xn [15] ?_;refine q20 O3 T H ?_;refine xn [16] ?_;refine q17 z3 Y ?_;refine xn [17] ?_;refine q20 O3 Y O ?_;exact ae;refine q35 O3 Z ?_;refine xn [9] ?_;refine q35 O3 k ?_;refine xn [14] ?_;refine q17 z3 T ?_;refine xn [15] ?_;refine q20 O3 T H ?_;refine xn [16] ?_;refine q17 z3 Y ?_;refine xn [17] ?_;refine q20 O3 Y O ?_;exact ae;refine q17 z3 Z ?_;refine xn [8,13] ?_;refine z14 z3 k ?_ ?_;refine xn [9,13] ?_;refine q78 O3 k ?_ ?_;refine xn [13] ?_;refine q35 O3 Z ?_;refine xn [14] ?_;refine q17 z3 T ?_;refine xn [15] ?_;refine q20 O3 T H ?_;refine xn [16] ?_;refine q17 z3 Y ?_;refine xn [17] ?_;refine q20 O3 Y O ?_;exact ae;refine q35 O3 Z ?_;refine xn [9] ?_;refine q35 O3 k ?_;refine xn [14] ?_;refine q17 z3 T ?_;refine xn [15] ?_;refine q20 O3 T H ?_;refine xn [16] ?_;refine q17 z3 Y ?_;refine xn [17] ?_;refine q20 O3 Y O ?_;exact ae;refine q35 O3 Z ?_;refine xn [8] ?_;refine q17 z3 k ?_;refine xn [9] ?_;refine q35 O3 k ?_;refine xn [14] ?_;refine q17 z3 T ?_;refine xn [15] ?_;refine q20 O3 T H ?_;refine xn [16] ?_;refine q17 z3 Y ?_;refine xn [17] ?_;refine q20 O3 Y O ?_;exact ae;refine Q7 ?_;refine Q62 ?_;exact ew p6;exact zD (ex p6);cases h;refine zQ ?_;exact⟨rfl,⟨rfl,trivial⟩⟩;refine zI<|z5H ?_;refine Q1 ?_;refine Q14 ?_;refine Q9 ?_;refine z18 ?_;refine Q13 ?_;refine Q52 ?_;have ⟨y7,aw,h⟩:=bE h;refine tl .normal ⟨[(0,.row 3000),(1,.d (di a1)),(2,.d (di a2)),(3,.d (di a3)),(4,.d ad),(18,.d (di (wi ((wu (wi (a1+a3)))/2 ^ 1)))),(19,.d (di (wi ((wi ((wu (wi (a1+a3)))/2 ^ 1))+a2)))),(20,.d (di y7.1)),(21,.d (di y7.2))],[(3000,.win 3 eI.size 0 (eI.all a0))]⟩ ?_ ?_;refine zV aw (fun aw=>?_) (fun aw=>?_);refine Q14 ?_;refine Q62 ?_;refine Q77 ?_;exact eo aw;refine Q28 ?_;refine Q77 ?_;exact eo aw;refine Q2 ?_;refine Q62 ?_;refine Q49 ?_;have ⟨y8,k,h⟩:=bE h;refine tl (.exit 8) ⟨[(0,.row 3000),(1,.d (di a1)),(2,.d (di a2)),(3,.d (di a3)),(4,.d ad),(18,.d (di (wi ((wu (wi (a1+a3)))/2 ^ 1)))),(19,.d (di (wi ((wi ((wu (wi (a1+a3)))/2 ^ 1))+a2)))),(20,.d (di y8))],[(3000,.win 3 eI.size 0 (eI.all a0))]⟩ ?_ ?_;refine zB (fun x=>⟨[(0,.row 3000),(1,.d (di a1)),(2,.d (di a2)),(3,.d (di a3)),(4,.d ad),(18,.d (di (wi ((wu (wi (a1+a3)))/2 ^ 1)))),(19,.d (di (wi ((wi ((wu (wi (a1+a3)))/2 ^ 1))+a2)))),(20,.d (di x.1)),(21,.d (di x.2)),(22,.d (di (wi ((wi ((wi ((wu (wi (a1+a3)))/2 ^ 1))+a2))-1))))],[(3000,.win 3 eI.size 0 (eI.all a0))]⟩) k wc ?_
 rintro⟨bq,br⟩ bl p8
 replace p8:yV a0 a1 a3 a2 a4 bq br=some bl:=p8;unfold yV at p8;refine Q73 ?_;refine zV p8 (fun p8=>?_) (fun p8=>?_);refine zI ?_;have ⟨y9,al,p8⟩:=bE p8;refine tl .normal ⟨[(0,.row 3000),(1,.d (di a1)),(2,.d (di a2)),(3,.d (di a3)),(4,.d ad),(18,.d (di (wi ((wu (wi (a1+a3)))/2 ^ 1)))),(19,.d (di (wi ((wi ((wu (wi (a1+a3)))/2 ^ 1))+a2)))),(20,.d (di y9.1)),(21,.d (di y9.2)),(22,.d (di (wi ((wi ((wi ((wu (wi (a1+a3)))/2 ^ 1))+a2))-1))))],[(3000,.win 3 eI.size 0 (eI.all a0))]⟩ ?_ ?_;refine z4<|z5H ?_;refine Q79 ?_;refine zX MX rfl ?_;refine q8 ?_;refine q76 ?_;refine Q33 ?_;refine q89 ?_;have ⟨_,k,al⟩:=bE al;refine z90 z3 k ?_;refine z91 O3 k ?_;refine Q93 ?_;have ⟨_,k,al⟩:=bE al;refine z90 z3 k ?_;refine z91 O3 k ?_;have ⟨_,k,al⟩:=bE al;refine daa (zGI lr rfl rfl (ar _ _ _ k)) ?_;refine z4X ?_;refine yHZ ?_;refine xG ?_;refine zV al (fun al=>?_) (fun al=>?_);refine Q12 ?_;exact eo al;refine Q77 ?_;exact eo al;exact ew p8;exact zD (ex p8);refine Q14 ?_;refine Q62 ?_;refine Q13 ?_;refine q3 ?_;have ⟨_,k,h⟩:=bE h;refine q7 k ?_;refine q14 (.d (di a2)) ?_;refine q14 (.d (di (wi ((wi ((wi ((wu (wi (a1+a3)))/2 ^ 1))+a2))-y8)))) ?_;refine q82 (.d (db (decide (a2<(wi ((wi ((wi ((wu (wi (a1+a3)))/2 ^ 1))+a2))-y8)))))) ?_;refine Q36 ?_;have ⟨bt,ah,h⟩:=bE h;refine tl .normal ⟨[(0,.row 3000),(1,.d (di a1)),(3,.d (di a3)),(4,.d ad),(18,.d (di (wi ((wu (wi (a1+a3)))/2 ^ 1)))),(20,.d (di y8)),(24,.d (di (wi ((wi ((wi ((wu (wi (a1+a3)))/2 ^ 1))+a2))-y8))))],[(3000,.win 3 eI.size 0 (eI.all bt))]⟩ ?_ ?_;refine zV ah (fun ah=>?_) (fun ah=>?_);refine Q31 ?_;refine Q41 ?_;refine q0 ?_;have ⟨_,k,ah⟩:=bE ah;refine z2 rfl (zDU [(3000,3000)] (zIL ar k) lr (by decide) ⟨rfl,rfl,rfl,rfl,rfl,trivial⟩ rfl rfl ⟨rfl,trivial⟩ rfl rfl rfl rfl) ?_;refine zG ?_;exact eo ah;refine zI ?_;exact eo ah;refine Q13 ?_;refine q3 ?_;have ⟨_,k,h⟩:=bE h;refine q7 k ?_;refine q14 (.d (di y8)) ?_;refine q14 (.d (di (wi ((wu (wi (a1+a3)))/2 ^ 1)))) ?_;refine q82 (.d (db (decide (y8<(wi ((wu (wi (a1+a3)))/2 ^ 1)))))) ?_;refine Q36 ?_;have ⟨bu,ai,h⟩:=bE h;refine tl .normal ⟨[(0,.row 3000),(3,.d (di a3)),(4,.d ad),(18,.d (di (wi ((wu (wi (a1+a3)))/2 ^ 1)))),(24,.d (di (wi ((wi ((wi ((wu (wi (a1+a3)))/2 ^ 1))+a2))-y8))))],[(3000,.win 3 eI.size 0 (eI.all bu))]⟩ ?_ ?_;refine zV ai (fun ai=>?_) (fun ai=>?_);refine Q31 ?_;refine Q41 ?_;refine q0 ?_;have ⟨_,k,ai⟩:=bE ai;refine z2 rfl (zDU [(3000,3000)] (ih ar k) lr (by decide) ⟨rfl,rfl,rfl,rfl,rfl,trivial⟩ rfl rfl ⟨rfl,trivial⟩ rfl rfl rfl rfl) ?_;refine zG ?_;exact eo ai;refine zI ?_;exact eo ai;refine Q14 ?_;refine q3 ?_;have ⟨_,k,h⟩:=bE h;refine q7 k ?_;refine q14 (.d (di (wi ((wi ((wi ((wu (wi (a1+a3)))/2 ^ 1))+a2))-y8)))) ?_;refine q14 (.d (di a3)) ?_;refine q82 (.d (db (decide ((wi ((wi ((wi ((wu (wi (a1+a3)))/2 ^ 1))+a2))-y8))<a3)))) ?_;refine Q36 ?_;refine zV h (fun h=>?_) (fun h=>?_);refine Q31 ?_;refine Q41 ?_;refine q0 ?_;have ⟨_,k,h⟩:=bE h;refine z2 rfl (zDU [(3000,3000)] (ih ar k) lr (by decide) ⟨rfl,rfl,rfl,rfl,rfl,trivial⟩ rfl rfl ⟨rfl,trivial⟩ rfl rfl rfl rfl) ?_;refine zG ?_;cases h;exact⟨rfl,⟨rfl,trivial⟩⟩;refine zI ?_;cases h;exact⟨rfl,⟨rfl,trivial⟩⟩
end Go.Proofs.YtlcjeomefjmhgaaGreatDoor.Walk


/- Each function of the program answers as its plain counterpart does, where that answers. Conditions: none. -/
import Derived.Test.YtjcbhabmkcdcnaaGreatDoorMir
import Derived.Test.YtjcbhabmkcdcnaaGreatDoorLa3
import Derived.Test.YtjcbhabmkcdcnaaGreatDoorProg
set_option linter.unusedSimpArgs false
set_option linter.unusedVariables false
set_option linter.unnecessarySimpa false
namespace Go.Proofs.YtjcbhabmkcdcnaaGreatDoor.Walk
open Go.AV Go.M Go.RowKit Go.Proofs
theorem yCA:ArTy Tryz.prog 110 9 1 3 [(.int IntKind.i64 (0)),(.int IntKind.i64 (0)),(.int IntKind.i64 (0)),(.int IntKind.i64 (0)),(.int IntKind.i64 (0)),(.int IntKind.i64 (0)),(.int IntKind.i64 (0)),(.int IntKind.i64 (0)),(.int IntKind.i64 (0))]:=ArTy.of Tryz.underlying110 (by kernel_rfl) (by decide) (by kernel_rfl) rfl
theorem zSR:ArTy Tryz.prog 118 4 1 33 [(.slice none 0 0),(.slice none 0 0),(.slice none 0 0),(.slice none 0 0)]:=ArTy.of Tryz.underlying118 (by kernel_rfl) (by decide) (by kernel_rfl) rfl
theorem zJ0:ArTy Tryz.prog 121 4 1 3 [(.int IntKind.i64 (0)),(.int IntKind.i64 (0)),(.int IntKind.i64 (0)),(.int IntKind.i64 (0))]:=ArTy.of Tryz.underlying121 (by kernel_rfl) (by decide) (by kernel_rfl) rfl
theorem zOD:ArTy Tryz.prog 157 3 1 3 [(.int IntKind.i64 (0)),(.int IntKind.i64 (0)),(.int IntKind.i64 (0))]:=ArTy.of Tryz.underlying157 (by kernel_rfl) (by decide) (by kernel_rfl) rfl
theorem yJY:ArTy Tryz.prog 159 4 2 143 [(.int IntKind.i64 (0)),(.int IntKind.i64 (0)),(.int IntKind.i64 (0)),(.int IntKind.i64 (0)),(.int IntKind.i64 (0)),(.int IntKind.i64 (0)),(.int IntKind.i64 (0)),(.int IntKind.i64 (0))]:=ArTy.of Tryz.underlying159 (by kernel_rfl) (by decide) (by kernel_rfl) rfl
theorem yJZ:StTy Tryz.prog 108 [(0,5),(5,1),(6,1),(7,1),(8,1)] [(.slice none 0 0),(.slice none 0 0),(.int IntKind.i64 (0)),(.int IntKind.i64 (0)),(.int IntKind.i64 (0)),(.map none),(.int IntKind.i64 (0)),(.slice none 0 0),(.int IntKind.i64 (0))]:=fx Tryz.underlying108
theorem zYF:StTy Tryz.prog 143 [(0,1),(1,1)] [(.int IntKind.i64 (0)),(.int IntKind.i64 (0))]:=fx Tryz.underlying143
theorem yJ0:StTy Tryz.prog 163 [(0,1),(1,1)] [(.int IntKind.i64 (0)),(.string ⟨#[]⟩)]:=fx Tryz.underlying163
theorem B26:StTy Tryz.prog 26 [(0,1)] [(.slice none 0 0)]:=fx Tryz.underlying26
theorem B28:StTy Tryz.prog 28 [(0,1),(1,1),(2,1)] [(.slice none 0 0),(.slice none 0 0),(.slice none 0 0)]:=fx Tryz.underlying28
theorem B32:StTy Tryz.prog 32 [(0,1),(1,1),(2,1),(3,1),(4,1)] [(.slice none 0 0),(.slice none 0 0),(.int IntKind.i64 (0)),(.int IntKind.i64 (0)),(.int IntKind.i64 (0))]:=fx Tryz.underlying32
theorem B41:StTy Tryz.prog 41 [(0,1),(1,1)] [(.slice none 0 0),(.slice none 0 0)]:=fx Tryz.underlying41
theorem B49:StTy Tryz.prog 49 [(0,1),(1,1),(2,1),(3,1)] [(.int IntKind.i64 (0)),(.int IntKind.i64 (0)),(.bool false),(.bool false)]:=fx Tryz.underlying49
theorem B64:StTy Tryz.prog 64 [(0,1),(1,1),(2,1),(3,1)] [(.int IntKind.i64 (0)),(.int IntKind.i64 (0)),(.int IntKind.i64 (0)),(.bool false)]:=fx Tryz.underlying64
theorem zKT:AggTy Tryz.prog 101 3:=fx Tryz.underlying101
theorem yCB:AggTy Tryz.prog 110 9:=fx Tryz.underlying110
theorem zYG:AggTy Tryz.prog 117 3:=fx Tryz.underlying117
theorem zOE:AggTy Tryz.prog 121 4:=fx Tryz.underlying121
theorem zB1:AggTy Tryz.prog 143 2:=fx Tryz.underlying143
theorem zYH:AggTy Tryz.prog 157 3:=fx Tryz.underlying157
theorem yJ3:AggTy Tryz.prog 159 8:=fx Tryz.underlying159
theorem yIE:AggTy Tryz.prog 163 2:=fx Tryz.underlying163
theorem G26:AggTy Tryz.prog 26 1:=fx Tryz.underlying26
theorem G28:AggTy Tryz.prog 28 3:=fx Tryz.underlying28
theorem G32:AggTy Tryz.prog 32 5:=fx Tryz.underlying32
theorem G41:AggTy Tryz.prog 41 2:=fx Tryz.underlying41
theorem G49:AggTy Tryz.prog 49 4:=fx Tryz.underlying49
theorem G51:AggTy Tryz.prog 51 12:=fx Tryz.underlying51
theorem G62:AggTy Tryz.prog 62 3:=fx Tryz.underlying62
theorem G64:AggTy Tryz.prog 64 4:=fx Tryz.underlying64
theorem K3:KeyTy Tryz.prog 3 kI:=yF2 Tryz.underlying3
theorem K9:KeyTy Tryz.prog 9 kS:=yF3 Tryz.underlying9
theorem zEZ:FldTy Tryz.prog 101 0 0 1 3:=fx Tryz.underlying101
theorem zCW:FldTy Tryz.prog 101 1 1 1 33:=fx Tryz.underlying101
theorem zBO:FldTy Tryz.prog 101 2 2 1 9:=fx Tryz.underlying101
theorem z0X:FldTy Tryz.prog 108 0 0 5 32:=fx Tryz.underlying108
theorem z8E:FldTy Tryz.prog 108 1 5 1 106:=fx Tryz.underlying108
theorem zVK:FldTy Tryz.prog 108 2 6 1 3:=fx Tryz.underlying108
theorem zMC:FldTy Tryz.prog 108 3 7 1 22:=fx Tryz.underlying108
theorem z0Y:FldTy Tryz.prog 108 4 8 1 3:=fx Tryz.underlying108
theorem zMD:FldTy Tryz.prog 117 0 0 1 9:=fx Tryz.underlying117
theorem zOF:FldTy Tryz.prog 117 1 1 1 3:=fx Tryz.underlying117
theorem zOG:FldTy Tryz.prog 117 2 2 1 3:=fx Tryz.underlying117
theorem zH4:FldTy Tryz.prog 143 0 0 1 3:=fx Tryz.underlying143
theorem zEB:FldTy Tryz.prog 143 1 1 1 3:=fx Tryz.underlying143
theorem zHS:FldTy Tryz.prog 26 0 0 1 24:=fx Tryz.underlying26
theorem vZ:FldTy Tryz.prog 28 0 0 1 22:=fx Tryz.underlying28
theorem zPC:FldTy Tryz.prog 28 1 1 1 23:=fx Tryz.underlying28
theorem z8F:FldTy Tryz.prog 28 2 2 1 26:=fx Tryz.underlying28
theorem zYI:FldTy Tryz.prog 32 0 0 1 29:=fx Tryz.underlying32
theorem z8G:FldTy Tryz.prog 32 1 1 1 30:=fx Tryz.underlying32
theorem zLZ:FldTy Tryz.prog 32 2 2 1 3:=fx Tryz.underlying32
theorem z2U:FldTy Tryz.prog 32 3 3 1 3:=fx Tryz.underlying32
theorem z2V:FldTy Tryz.prog 32 4 4 1 3:=fx Tryz.underlying32
theorem zG1:FldTy Tryz.prog 41 0 0 1 33:=fx Tryz.underlying41
theorem zKU:FldTy Tryz.prog 41 1 1 1 39:=fx Tryz.underlying41
theorem zPD:FldTy Tryz.prog 49 0 0 1 3:=fx Tryz.underlying49
theorem zYJ:FldTy Tryz.prog 49 1 1 1 3:=fx Tryz.underlying49
theorem yEP:FldTy Tryz.prog 49 2 2 1 4:=fx Tryz.underlying49
theorem z2W:FldTy Tryz.prog 49 3 3 1 4:=fx Tryz.underlying49
theorem zYK:FldTy Tryz.prog 51 0 0 3 28:=fx Tryz.underlying51
theorem zYL:FldTy Tryz.prog 51 1 3 5 32:=fx Tryz.underlying51
theorem z2X:FldTy Tryz.prog 51 2 8 4 49:=fx Tryz.underlying51
theorem zII:FldTy Tryz.prog 62 0 0 1 3:=fx Tryz.underlying62
theorem zIJ:FldTy Tryz.prog 62 1 1 1 3:=fx Tryz.underlying62
theorem zJN:FldTy Tryz.prog 62 2 2 1 3:=fx Tryz.underlying62
theorem zYM:FldTy Tryz.prog 64 0 0 1 3:=fx Tryz.underlying64
theorem zM9:FldTy Tryz.prog 64 1 1 1 3:=fx Tryz.underlying64
theorem zNA:FldTy Tryz.prog 64 2 2 1 3:=fx Tryz.underlying64
theorem zUI:FldTy Tryz.prog 64 3 3 1 4:=fx Tryz.underlying64
theorem yIF:MapTy Tryz.prog 106 110 39 (.slice none 0 0):=MapTy.of Tryz.underlying106 (by kernel_rfl)
theorem yIG:MapTy Tryz.prog 132 9 4 (.bool false):=MapTy.of Tryz.underlying132 (by kernel_rfl)
theorem yIH:MapTy Tryz.prog 161 163 4 (.bool false):=MapTy.of Tryz.underlying161 (by kernel_rfl)
theorem yGE:MapTy Tryz.prog 166 3 3 (.int IntKind.i64 (0)):=MapTy.of Tryz.underlying166 (by kernel_rfl)
theorem M94:MapTy Tryz.prog 94 3 33 (.slice none 0 0):=MapTy.of Tryz.underlying94 (by kernel_rfl)
theorem yGF:OneTy Tryz.prog 102:=fx Tryz.underlying102
theorem yII:OneTy Tryz.prog 106:=fx Tryz.underlying106
theorem yCC:OneTy Tryz.prog 166:=fx Tryz.underlying166
theorem O22:OneTy Tryz.prog 22:=fx Tryz.underlying22
theorem O23:OneTy Tryz.prog 23:=fx Tryz.underlying23
theorem O24:OneTy Tryz.prog 24:=fx Tryz.underlying24
theorem O29:OneTy Tryz.prog 29:=fx Tryz.underlying29
theorem O3:OneTy Tryz.prog 3:=fx Tryz.underlying3
theorem O30:OneTy Tryz.prog 30:=fx Tryz.underlying30
theorem O33:OneTy Tryz.prog 33:=fx Tryz.underlying33
theorem O39:OneTy Tryz.prog 39:=fx Tryz.underlying39
theorem O4:OneTy Tryz.prog 4:=fx Tryz.underlying4
theorem O69:OneTy Tryz.prog 69:=fx Tryz.underlying69
theorem O73:OneTy Tryz.prog 73:=fx Tryz.underlying73
theorem O9:OneTy Tryz.prog 9:=fx Tryz.underlying9
theorem O94:OneTy Tryz.prog 94:=fx Tryz.underlying94
theorem yCD:SlTy Tryz.prog 103 4 1 1 (.bool false):=fx Tryz.underlying103
theorem yIL:SlTy Tryz.prog 123 5 1 1 (.int IntKind.u8 (0)):=fx Tryz.underlying123
theorem z5B:SlTy Tryz.prog 128 121 4 32 (.agg #[(.int IntKind.i64 (0)),(.int IntKind.i64 (0)),(.int IntKind.i64 (0)),(.int IntKind.i64 (0))]):=fx Tryz.underlying128
theorem S22:SlTy Tryz.prog 22 62 3 24 (.agg #[(.int IntKind.i64 (0)),(.int IntKind.i64 (0)),(.int IntKind.i64 (0))]):=fx Tryz.underlying22
theorem S23:SlTy Tryz.prog 23 101 3 48 (.agg #[(.int IntKind.i64 (0)),(.slice none 0 0),(.string ⟨#[]⟩)]):=fx Tryz.underlying23
theorem S24:SlTy Tryz.prog 24 143 2 16 (.agg #[(.int IntKind.i64 (0)),(.int IntKind.i64 (0))]):=fx Tryz.underlying24
theorem S29:SlTy Tryz.prog 29 41 2 48 (.agg #[(.slice none 0 0),(.slice none 0 0)]):=fx Tryz.underlying29
theorem S30:SlTy Tryz.prog 30 117 3 32 (.agg #[(.string ⟨#[]⟩),(.int IntKind.i64 (0)),(.int IntKind.i64 (0))]):=fx Tryz.underlying30
theorem yD:SlTy Tryz.prog 33 3 1 8 (.int IntKind.i64 (0)):=fx Tryz.underlying33
theorem S39:SlTy Tryz.prog 39 64 4 32 (.agg #[(.int IntKind.i64 (0)),(.int IntKind.i64 (0)),(.int IntKind.i64 (0)),(.bool false)]):=fx Tryz.underlying39
theorem S78:SlTy Tryz.prog 78 33 1 24 (.slice none 0 0):=fx Tryz.underlying78
theorem Z0:zAY Tryz.prog 0=some [.int .i64 4352,.int .i64 4370,.int .i64 4449,.int .i64 4469,.int .i64 4520,.int .i64 4546,.int .i64 44032,.int .i64 55203]:=by kernel_rfl
theorem yJ7:EqTy Tryz.prog 110 eA9Int:=EqTy.ofA (vals:=fun (x:A9Int)=>[.int IntKind.i64 x.x0,.int IntKind.i64 x.x1,.int IntKind.i64 x.x2,.int IntKind.i64 x.x3,.int IntKind.i64 x.x4,.int IntKind.i64 x.x5,.int IntKind.i64 x.x6,.int IntKind.i64 x.x7,.int IntKind.i64 x.x8]) (cs:=fun (a b:A9Int)=>[decide (a.x0=b.x0),decide (a.x1=b.x1),decide (a.x2=b.x2),decide (a.x3=b.x3),decide (a.x4=b.x4),decide (a.x5=b.x5),decide (a.x6=b.x6),decide (a.x7=b.x7),decide (a.x8=b.x8)]) yCA O3 (by kernel_rfl) (fun _=>rfl) (fun a b w=>(Pw.cons ⟨_,_,rfl,rfl,Go.AV.run_equalIn_int Tryz.underlying3 _ _ _ _⟩ (Pw.cons ⟨_,_,rfl,rfl,Go.AV.run_equalIn_int Tryz.underlying3 _ _ _ _⟩ (Pw.cons ⟨_,_,rfl,rfl,Go.AV.run_equalIn_int Tryz.underlying3 _ _ _ _⟩ (Pw.cons ⟨_,_,rfl,rfl,Go.AV.run_equalIn_int Tryz.underlying3 _ _ _ _⟩ (Pw.cons ⟨_,_,rfl,rfl,Go.AV.run_equalIn_int Tryz.underlying3 _ _ _ _⟩ (Pw.cons ⟨_,_,rfl,rfl,Go.AV.run_equalIn_int Tryz.underlying3 _ _ _ _⟩ (Pw.cons ⟨_,_,rfl,rfl,Go.AV.run_equalIn_int Tryz.underlying3 _ _ _ _⟩ (Pw.cons ⟨_,_,rfl,rfl,Go.AV.run_equalIn_int Tryz.underlying3 _ _ _ _⟩ (Pw.cons ⟨_,_,rfl,rfl,Go.AV.run_equalIn_int Tryz.underlying3 _ _ _ _⟩ Pw.nil)))))))))) (fun a b=>by cases a;cases b;simp)
theorem yJ8:EqTy Tryz.prog 121 eA4Int:=EqTy.ofA (vals:=fun (x:A4Int)=>[.int IntKind.i64 x.x0,.int IntKind.i64 x.x1,.int IntKind.i64 x.x2,.int IntKind.i64 x.x3]) (cs:=fun (a b:A4Int)=>[decide (a.x0=b.x0),decide (a.x1=b.x1),decide (a.x2=b.x2),decide (a.x3=b.x3)]) zJ0 O3 (by kernel_rfl) (fun _=>rfl) (fun a b w=>(Pw.cons ⟨_,_,rfl,rfl,Go.AV.run_equalIn_int Tryz.underlying3 _ _ _ _⟩ (Pw.cons ⟨_,_,rfl,rfl,Go.AV.run_equalIn_int Tryz.underlying3 _ _ _ _⟩ (Pw.cons ⟨_,_,rfl,rfl,Go.AV.run_equalIn_int Tryz.underlying3 _ _ _ _⟩ (Pw.cons ⟨_,_,rfl,rfl,Go.AV.run_equalIn_int Tryz.underlying3 _ _ _ _⟩ Pw.nil))))) (fun a b=>by cases a;cases b;simp)
set_option maxRecDepth 10000 in
theorem yIM:EqTy Tryz.prog 143 eRange:=EqTy.of (vals:=fun (x:Range)=>[.int IntKind.i64 x.Lo,.int IntKind.i64 x.Hi]) (cs:=fun (a b:Range)=>[decide (a.Lo=b.Lo),decide (a.Hi=b.Hi)]) Tryz.underlying143 (by kernel_rfl) (by kernel_rfl) (fun _=>rfl) (fun a b w=>(zVB (d:=9998) rfl O3 (zVB (d:=9998) rfl O3 z2M Tryz.underlying3 rfl rfl) Tryz.underlying3 rfl rfl)) (fun a b=>by cases a;cases b;simp)
theorem yJ9:EqTy Tryz.prog 157 eA3Int:=EqTy.ofA (vals:=fun (x:A3Int)=>[.int IntKind.i64 x.x0,.int IntKind.i64 x.x1,.int IntKind.i64 x.x2]) (cs:=fun (a b:A3Int)=>[decide (a.x0=b.x0),decide (a.x1=b.x1),decide (a.x2=b.x2)]) zOD O3 (by kernel_rfl) (fun _=>rfl) (fun a b w=>(Pw.cons ⟨_,_,rfl,rfl,Go.AV.run_equalIn_int Tryz.underlying3 _ _ _ _⟩ (Pw.cons ⟨_,_,rfl,rfl,Go.AV.run_equalIn_int Tryz.underlying3 _ _ _ _⟩ (Pw.cons ⟨_,_,rfl,rfl,Go.AV.run_equalIn_int Tryz.underlying3 _ _ _ _⟩ Pw.nil)))) (fun a b=>by cases a;cases b;simp)
set_option maxRecDepth 10000 in
theorem yKA:EqTy Tryz.prog 163 eMapping_key:=EqTy.of (vals:=fun (x:Mapping_key)=>[.int IntKind.i64 x.from_,.string ⟨x.tag.toArray⟩]) (cs:=fun (a b:Mapping_key)=>[decide (a.from_=b.from_),decide (a.tag=b.tag)]) Tryz.underlying163 (by kernel_rfl) (by kernel_rfl) (fun _=>rfl) (fun a b w=>(zVB (d:=9998) rfl O3 (yBX (d:=9998) rfl O9 z2M Tryz.underlying9 rfl rfl) Tryz.underlying3 rfl rfl)) (fun a b=>by cases a;cases b;simp)
theorem yIN:KeyTy Tryz.prog 110 zEO:=z7Z (vals:=fun (x:A9Int)=>[.int IntKind.i64 x.x0,.int IntKind.i64 x.x1,.int IntKind.i64 x.x2,.int IntKind.i64 x.x3,.int IntKind.i64 x.x4,.int IntKind.i64 x.x5,.int IntKind.i64 x.x6,.int IntKind.i64 x.x7,.int IntKind.i64 x.x8]) Tryz.underlying110 yJ7 (fun _=>rfl) (fun _=>rfl) (fun _=>rfl) (fun _=>by simp [Instr.sameBits,zRB]) (fun a b w=>z47 yCA O3 Tryz.underlying3 rfl rfl b w)
theorem yIO:KeyTy Tryz.prog 163 zF8:=z7Z (vals:=fun (x:Mapping_key)=>[.int IntKind.i64 x.from_,.string ⟨x.tag.toArray⟩]) Tryz.underlying163 yKA (fun _=>rfl) (fun _=>rfl) (fun _=>rfl) (fun _=>by simp [Instr.sameBits,zRB]) (fun a b w=>z0Q Tryz.underlying163 (List.forall_mem_cons.2 ⟨⟨O3,⟨_,Tryz.underlying3,rfl⟩,lq rfl⟩,(List.forall_mem_cons.2 ⟨⟨O9,⟨_,Tryz.underlying9,rfl⟩,lq rfl⟩,(fun _ h=>by cases h)⟩)⟩) b w)
theorem MX:Tryz.prog.follows .mixedOrders=true:=by kernel_rfl
section
variable {P:Program} {r:Option Nat} {E:Env} {S S':AState} {ops:Array Oper} {o:Oper} {rest:List Oper} {J:AState→Prop} {d j t:Nat} {x:AV} {b:Bool} {G H I:Prop}
theorem q0 (k:H) (h:H→G:=by exact fun k=>z9 (zC (lq rfl) rfl) k):G:=h k
theorem q1 (k:H) (h:H→G:=by exact fun k=>z9 (zL7 (lq rfl) rfl) k):G:=h k
theorem q2 (k:H) (h:H→G:=by exact fun k=>z9 (zT4 (lq rfl) rfl rfl) k):G:=h k
theorem q3 (k:H) (h:H→G:=by exact fun k=>z9 (zMW (lq rfl) rfl rfl) k):G:=h k
theorem q4 {F0:Prop} (f0:F0) (k:H) (h:F0→H→G:=by exact fun f0 k=>z9 (z2K (lq rfl) f0 rfl) k):G:=h f0 k
theorem q5 {F0:Prop} (f0:F0) (k:H) (h:F0→H→G:=by exact fun f0 k=>z9 (wF (lq rfl) f0 rfl) k):G:=h f0 k
theorem q6 {F0:Prop} (f0:F0) (k:H) (h:F0→H→G:=by exact fun f0 k=>z9 (xI (lq rfl) f0 rfl rfl) k):G:=h f0 k
theorem q7 (k:H) (h:H→G:=by exact fun k=>vO (zC (lq rfl) rfl) k):G:=h k
theorem q8 {F0:Prop} (f0:F0) (k:H) (h:F0→H→G:=by exact fun f0 k=>z9 (wD (lq rfl) rfl f0) k):G:=h f0 k
theorem q9 {F0:Prop} (f0:F0) (k:H) (h:F0→H→G:=by exact fun f0 k=>xd rfl (zM7 f0 rfl rfl rfl rfl rfl rfl) k):G:=h f0 k
theorem q10 (k:H) (h:H→G:=by exact fun k=>z9 (zGP (lq rfl) rfl) k):G:=h k
theorem q11 {F0:Prop} (f0:F0) {F1:Prop} (f1:F1) (k:H) (h:F0→F1→H→G:=by exact fun f0 f1 k=>z9 (kN (lq rfl) f0 rfl rfl f1) k):G:=h f0 f1 k
theorem q12 (k:H) (h:H→G:=by exact fun k=>xc rfl (zL7 (lq rfl) rfl) k):G:=h k
theorem q13 (x:AV) (k:Sq P r E ops rest (S.put d (.cond (gd true b) x)) J) (ha:GdO o ops S E j t d b true:=by exact rfl) (h:b=true→AOp P r E S o d x:=by exact fun hb=>by subst hb;exact zC (lq rfl) rfl):Sq P r E ops (o::rest) S J:=sqt x ha h k
theorem q14 (k:H) (h:H→G:=by exact fun k=>z9 (zEN (lq rfl) rfl rfl) k):G:=h k
theorem q15 (k:H) (h:H→G:=by exact fun k=>z9 (zU6 (lq rfl) rfl) k):G:=h k
theorem q16 {F0:Prop} (f0:F0) (k:H) (h:F0→H→G:=by exact fun f0 k=>yF rfl (zM7 f0 rfl rfl rfl rfl rfl rfl) k):G:=h f0 k
theorem q17 {F0:Prop} (f0:F0) {F1:Prop} (f1:F1) (k:H) (h:F0→F1→H→G:=by exact fun f0 f1 k=>xc rfl (zFF (lq rfl) f0 rfl rfl rfl f1) k):G:=h f0 f1 k
theorem q18 (k:H) (h:H→G:=by exact fun k=>z9 (zN2 (lq rfl) rfl rfl) k):G:=h k
theorem q19 {F0:Prop} (f0:F0) (k:H) (h:F0→H→G:=by exact fun f0 k=>vO (wF (lq rfl) f0 rfl) k):G:=h f0 k
theorem q20 {F0:Prop} (f0:F0) {F1:Prop} (f1:F1) {F2:Prop} (f2:F2) (k:H) (h:F0→F1→F2→H→G:=by exact fun f0 f1 f2 k=>xd rfl (zX9 f0 rfl rfl rfl f1 f2 rfl rfl rfl rfl) k):G:=h f0 f1 f2 k
theorem q21 {F0:Prop} (f0:F0) (k:H) (h:F0→H→G:=by exact fun f0 k=>z9 (zM2 (lq rfl) f0 rfl rfl) k):G:=h f0 k
theorem q22 {F0:Prop} (f0:F0) (k:H) (h:F0→H→G:=by exact fun f0 k=>vO (wD (lq rfl) rfl f0) k):G:=h f0 k
theorem q23 {F0:Prop} (f0:F0) {F1:Prop} (f1:F1) (k:H) (h:F0→F1→H→G:=by exact fun f0 f1 k=>vO (kN (lq rfl) f0 rfl rfl f1) k):G:=h f0 f1 k
theorem q24 {F0:Prop} (f0:F0) (k:H) (h:F0→H→G:=by exact fun f0 k=>z9 (zTU (lq rfl) f0 rfl rfl rfl rfl (by decide) rfl) k):G:=h f0 k
theorem q25 (x:AV) {F0:Prop} (f0:F0) (k:Sq P r E ops rest (S.put d (.cond (gd false b) x)) J) (ha:GdO o ops S E j t d b false:=by exact rfl) (h:F0→b=false→AOp P r E S o d x:=by exact fun f0 hb=>by subst hb;exact wF (lq rfl) f0 rfl):Sq P r E ops (o::rest) S J:=sqf x ha (h f0) k
theorem q26 (x:AV) {F0:Prop} (f0:F0) (k:Sq P r E ops rest (S.put d (.cond (gd false b) x)) J) (ha:GdO o ops S E j t d b false:=by exact rfl) (h:F0→b=false→AOp P r E S o d x:=by exact fun f0 hb=>by subst hb;exact xI (lq rfl) f0 rfl rfl):Sq P r E ops (o::rest) S J:=sqf x ha (h f0) k
theorem q27 {F0:Prop} (f0:F0) (k:H) (h:F0→H→G:=by exact fun f0 k=>xc rfl (wD (lq rfl) rfl f0) k):G:=h f0 k
theorem q28 {F0:Prop} (f0:F0) (k:H) (h:F0→H→G:=by exact fun f0 k=>z9 (zCK (lq rfl) f0 rfl rfl rfl) k):G:=h f0 k
theorem q29 (k:H) (h:H→G:=by exact fun k=>z9 (zMX (lq rfl) rfl rfl) k):G:=h k
theorem q30 {F0:Prop} (f0:F0) {F1:Prop} (f1:F1) (k:H) (h:F0→F1→H→G:=by exact fun f0 f1 k=>xc rfl (zI6 (lq rfl) f0 rfl rfl f1 rfl) k):G:=h f0 f1 k
theorem q31 (k:H) (h:H→G:=by exact fun k=>z9 (zT5 (lq rfl) rfl rfl) k):G:=h k
theorem q32 (k:H) (h:H→G:=by exact fun k=>z9 (zTO (lq rfl) rfl) k):G:=h k
theorem q33 {F0:Prop} (f0:F0) (k:H) (h:F0→H→G:=by exact fun f0 k=>vO (xI (lq rfl) f0 rfl rfl) k):G:=h f0 k
theorem q34 {F0:Prop} (f0:F0) {F1:Prop} (f1:F1) (k:H) (h:F0→F1→H→G:=by exact fun f0 f1 k=>xc rfl (zDC (lq rfl) f0 rfl rfl rfl f1) k):G:=h f0 f1 k
theorem q35 {F0:Prop} (f0:F0) {F1:Prop} (f1:F1) (k:H) (h:F0→F1→H→G:=by exact fun f0 f1 k=>z9 (zZ (en:=eI) (off:=0) (lq rfl) f0 rfl f1 rfl) k):G:=h f0 f1 k
theorem q36 (k:H) (h:H→G:=by exact fun k=>xd rfl (yP (zs:=[(.slice none 0 0),(.slice none 0 0),(.int IntKind.i64 (0)),(.int IntKind.i64 (0)),(.int IntKind.i64 (0))]) (lq rfl) (by kernel_rfl) rfl rfl) k):G:=h k
theorem q37 (k:H) (h:H→G:=by exact fun k=>z9 (zO3 (lq rfl) rfl rfl) k):G:=h k
theorem q38 (x:AV) (k:Sq P r E ops rest (S.put d (.cond (gd false b) x)) J) (ha:GdO o ops S E j t d b false:=by exact rfl) (h:b=false→AOp P r E S o d x:=by exact fun hb=>by subst hb;exact zC (lq rfl) rfl):Sq P r E ops (o::rest) S J:=sqf x ha h k
theorem q39 (k:H) (h:H→G:=by exact fun k=>z9 (zJL (lq rfl) rfl rfl) k):G:=h k
theorem q40 (k:H) (h:H→G:=by exact fun k=>z9 (zM3 (size:=3) (lq rfl) rfl rfl) k):G:=h k
theorem q41 (k:H) (h:H→G:=by exact fun k=>vO (zL7 (lq rfl) rfl) k):G:=h k
theorem q42 (k:H) (h:H→G:=by exact fun k=>z9 (zTP (lq rfl) rfl rfl) k):G:=h k
theorem q43 (x:AV) (k:Sq P r E ops rest (S.put d (.cond (gd false b) x)) J) (ha:GdO o ops S E j t d b false:=by exact rfl) (h:b=false→AOp P r E S o d x:=by exact fun hb=>by subst hb;exact zO3 (lq rfl) rfl rfl):Sq P r E ops (o::rest) S J:=sqf x ha h k
theorem q44 (k:H) (h:H→G:=by exact fun k=>z9 (zKC (lq rfl) rfl rfl) k):G:=h k
theorem q45 (k:H) (h:H→G:=by exact fun k=>xd rfl (yP (zs:=[(.int IntKind.i64 (0)),(.int IntKind.i64 (0)),(.int IntKind.i64 (0))]) (lq rfl) (by kernel_rfl) rfl rfl) k):G:=h k
theorem q46 {F0:Prop} (f0:F0) (k:H) (h:F0→H→G:=by exact fun f0 k=>z9 (xD (lq rfl) f0 rfl) k):G:=h f0 k
theorem q47 {F0:Prop} (f0:F0) {F1:Prop} (f1:F1) (k:H) (m:I) (h:F0→F1→H→I→G:=by exact fun f0 f1 k m=>xa rfl (wX (en:=eSpan) (off:=0) (lq rfl) f0 rfl f1 rfl rfl (by decide)) k m):G:=h f0 f1 k m
theorem q48 {F0:Prop} (f0:F0) (k:H) (h:F0→H→G:=by exact fun f0 k=>z9 (zDR (lq rfl) f0 rfl rfl) k):G:=h f0 k
theorem q49 {F0:Prop} (f0:F0) {F1:Prop} (f1:F1) (k:H) (h:F0→F1→H→G:=by exact fun f0 f1 k=>z9 (yFZ (lq rfl) f0 f1 rfl) k):G:=h f0 f1 k
theorem q50 (x:AV) (k:DA P r E ops rest (S.put d (.cond (gd false b) x)) J) (ha:GdO o ops S E j t d b false:=by exact rfl) (h:b=false→AOp P r E S o d x:=by exact fun hb=>by subst hb;exact zC (lq rfl) rfl):DA P r E ops (o::rest) S J:=daf x ha h k
theorem q51 {F0:Prop} (f0:F0) (k:H) (h:F0→H→G:=by exact fun f0 k=>z9 (zDQ (lq rfl) f0 rfl) k):G:=h f0 k
theorem q52 {F0:Prop} (f0:F0) (k:H) (h:F0→H→G:=by exact fun f0 k=>vO (xD (lq rfl) f0 rfl) k):G:=h f0 k
theorem q53 {F0:Prop} (f0:F0) {F1:Prop} (f1:F1) (k:H) (m:I) (h:F0→F1→H→I→G:=by exact fun f0 f1 k m=>xa rfl (z2H (lq rfl) f0 f1 rfl rfl) k m):G:=h f0 f1 k m
theorem q54 (x:AV) {F0:Prop} (f0:F0) (k:Sq P r E ops rest (S.put d (.cond (gd true b) x)) J) (ha:GdO o ops S E j t d b true:=by exact rfl) (h:F0→b=true→AOp P r E S o d x:=by exact fun f0 hb=>by subst hb;exact wF (lq rfl) f0 rfl):Sq P r E ops (o::rest) S J:=sqt x ha (h f0) k
theorem q55 (x:AV) (k:Sq P r E ops rest (S.put d (.cond (gd true b) x)) J) (ha:GdO o ops S E j t d b true:=by exact rfl) (h:b=true→AOp P r E S o d x:=by exact fun hb=>by subst hb;exact zID (lq rfl) rfl rfl):Sq P r E ops (o::rest) S J:=sqt x ha h k
theorem q56 {F0:Prop} (f0:F0) (k:H) (h:F0→H→G:=by exact fun f0 k=>xc rfl (zM2 (lq rfl) f0 rfl rfl) k):G:=h f0 k
theorem q58 (k:H) (h:H→G:=by exact fun k=>z9 (zM3 (size:=5) (lq rfl) rfl rfl) k):G:=h k
theorem q59 (x:AV) (k:DA P r E ops rest (S.put d (.cond (gd true b) x)) J) (ha:GdO o ops S E j t d b true:=by exact rfl) (h:b=true→AOp P r E S o d x:=by exact fun hb=>by subst hb;exact zC (lq rfl) rfl):DA P r E ops (o::rest) S J:=dat x ha h k
theorem q60 {F0:Prop} (f0:F0) (k:H) (h:F0→H→G:=by exact fun f0 k=>yF rfl (zLR f0 rfl rfl (lq rfl) rfl rfl rfl) k):G:=h f0 k
theorem q61 {F0:Prop} (f0:F0) (k:H) (h:F0→H→G:=by exact fun f0 k=>vO (zIW (lq rfl) f0 rfl rfl rfl) k):G:=h f0 k
theorem q62 (x:AV) {F0:Prop} (f0:F0) (k:Sq P r E ops rest (S.put d (.cond (gd true b) x)) J) (ha:GdO o ops S E j t d b true:=by exact rfl) (h:F0→b=true→AOp P r E S o d x:=by exact fun f0 hb=>by subst hb;exact xI (lq rfl) f0 rfl rfl):Sq P r E ops (o::rest) S J:=sqt x ha (h f0) k
theorem q63 (k:H) (h:H→G:=by exact fun k=>z9 (zM3 (size:=1) (lq rfl) rfl rfl) k):G:=h k
theorem q64 (x:AV) {F0:Prop} (f0:F0) (k:Sq P r E ops rest (S.put d (.cond (gd false b) x)) J) (ha:GdO o ops S E j t d b false:=by exact rfl) (h:F0→b=false→AOp P r E S o d x:=by exact fun f0 hb=>by subst hb;exact z2K (lq rfl) f0 rfl):Sq P r E ops (o::rest) S J:=sqf x ha (h f0) k
theorem q65 {F0:Prop} (f0:F0) (k:H) (h:F0→H→G:=by exact fun f0 k=>z9 (zPO (lq rfl) f0 rfl rfl (by decide)) k):G:=h f0 k
theorem q66 {F0:Prop} (f0:F0) {F1:Prop} (f1:F1) (k:H) (h:F0→F1→H→G:=by exact fun f0 f1 k=>xc rfl (z2H (lq rfl) f0 f1 rfl rfl) k):G:=h f0 f1 k
theorem q67 {F0:Prop} (f0:F0) {F1:Prop} (f1:F1) (k:H) (h:F0→F1→H→G:=by exact fun f0 f1 k=>vO (zZ (en:=eI) (off:=0) (lq rfl) f0 rfl f1 rfl) k):G:=h f0 f1 k
theorem q68 {F0:Prop} (f0:F0) {F1:Prop} (f1:F1) (k:H) (h:F0→F1→H→G:=by exact fun f0 f1 k=>xc rfl (wX (en:=eSpan) (off:=0) (lq rfl) f0 rfl f1 rfl rfl (by decide)) k):G:=h f0 f1 k
theorem q69 {F0:Prop} (f0:F0) (k:H) (h:F0→H→G:=by exact fun f0 k=>vO (zM2 (lq rfl) f0 rfl rfl) k):G:=h f0 k
theorem q70 (k:H) (h:H→G:=by exact fun k=>z9 (zID (lq rfl) rfl rfl) k):G:=h k
theorem q71 (k:H) (h:H→G:=by exact fun k=>z9 (yHZ (lq rfl) rfl rfl (by decide)) k):G:=h k
theorem q72 (k:H) (h:H→G:=by exact fun k=>z9 (zIY (lq rfl) rfl) k):G:=h k
theorem q73 (x:AV) (k:Sq P r E ops rest (S.put d (.cond (gd true b) x)) J) (ha:GdO o ops S E j t d b true:=by exact rfl) (h:b=true→AOp P r E S o d x:=by exact fun hb=>by subst hb;exact zMW (lq rfl) rfl rfl):Sq P r E ops (o::rest) S J:=sqt x ha h k
theorem q74 {F0:Prop} (f0:F0) {F1:Prop} (f1:F1) (k:H) (h:F0→F1→H→G:=by exact fun f0 f1 k=>xd rfl (z77 f0 rfl rfl rfl rfl f1 rfl) k):G:=h f0 f1 k
theorem q76 {F0:Prop} (f0:F0) {F1:Prop} (f1:F1) (k:H) (m:I) (h:F0→F1→H→I→G:=by exact fun f0 f1 k m=>xa rfl (zI6 (lq rfl) f0 rfl rfl f1 rfl) k m):G:=h f0 f1 k m
theorem q77 {F0:Prop} (f0:F0) (k:H) (m:I) (h:F0→H→I→G:=by exact fun f0 k m=>xa rfl (wD (lq rfl) rfl f0) k m):G:=h f0 k m
theorem q78 {F0:Prop} (f0:F0) (k:H) (h:F0→H→G:=by exact fun f0 k=>z9 (z7X (lq rfl) f0 rfl rfl) k):G:=h f0 k
theorem q79 (x:AV) (k:Sq P r E ops rest (S.put d (.cond (gd true b) x)) J) (ha:GdO o ops S E j t d b true:=by exact rfl) (h:b=true→AOp P r E S o d x:=by exact fun hb=>by subst hb;exact zJL (lq rfl) rfl rfl):Sq P r E ops (o::rest) S J:=sqt x ha h k
theorem q80 {F0:Prop} (f0:F0) {F1:Prop} (f1:F1) (k:H) (h:F0→F1→H→G:=by exact fun f0 f1 k=>z9 (zDC (lq rfl) f0 rfl rfl rfl f1) k):G:=h f0 f1 k
theorem q82 (x:AV) {F0:Prop} (f0:F0) (k:DA P r E ops rest (S.put d (.cond (gd false b) x)) J) (ha:GdO o ops S E j t d b false:=by exact rfl) (h:F0→b=false→AOp P r E S o d x:=by exact fun f0 hb=>by subst hb;exact xD (lq rfl) f0 rfl):DA P r E ops (o::rest) S J:=daf x ha (h f0) k
theorem q83 {F0:Prop} (f0:F0) (k:H) (h:F0→H→G:=by exact fun f0 k=>xc rfl (zTU (lq rfl) f0 rfl rfl rfl rfl (by decide) rfl) k):G:=h f0 k
theorem q84 {F0:Prop} (f0:F0) {F1:Prop} (f1:F1) (k:H) (h:F0→F1→H→G:=by exact fun f0 f1 k=>z9 (zZ (en:=eMapping) (off:=1) (lq rfl) f0 rfl f1 rfl) k):G:=h f0 f1 k
theorem q85 {F0:Prop} (f0:F0) (k:H) (h:F0→H→G:=by exact fun f0 k=>yF rfl (zPL (lq rfl) f0 rfl rfl rfl rfl (by decide) rfl) k):G:=h f0 k
theorem q86 (x:AV) (k:Sq P r E ops rest (S.put d (.cond (gd false b) x)) J) (ha:GdO o ops S E j t d b false:=by exact rfl) (h:b=false→AOp P r E S o d x:=by exact fun hb=>by subst hb;exact zEN (lq rfl) rfl rfl):Sq P r E ops (o::rest) S J:=sqf x ha h k
theorem q87 (k:H) (h:H→G:=by exact fun k=>vO (zEN (lq rfl) rfl rfl) k):G:=h k
theorem q88 (k:H) (h:H→G:=by exact fun k=>vO (zGP (lq rfl) rfl) k):G:=h k
theorem q89 (k:H) (h:H→G:=by exact fun k=>yF rfl (z4Q (lq rfl) rfl rfl) k):G:=h k
theorem q90 {F0:Prop} (f0:F0) {F1:Prop} (f1:F1) (k:H) (h:F0→F1→H→G:=by exact fun f0 f1 k=>z9 (wX (en:=eMapping) (off:=0) (lq rfl) f0 rfl f1 rfl rfl (by decide)) k):G:=h f0 f1 k
theorem q91 {F0:Prop} (f0:F0) (k:H) (h:F0→H→G:=by exact fun f0 k=>z9 (yEL (lq rfl) rfl rfl f0) k):G:=h f0 k
theorem q92 {F0:Prop} (f0:F0) (k:H) (h:F0→H→G:=by exact fun f0 k=>z9 (zK4 (lq rfl) f0 rfl) k):G:=h f0 k
theorem q93 {F0:Prop} (f0:F0) (k:H) (h:F0→H→G:=by exact fun f0 k=>yF rfl (zPM f0 rfl rfl (lq rfl) rfl rfl rfl) k):G:=h f0 k
theorem q94 {F0:Prop} (f0:F0) (k:H) (m:I) (h:F0→H→I→G:=by exact fun f0 k m=>xa rfl (zM2 (lq rfl) f0 rfl rfl) k m):G:=h f0 k m
theorem q95 (k:H) (h:H→G:=by exact fun k=>vO (zN2 (lq rfl) rfl rfl) k):G:=h k
theorem q96 {F0:Prop} (f0:F0) (k:H) (h:F0→H→G:=by exact fun f0 k=>z9 (zIW (lq rfl) f0 rfl rfl rfl) k):G:=h f0 k
theorem q97 (x:AV) {F0:Prop} (f0:F0) (k:DA P r E ops rest (S.put d (.cond (gd true b) x)) J) (ha:GdO o ops S E j t d b true:=by exact rfl) (h:F0→b=true→AOp P r E S o d x:=by exact fun f0 hb=>by subst hb;exact wF (lq rfl) f0 rfl):DA P r E ops (o::rest) S J:=dat x ha (h f0) k
theorem q98 (x:AV) {F0:Prop} (f0:F0) (k:DA P r E ops rest (S.put d (.cond (gd true b) x)) J) (ha:GdO o ops S E j t d b true:=by exact rfl) (h:F0→b=true→AOp P r E S o d x:=by exact fun f0 hb=>by subst hb;exact xI (lq rfl) f0 rfl rfl):DA P r E ops (o::rest) S J:=dat x ha (h f0) k
theorem q99 (x:AV) {F0:Prop} (f0:F0) (k:DA P r E ops rest (S.put d (.cond (gd true b) x)) J) (ha:GdO o ops S E j t d b true:=by exact rfl) (h:F0→b=true→AOp P r E S o d x:=by exact fun f0 hb=>by subst hb;exact xD (lq rfl) f0 rfl):DA P r E ops (o::rest) S J:=dat x ha (h f0) k
theorem zYO {F0:Prop} (f0:F0) (k:H) (h:F0→H→G:=by exact fun f0 k=>vO (zDQ (lq rfl) f0 rfl) k):G:=h f0 k
theorem zYP (x:AV) (k:Sq P r E ops rest (S.put d (.cond (gd true b) x)) J) (ha:GdO o ops S E j t d b true:=by exact rfl) (h:b=true→AOp P r E S o d x:=by exact fun hb=>by subst hb;exact zTO (lq rfl) rfl):Sq P r E ops (o::rest) S J:=sqt x ha h k
theorem zYQ (k:H) (h:H→G:=by exact fun k=>vO (zT5 (lq rfl) rfl rfl) k):G:=h k
theorem zYR {F0:Prop} (f0:F0) {F1:Prop} (f1:F1) (k:H) (m:I) (h:F0→F1→H→I→G:=by exact fun f0 f1 k m=>xa rfl (zFF (lq rfl) f0 rfl rfl rfl f1) k m):G:=h f0 f1 k m
theorem z8O (x:AV) {F0:Prop} (f0:F0) (k:Sq P r E ops rest (S.put d (.cond (gd false b) x)) J) (ha:GdO o ops S E j t d b false:=by exact rfl) (h:F0→b=false→AOp P r E S o d x:=by exact fun f0 hb=>by subst hb;exact xD (lq rfl) f0 rfl):Sq P r E ops (o::rest) S J:=sqf x ha (h f0) k
theorem z01 (x:AV) (k:Sq P r E ops rest (S.put d (.cond (gd false b) x)) J) (ha:GdO o ops S E j t d b false:=by exact rfl) (h:b=false→AOp P r E S o d x:=by exact fun hb=>by subst hb;exact zKC (lq rfl) rfl rfl):Sq P r E ops (o::rest) S J:=sqf x ha h k
theorem z5D (x:AV) (k:Sq P r E ops rest (S.put d (.cond (gd false b) x)) J) (ha:GdO o ops S E j t d b false:=by exact rfl) (h:b=false→AOp P r E S o d x:=by exact fun hb=>by subst hb;exact zJL (lq rfl) rfl rfl):Sq P r E ops (o::rest) S J:=sqf x ha h k
theorem z02 (k:H) (h:H→G:=by exact fun k=>vO (zO3 (lq rfl) rfl rfl) k):G:=h k
theorem yKG (k:H) (h:H→G:=by exact fun k=>z9 (zM3 (size:=4) (lq rfl) rfl rfl) k):G:=h k
theorem z03 (x:AV) (k:Sq P r E ops rest (S.put d (.cond (gd false b) x)) J) (ha:GdO o ops S E j t d b false:=by exact rfl) (h:b=false→AOp P r E S o d x:=by exact fun hb=>by subst hb;exact zTO (lq rfl) rfl):Sq P r E ops (o::rest) S J:=sqf x ha h k
theorem z04 (k:H) (h:H→G:=by exact fun k=>yF rfl (yP (zs:=[(.int IntKind.i64 (0)),(.int IntKind.i64 (0))]) (lq rfl) (by kernel_rfl) rfl rfl) k):G:=h k
theorem yKH (k:H) (h:H→G:=by exact fun k=>yF rfl (yP (zs:=[(.int IntKind.i64 (0)),(.slice none 0 0),(.string ⟨#[]⟩)]) (lq rfl) (by kernel_rfl) rfl rfl) k):G:=h k
theorem z05 {F0:Prop} (f0:F0) (k:H) (h:F0→H→G:=by exact fun f0 k=>z9 (yEK (lq rfl) rfl rfl f0) k):G:=h f0 k
theorem z06 {F0:Prop} (f0:F0) (k:H) (m:I) (h:F0→H→I→G:=by exact fun f0 k m=>xa rfl (zTU (lq rfl) f0 rfl rfl rfl rfl (by decide) rfl) k m):G:=h f0 k m
theorem z8P (x:AV) {F0:Prop} (f0:F0) (k:Sq P r E ops rest (S.put d (.cond (gd true b) x)) J) (ha:GdO o ops S E j t d b true:=by exact rfl) (h:F0→b=true→AOp P r E S o d x:=by exact fun f0 hb=>by subst hb;exact z2K (lq rfl) f0 rfl):Sq P r E ops (o::rest) S J:=sqt x ha (h f0) k
theorem z5E (k:H) (h:H→G:=by exact fun k=>z9 (z0H (lq rfl) rfl rfl) k):G:=h k
theorem z5F (x:AV) (k:DA P r E ops rest (S.put d (.cond (gd true b) x)) J) (ha:GdO o ops S E j t d b true:=by exact rfl) (h:b=true→AOp P r E S o d x:=by exact fun hb=>by subst hb;exact zT5 (lq rfl) rfl rfl):DA P r E ops (o::rest) S J:=dat x ha h k
theorem z5G (k:H) (h:H→G:=by exact fun k=>yF rfl (yP (zs:=[(.int IntKind.i64 (0)),(.int IntKind.i64 (0)),(.int IntKind.i64 (0))]) (lq rfl) (by kernel_rfl) rfl rfl) k):G:=h k
theorem z5H {F0:Prop} (f0:F0) (k:H) (h:F0→H→G:=by exact fun f0 k=>z9 (yF1 (lq rfl) f0 rfl rfl) k):G:=h f0 k
theorem z5I (k:H) (h:H→G:=by exact fun k=>yF rfl (yP (zs:=[(.slice none 0 0)]) (lq rfl) (by kernel_rfl) rfl rfl) k):G:=h k
theorem z5J {F0:Prop} (f0:F0) (k:H) (h:F0→H→G:=by exact fun f0 k=>z9 (z4Y (lq rfl) f0 rfl rfl (by decide)) k):G:=h f0 k
theorem z5K {F0:Prop} (f0:F0) (k:H) (h:F0→H→G:=by exact fun f0 k=>xd rfl (zLR f0 rfl rfl (lq rfl) rfl rfl rfl) k):G:=h f0 k
theorem z5L (k:H) (h:H→G:=by exact fun k=>vO (zGS (lq rfl) rfl) k):G:=h k
theorem z5M (k:H) (h:H→G:=by exact fun k=>vO (zTP (lq rfl) rfl rfl) k):G:=h k
theorem z5N (k:H) (h:H→G:=by exact fun k=>vO (zMW (lq rfl) rfl rfl) k):G:=h k
theorem z5O (x:AV) {F0:Prop} (f0:F0) (k:Sq P r E ops rest (S.put d (.cond (gd true b) x)) J) (ha:GdO o ops S E j t d b true:=by exact rfl) (h:F0→b=true→AOp P r E S o d x:=by exact fun f0 hb=>by subst hb;exact xD (lq rfl) f0 rfl):Sq P r E ops (o::rest) S J:=sqt x ha (h f0) k
theorem z5P {F0:Prop} (f0:F0) {F1:Prop} (f1:F1) (k:H) (h:F0→F1→H→G:=by exact fun f0 f1 k=>vO (zFF (lq rfl) f0 rfl rfl rfl f1) k):G:=h f0 f1 k
theorem z5Q {F0:Prop} (f0:F0) {F1:Prop} (f1:F1) (k:H) (h:F0→F1→H→G:=by exact fun f0 f1 k=>vO (zI6 (lq rfl) f0 rfl rfl f1 rfl) k):G:=h f0 f1 k
theorem z8Q {F0:Prop} (f0:F0) (k:H) (h:F0→H→G:=by exact fun f0 k=>z9 (zQ9 (lq rfl) f0 rfl) k):G:=h f0 k
theorem z8R (k:H) (h:H→G:=by exact fun k=>yF rfl (z4V (lq rfl) rfl) k):G:=h k
theorem z8S {F0:Prop} (f0:F0) {F1:Prop} (f1:F1) (k:H) (h:F0→F1→H→G:=by exact fun f0 f1 k=>z9 (wX (en:=eElement) (off:=0) (lq rfl) f0 rfl f1 rfl rfl (by decide)) k):G:=h f0 f1 k
theorem z8T (k:H) (h:H→G:=by exact fun k=>z9 (yH3 (lq rfl) rfl rfl) k):G:=h k
theorem z8U (k:H) (h:H→G:=by exact fun k=>vO (zQ4 (lq rfl) rfl) k):G:=h k
theorem z8V (k:H) (h:H→G:=by exact fun k=>vO (zOB (lq rfl) rfl) k):G:=h k
theorem z8W (k:H) (m:I) (h:H→I→G:=by exact fun k m=>xb rfl (yP (zs:=[(.int IntKind.i64 (0)),(.int IntKind.i64 (0)),(.int IntKind.i64 (0))]) (lq rfl) (by kernel_rfl) rfl rfl) k m):G:=h k m
theorem z8X (x:AV) (k:Sq P r E ops rest (S.put d (.cond (gd true b) x)) J) (ha:GdO o ops S E j t d b true:=by exact rfl) (h:b=true→AOp P r E S o d x:=by exact fun hb=>by subst hb;exact zMX (lq rfl) rfl rfl):Sq P r E ops (o::rest) S J:=sqt x ha h k
theorem z8Y (x:AV) (k:DA P r E ops rest (S.put d (.cond (gd true b) x)) J) (ha:GdO o ops S E j t d b true:=by exact rfl) (h:b=true→AOp P r E S o d x:=by exact fun hb=>by subst hb;exact zGP (lq rfl) rfl):DA P r E ops (o::rest) S J:=dat x ha h k
theorem z8Z {F0:Prop} (f0:F0) {F1:Prop} (f1:F1) (k:H) (h:F0→F1→H→G:=by exact fun f0 f1 k=>vO (zZ (en:=eMapping) (off:=0) (lq rfl) f0 rfl f1 rfl) k):G:=h f0 f1 k
theorem z80 (k:H) (h:H→G:=by exact fun k=>vO (zT4 (lq rfl) rfl rfl) k):G:=h k
theorem z81 {F0:Prop} (f0:F0) (k:H) (h:F0→H→G:=by exact fun f0 k=>vO (zK4 (lq rfl) f0 rfl) k):G:=h f0 k
theorem z82 (k:H) (h:H→G:=by exact fun k=>z9 (z0I (lq rfl) rfl rfl) k):G:=h k
theorem z83 (k:H) (h:H→G:=by exact fun k=>z9 (zHL (lq rfl) rfl) k):G:=h k
theorem yIQ {F0:Prop} (f0:F0) {F1:Prop} (f1:F1) (k:H) (h:F0→F1→H→G:=by exact fun f0 f1 k=>z9 (zZ (en:=eEntry) (off:=0) (lq rfl) f0 rfl f1 rfl) k):G:=h f0 f1 k
theorem yCL {F0:Prop} (f0:F0) {F1:Prop} (f1:F1) (k:H) (h:F0→F1→H→G:=by exact fun f0 f1 k=>z9 (z7R (lq rfl) f0 rfl rfl f1) k):G:=h f0 f1 k
theorem yCM {F0:Prop} (f0:F0) {F1:Prop} (f1:F1) (k:H) (h:F0→F1→H→G:=by exact fun f0 f1 k=>z9 (wX (en:=eGroup) (off:=0) (lq rfl) f0 rfl f1 rfl rfl (by decide)) k):G:=h f0 f1 k
theorem yCN (k:H) (h:H→G:=by exact fun k=>yF rfl (yP (zs:=[(.string ⟨#[]⟩),(.int IntKind.i64 (0)),(.int IntKind.i64 (0))]) (lq rfl) (by kernel_rfl) rfl rfl) k):G:=h k
theorem yCO {F0:Prop} (f0:F0) {F1:Prop} (f1:F1) (k:H) (h:F0→F1→H→G:=by exact fun f0 f1 k=>yF rfl (zX0 f0 f1 rfl rfl rfl rfl rfl rfl) k):G:=h f0 f1 k
theorem yCP (x:AV) (k:Sq P r E ops rest (S.put d (.cond (gd true b) x)) J) (ha:GdO o ops S E j t d b true:=by exact rfl) (h:b=true→AOp P r E S o d x:=by exact fun hb=>by subst hb;exact zN2 (lq rfl) rfl rfl):Sq P r E ops (o::rest) S J:=sqt x ha h k
theorem yCQ (k:H) (h:H→G:=by exact fun k=>yF rfl (yP (zs:=[(.int IntKind.i64 (0)),(.int IntKind.i64 (0)),(.int IntKind.i64 (0)),(.bool false)]) (lq rfl) (by kernel_rfl) rfl rfl) k):G:=h k
theorem yCR {F0:Prop} (f0:F0) (k:H) (h:F0→H→G:=by exact fun f0 k=>vO (zCK (lq rfl) f0 rfl rfl rfl) k):G:=h f0 k
theorem yGI {F0:Prop} (f0:F0) (k:H) (h:F0→H→G:=by exact fun f0 k=>vO (z2K (lq rfl) f0 rfl) k):G:=h f0 k
theorem yCS (k:H) (h:H→G:=by exact fun k=>z9 (zQ4 (lq rfl) rfl) k):G:=h k
theorem yCT {F0:Prop} (f0:F0) {F1:Prop} (f1:F1) (k:H) (h:F0→F1→H→G:=by exact fun f0 f1 k=>z9 (wX (en:=eSpan) (off:=0) (lq rfl) f0 rfl f1 rfl rfl (by decide)) k):G:=h f0 f1 k
theorem yCU {F0:Prop} (f0:F0) (k:H) (h:F0→H→G:=by exact fun f0 k=>vO (zTU (lq rfl) f0 rfl rfl rfl rfl (by decide) rfl) k):G:=h f0 k
theorem yCV {F0:Prop} (f0:F0) {F1:Prop} (f1:F1) (k:H) (h:F0→F1→H→G:=by exact fun f0 f1 k=>vO (wX (en:=eMapping) (off:=0) (lq rfl) f0 rfl f1 rfl rfl (by decide)) k):G:=h f0 f1 k
theorem yCW {F0:Prop} (f0:F0) {F1:Prop} (f1:F1) (k:H) (m:I) (h:F0→F1→H→I→G:=by exact fun f0 f1 k m=>xa rfl (zDC (lq rfl) f0 rfl rfl rfl f1) k m):G:=h f0 f1 k m
theorem yCX (k:H) (h:H→G:=by exact fun k=>z9 (z2D (lq rfl) rfl rfl) k):G:=h k
theorem yIR {F0:Prop} (f0:F0) (k:H) (h:F0→H→G:=by exact fun f0 k=>yF rfl (yFT (lq rfl) rfl rfl f0) k):G:=h f0 k
theorem yCY {F0:Prop} (f0:F0) (k:H) (h:F0→H→G:=by exact fun f0 k=>z9 (yF6 (lq rfl) f0 rfl rfl) k):G:=h f0 k
theorem yGJ (k:H) (h:H→G:=by exact fun k=>yF rfl (yP (zs:=[(.slice none 0 0),(.slice none 0 0),(.slice none 0 0)]) (lq rfl) (by kernel_rfl) rfl rfl) k):G:=h k
theorem yIS (k:H) (h:H→G:=by exact fun k=>yF rfl (yP (zs:=[(.slice none 0 0),(.slice none 0 0),(.int IntKind.i64 (0)),(.int IntKind.i64 (0)),(.int IntKind.i64 (0))]) (lq rfl) (by kernel_rfl) rfl rfl) k):G:=h k
theorem yCZ (k:H) (h:H→G:=by exact fun k=>vO (zTO (lq rfl) rfl) k):G:=h k
theorem yGK {F0:Prop} (f0:F0) {F1:Prop} (f1:F1) (k:H) (h:F0→F1→H→G:=by exact fun f0 f1 k=>z9 (zZ (en:=(eL eI)) (off:=0) (lq rfl) f0 rfl f1 rfl) k):G:=h f0 f1 k
end
section
variable {G H:Prop}
theorem Q0 (k:H) (h:H→G:=by intro k;refine kF ?_;exact xG k):G:=h k
theorem Q1 (k:H) (h:H→G:=by intro k;refine q1 ?_;exact zK k):G:=h k
theorem Q2 (k:H) (h:H→G:=by intro k;refine Q0 ?_;exact q0 k):G:=h k
theorem Q3 (k:H) (h:H→G:=by intro k;refine Q0 ?_;exact Q1 k):G:=h k
theorem Q4 (k:H) (h:H→G:=by intro k;refine kF ?_;exact Q2 k):G:=h k
theorem Q5 (k:H) (h:H→G:=by intro k;refine zL ?_;exact kF k):G:=h k
theorem Q6 (k:H) (h:H→G:=by intro k;refine q3 ?_;exact zK k):G:=h k
theorem Q7 (k:H) (h:H→G:=by intro k;refine xG ?_;exact q0 k):G:=h k
theorem Q8 (k:H) (h:H→G:=by intro k;refine Q5 ?_;exact yY k):G:=h k
theorem Q9 (k:H) (h:H→G:=by intro k;refine q2 ?_;exact Q1 k):G:=h k
theorem Q10 (k:H) (h:H→G:=by intro k;refine q0 ?_;exact zK k):G:=h k
theorem Q11 (k:H) (h:H→G:=by intro k;refine Q7 ?_;exact Q9 k):G:=h k
theorem Q12 (k:H) (h:H→G:=by intro k;refine Q4 ?_;exact q0 k):G:=h k
theorem Q13 (k:H) (h:H→G:=by intro k;refine q15 ?_;exact zK k):G:=h k
theorem Q14 (k:H) (h:H→G:=by intro k;refine Q3 ?_;exact yY k):G:=h k
theorem Q15 (k:H) (h:H→G:=by intro k;refine Q2 ?_;exact q0 k):G:=h k
theorem Q16 (k:H) (h:H→G:=by intro k;refine Q1 ?_;exact kF k):G:=h k
theorem Q17 (k:H) (h:H→G:=by intro k;refine Q3 ?_;exact zB k):G:=h k
theorem Q18 (k:H) (h:H→G:=by intro k;refine q10 ?_;exact q0 k):G:=h k
theorem Q19 (k:H) (h:H→G:=by intro k;refine Q1 ?_;exact Q2 k):G:=h k
theorem Q20 (k:H) (h:H→G:=by intro k;refine q12 ?_;exact xn [7] k):G:=h k
theorem Q21 (k:H) (h:H→G:=by intro k;refine Q0 ?_;exact Q6 k):G:=h k
theorem Q22 (k:H) (h:H→G:=by intro k;refine Q21 ?_;exact kF k):G:=h k
theorem Q23 (k:H) (h:H→G:=by intro k;refine xG ?_;exact q2 k):G:=h k
theorem Q24 (k:H) (h:H→G:=by intro k;refine Q23 ?_;exact Q10 k):G:=h k
theorem Q25 (k:H) (h:H→G:=by intro k;refine xn [6] ?_;exact Q20 k):G:=h k
theorem Q26 (k:H) (h:H→G:=by intro k;refine Q25 ?_;exact q9 G32 k):G:=h k
theorem Q27 (k:H) (h:H→G:=by intro k;refine q7 ?_;exact q7 k):G:=h k
theorem Q28 (k:H) (h:H→G:=by intro k;refine zL ?_;exact Q11 k):G:=h k
theorem Q29 (k:H) (h:H→G:=by intro k;refine Q8 ?_;exact Q0 k):G:=h k
theorem Q30 (k:H) (h:H→G:=by intro k;refine Q10 ?_;exact yY k):G:=h k
theorem Q31 (k:H) (h:H→G:=by intro k;refine kF ?_;exact Q0 k):G:=h k
theorem Q32 (k:H) (h:H→G:=by intro k;refine kF ?_;exact Q14 k):G:=h k
theorem Q33 (k:H) (h:H→G:=by intro k;refine q29 ?_;exact zK k):G:=h k
theorem Q34 (k:H) (h:H→G:=by intro k;refine Q18 ?_;exact q0 k):G:=h k
theorem Q35 (k:H) (h:H→G:=by intro k;refine Q2 ?_;exact Q1 k):G:=h k
theorem Q36 (k:H) (h:H→G:=by intro k;refine q14 ?_;exact zK k):G:=h k
theorem Q37 (k:H) (h:H→G:=by intro k;refine q18 ?_;exact zK k):G:=h k
theorem Q38 (k:H) (h:H→G:=by intro k;refine xn [12] ?_;exact q9 G62 k):G:=h k
theorem Q39 (k:H) (h:H→G:=by intro k;refine Q1 ?_;exact Q0 k):G:=h k
theorem Q40 (k:H) (h:H→G:=by intro k;refine Q0 ?_;exact q40 k):G:=h k
theorem Q41 (k:H) (h:H→G:=by intro k;refine q14 ?_;exact Q1 k):G:=h k
theorem Q42 (k:H) (h:H→G:=by intro k;refine q32 ?_;exact zK k):G:=h k
theorem Q43 (k:H) (h:H→G:=by intro k;refine Q0 ?_;exact q10 k):G:=h k
theorem Q44 (k:H) (h:H→G:=by intro k;refine xn [11] ?_;exact q9 G62 k):G:=h k
theorem Q45 (k:H) (h:H→G:=by intro k;refine Q44 ?_;exact Q38 k):G:=h k
theorem Q46 (k:H) (h:H→G:=by intro k;refine q1 ?_;exact Q1 k):G:=h k
theorem Q47 (k:H) (h:H→G:=by intro k;refine Q3 ?_;exact Q4 k):G:=h k
theorem Q50 (k:H) (h:H→G:=by intro k;refine zL ?_;exact Q0 k):G:=h k
theorem Q51 (k:H) (h:H→G:=by intro k;refine q41 ?_;exact xZ k):G:=h k
theorem Q52 (k:H) (h:H→G:=by intro k;refine zK ?_;exact Q0 k):G:=h k
theorem Q53 (k:H) (h:H→G:=by intro k;refine Q16 ?_;exact Q0 k):G:=h k
theorem Q54 (k:H) (h:H→G:=by intro k;refine q37 ?_;exact zK k):G:=h k
theorem Q55 (k:H) (h:H→G:=by intro k;refine q4 S23 ?_;exact Q6 k):G:=h k
theorem Q57 (k:H) (h:H→G:=by intro k;refine zL ?_;exact Q24 k):G:=h k
theorem Q58 (k:H) (h:H→G:=by intro k;refine zL ?_;exact Q3 k):G:=h k
theorem Q59 (k:H) (h:H→G:=by intro k;refine Q3 ?_;exact Q2 k):G:=h k
theorem Q60 (k:H) (h:H→G:=by intro k;refine Q12 ?_;exact Q55 k):G:=h k
theorem Q61 (k:H) (h:H→G:=by intro k;refine Q43 ?_;exact Q13 k):G:=h k
theorem Q62 (k:H) (h:H→G:=by intro k;refine Q19 ?_;exact Q33 k):G:=h k
theorem Q63 (k:H) (h:H→G:=by intro k;refine xG ?_;exact Q34 k):G:=h k
theorem Q64 (k:H) (h:H→G:=by intro k;refine xG ?_;exact q10 k):G:=h k
theorem Q65 (k:H) (h:H→G:=by intro k;refine Q8 ?_;exact kF k):G:=h k
theorem Q66 (k:H) (h:H→G:=by intro k;refine Q7 ?_;exact q0 k):G:=h k
theorem Q67 (k:H) (h:H→G:=by intro k;refine xn [2] ?_;exact q66 vZ O22 k):G:=h k
theorem Q68 (k:H) (h:H→G:=by intro k;refine Q67 ?_;exact Q26 k):G:=h k
theorem Q69 (k:H) (h:H→G:=by intro k;refine Q8 ?_;exact Q15 k):G:=h k
theorem Q70 (k:H) (h:H→G:=by intro k;refine q5 zYI ?_;exact q6 O29 k):G:=h k
theorem Q71 (k:H) (h:H→G:=by intro k;refine Q5 ?_;exact Q0 k):G:=h k
theorem Q72 (k:H) (h:H→G:=by intro k;refine Q12 ?_;exact Q6 k):G:=h k
theorem Q73 (k:H) (h:H→G:=by intro k;refine q31 ?_;exact Q1 k):G:=h k
theorem Q74 (k:H) (h:H→G:=by intro k;refine Q3 ?_;exact Q32 k):G:=h k
theorem Q75 (k:H) (h:H→G:=by intro k;refine yY ?_;exact Q15 k):G:=h k
theorem Q76 (k:H) (h:H→G:=by intro k;refine Q16 ?_;exact yY k):G:=h k
theorem Q77 (k:H) (h:H→G:=by intro k;refine q72 ?_;exact q42 k):G:=h k
theorem Q78 (k:H) (h:H→G:=by intro k;refine Q77 ?_;exact q42 k):G:=h k
theorem Q79 (k:H) (h:H→G:=by intro k;refine q45 ?_;exact Q45 k):G:=h k
theorem Q80 (k:H) (h:H→G:=by intro k;refine yY ?_;exact Q2 k):G:=h k
theorem Q81 (k:H) (h:H→G:=by intro k;refine Q7 ?_;exact Q1 k):G:=h k
theorem Q82 (k:H) (h:H→G:=by intro k;refine q0 ?_;exact q0 k):G:=h k
theorem Q83 (k:H) (h:H→G:=by intro k;refine q4 yD ?_;exact Q6 k):G:=h k
theorem Q84 (k:H) (h:H→G:=by intro k;refine Q0 ?_;exact q58 k):G:=h k
theorem Q85 (k:H) (h:H→G:=by intro k;refine q5 zYM ?_;exact q6 O3 k):G:=h k
theorem Q86 (k:H) (h:H→G:=by intro k;refine Q0 ?_;exact Q34 k):G:=h k
theorem Q87 (k:H) (h:H→G:=by intro k;refine q39 ?_;exact zK k):G:=h k
theorem Q88 (k:H) (h:H→G:=by intro k;refine q39 ?_;exact Q1 k):G:=h k
theorem Q89 (k:H) (h:H→G:=by intro k;refine q5 zPC ?_;exact q6 O23 k):G:=h k
theorem Q91 (k:H) (h:H→G:=by intro k;refine Q0 ?_;exact q63 k):G:=h k
theorem Q92 (k:H) (h:H→G:=by intro k;refine q5 zHS ?_;exact q6 O24 k):G:=h k
theorem Q93 (k:H) (h:H→G:=by intro k;refine Q5 ?_;exact Q14 k):G:=h k
theorem Q94 (k:H) (h:H→G:=by intro k;refine q4 yD ?_;exact Q30 k):G:=h k
theorem Q95 (k:H) (h:H→G:=by intro k;refine zL ?_;exact Q4 k):G:=h k
theorem Q96 (k:H) (h:H→G:=by intro k;refine Q16 ?_;exact Q14 k):G:=h k
theorem Q97 (k:H) (h:H→G:=by intro k;refine Q92 ?_;exact q4 S24 k):G:=h k
theorem Q98 (k:H) (h:H→G:=by intro k;refine q87 ?_;exact xZ k):G:=h k
theorem Q99 (k:H) (h:H→G:=by intro k;refine q44 ?_;exact zK k):G:=h k
theorem zVT (k:H) (h:H→G:=by intro k;refine zK ?_;exact Q31 k):G:=h k
theorem zVU (k:H) (h:H→G:=by intro k;refine q5 zEZ ?_;exact q6 O3 k):G:=h k
theorem zVV (k:H) (h:H→G:=by intro k;refine xG ?_;exact Q18 k):G:=h k
theorem z88 (k:H) (h:H→G:=by intro k;refine Q70 ?_;exact q4 S29 k):G:=h k
theorem zYW (k:H) (h:H→G:=by intro k;refine yY ?_;exact Q0 k):G:=h k
theorem zYX (k:H) (h:H→G:=by intro k;refine q60 O3 ?_;exact zK k):G:=h k
theorem yIV (k:H) (h:H→G:=by intro k;refine xm 0 ?_;exact xm 1 k):G:=h k
theorem zYY (k:H) (h:H→G:=by intro k;refine q88 ?_;exact q7 k):G:=h k
theorem z1A (k:H) (h:H→G:=by intro k;refine Q46 ?_;exact Q4 k):G:=h k
theorem z1B (k:H) (h:H→G:=by intro k;refine Q40 ?_;exact q58 k):G:=h k
theorem z1C (k:H) (h:H→G:=by intro k;refine Q3 ?_;exact Q3 k):G:=h k
theorem zYZ (k:H) (h:H→G:=by intro k;refine xn [11] ?_;exact q9 G32 k):G:=h k
theorem z1D (k:H) (h:H→G:=by intro k;refine q5 z8G ?_;exact q6 O30 k):G:=h k
theorem z1E (k:H) (h:H→G:=by intro k;refine q6 O3 ?_;exact q3 k):G:=h k
theorem z1F (k:H) (h:H→G:=by intro k;refine Q0 ?_;exact yKG k):G:=h k
theorem z1G (k:H) (h:H→G:=by intro k;refine Q4 ?_;exact zK k):G:=h k
theorem z1H (k:H) (h:H→G:=by intro k;refine q16 zB1 ?_;exact zK k):G:=h k
theorem z1I (k:H) (h:H→G:=by intro k;refine q4 S23 ?_;exact Q30 k):G:=h k
theorem yKJ (k:H) (h:H→G:=by intro k;refine yKH ?_;exact q16 zKT k):G:=h k
theorem z1J (k:H) (h:H→G:=by intro k;refine yKJ ?_;exact zK k):G:=h k
theorem z5W (k:H) (h:H→G:=by intro k;refine yIV ?_;exact xm 2 k):G:=h k
theorem z1K (k:H) (h:H→G:=by intro k;refine Q86 ?_;exact q0 k):G:=h k
theorem z1L (k:H) (h:H→G:=by intro k;refine q1 ?_;exact Q19 k):G:=h k
theorem yKK (k:H) (h:H→G:=by intro k;refine q2 ?_;exact q49 Tryz.underlying3 Tryz.underlying125 k):G:=h k
theorem yKL (k:H) (h:H→G:=by intro k;refine yKK ?_;exact q71 k):G:=h k
theorem z1M (k:H) (h:H→G:=by intro k;refine yKL ?_;exact q49 Tryz.underlying125 Tryz.underlying3 k):G:=h k
theorem z1N (k:H) (h:H→G:=by intro k;refine q41 ?_;exact Q51 k):G:=h k
theorem z1O (k:H) (h:H→G:=by intro k;refine q16 G49 ?_;exact zK k):G:=h k
theorem yKM (k:H) (h:H→G:=by intro k;refine xn [5] ?_;exact q36 k):G:=h k
theorem z1P (k:H) (h:H→G:=by intro k;refine yKM ?_;exact Q26 k):G:=h k
end
theorem zJB {a0 r:(List Int)} (h:zAK a0=some r):GC Tryz.prog 52 [.d (zS eI a0)] [] [] [.row 5] [(5,.row 3 eI.size false (eI.all r))]:=by
 unfold zAK at h
 cases a0 with
 | nil=>
  refine z72 (by decide) fun B c=>?_
  refine zC7 Tryz.func52 (by kernel_rfl) rfl (lq rfl) (lq rfl) fun w0 I0 hG0 p0=>?_
  refine Q47 ?_
  refine z9 (z43 (lq rfl) Tryz.underlying33 rfl) ?_
  refine zK ?_
  refine zKE rfl ⟨fun c1=>?_,fun c1=>?_⟩
  obtain ⟨rfl,_⟩:=zM5 h
  refine Q3 ?_
  refine zO (xC (t:=2) 5 3 eI.size (lq rfl) (lq rfl) rfl rfl) ?_
  refine zB ?_
  exact ⟨⟨_,_,rfl,rfl,rfl⟩,rfl,trivial⟩
  refine zL ?_
  refine Q0 ?_
  refine q85 yD ?_
  refine q0 ?_
  refine zHK (zVH (t:=6) eI.size (lq rfl) rfl) ?_ (by simp)
  refine yF rfl (yK (en:=eI) (l:=[]) (m:=[]) (lq rfl) yD rfl rfl rfl h (by decide) (by decide) rfl rfl) ?_
  refine Q13 ?_
  refine zB ?_
  exact ⟨⟨_,_,rfl,rfl,rfl⟩,rfl,trivial⟩
 | cons x l=>
  refine zC7 Tryz.func52 (by kernel_rfl) rfl (lq rfl) (lq rfl) fun w0 I0 hG0 p0=>?_
  refine Q47 ?_
  refine z9 (yB4 (lq rfl) Tryz.underlying33 rfl (yF7 (by decide))) ?_
  refine zK ?_
  refine zKE rfl ⟨fun c1=>(by cases c1),fun c1=>?_⟩
  refine Q50 ?_
  refine q85 yD ?_
  refine q0 ?_
  refine yF rfl (yK (en:=eI) (l:=[]) (m:=x::l) (lq rfl) yD rfl rfl rfl h (by decide) (by decide) rfl rfl) ?_
  refine Q13 ?_
  refine zB ?_
  exact ⟨⟨_,_,rfl,rfl,rfl⟩,rfl,trivial⟩
theorem zFT {a0 r} (h:uP a0=some r):zG Tryz.prog 54 [(di a0)] [(db r)]:=by
 refine co Tryz.func54 ?_;intro _ _ _ _
 unfold uP at h
 refine Q59 ?_
 refine q44 ?_
 have ⟨b5,hb5,h⟩:=bE h
 refine z9 ((zC (lq rfl) rfl).bool (oi hb5)) ?_
 refine q13 (.d (di a0)) ?_
 refine q55 (.d (db (decide (a0≤65535)))) ?_
 refine Q41 ?_
 cases h
 refine zB ?_
 exact zI rfl
theorem zMG {a0 r} (h:zA2 a0=some r):zG Tryz.prog 84 [(ds a0)] [(db r)]:=by
 refine co Tryz.func84 ?_;intro _ _ _ _
 unfold zA2 at h
 refine Q47 ?_
 refine z8Q Tryz.underlying9 ?_
 refine Q30 ?_
 have ⟨y1,hy1,h⟩:=bE h
 refine zR y1 (.exit 0) (fun y1=>⟨[(0,.d (ds a0))],[]⟩) .ret (fun y1=>⟨[(2,.d (db y1))],[]⟩) ?_ ?_ ?_
 refine zD (fun x=>⟨[(0,.d (ds a0)),(6,.d (di (a0.length:Int))),(7,.d (di x))],[]⟩) hy1 (wc) ?_
 rintro v7 sy1 p1
 replace p1:j6 a0 v7=some sy1:=p1
 unfold j6 at p1
 refine Q22 ?_
 refine z1 p1 (fun p1=>?_) (fun p1=>?_)
 refine Q8 ?_
 refine Q35 ?_
 refine Q15 ?_
 have ⟨t12,ht12,p1⟩:=bE p1
 refine yCL Tryz.underlying9 ht12 ?_
 refine Q19 ?_
 refine q44 ?_
 have ⟨b15,hb15,p1⟩:=bE p1
 refine z9 ((zC (lq rfl) rfl).bool (oi hb15)) ?_
 refine q13 (.d (dby t12)) ?_
 refine q55 (.d (db (decide (t12≤90)))) ?_
 refine q14 ?_
 have ⟨b19,hb19,p1⟩:=bE p1
 refine z9 ((zC (lq rfl) rfl).bool (oi hb19)) ?_
 refine q38 (.d (dby t12)) ?_
 refine z01 (.d (db (decide (97≤t12)))) ?_
 have ⟨b22,hb22,p1⟩:=bE p1
 refine sqf (.d (db b22)) rfl (fun hb=>by subst hb;exact (zC (lq rfl) rfl).bool (oi hb22)) ?_
 refine jW (x:= .d (dby t12)) rfl rfl rfl (lq rfl) (lq rfl) rfl (fun hb=>by obtain ⟨hb,hb1⟩:=zQ hb;obtain rfl:=gF hb;obtain rfl:b22=true:=hb1;exact zC (lq rfl) rfl) ?_
 refine jW (x:= .d (db (decide (t12≤122)))) rfl rfl rfl (lq rfl) (lq rfl) rfl (fun hb=>by obtain ⟨hb,hb1⟩:=zQ hb;obtain rfl:=gF hb;obtain rfl:b22=true:=hb1;exact zID (lq rfl) rfl rfl) ?_
 refine q86 (.d (db (b22&&(decide (t12≤122))))) ?_
 refine q18 ?_
 have ⟨b27,hb27,p1⟩:=bE p1
 refine z9 ((zC (lq rfl) rfl).bool (oi hb27)) ?_
 refine q38 (.d (dby t12)) ?_
 refine z01 (.d (db (decide (48≤t12)))) ?_
 have ⟨b30,hb30,p1⟩:=bE p1
 refine sqf (.d (db b30)) rfl (fun hb=>by subst hb;exact (zC (lq rfl) rfl).bool (oi hb30)) ?_
 refine jW (x:= .d (dby t12)) rfl rfl rfl (lq rfl) (lq rfl) rfl (fun hb=>by obtain ⟨hb,hb1⟩:=zQ hb;obtain rfl:=gF hb;obtain rfl:b30=true:=hb1;exact zC (lq rfl) rfl) ?_
 refine jW (x:= .d (db (decide (t12≤57)))) rfl rfl rfl (lq rfl) (lq rfl) rfl (fun hb=>by obtain ⟨hb,hb1⟩:=zQ hb;obtain rfl:=gF hb;obtain rfl:b30=true:=hb1;exact zID (lq rfl) rfl rfl) ?_
 refine q86 (.d (db (b30&&(decide (t12≤57))))) ?_
 refine q18 ?_
 have ⟨b35,hb35,p1⟩:=bE p1
 refine z9 ((zC (lq rfl) rfl).bool (oi hb35)) ?_
 refine q38 (.d (dby t12)) ?_
 refine z5D (.d (db (decide (t12=95)))) ?_
 refine q18 ?_
 refine Q42 ?_
 refine z1 p1 (fun p1=>?_) (fun p1=>?_)
 refine Q17 ?_
 cases p1
 intro q;cases q
 exact ⟨rfl,wc⟩
 refine Q57 ?_
 cases p1
 exact wc
 refine zF ?_
 cases p1
 intro q;cases q
 exact ⟨rfl,wc⟩
 rintro y1 rfl
 replace h:=eL h
 refine Q2 ?_
 refine z5E ?_
 have ⟨b43,hb43,h⟩:=bE h
 refine z9 ((zC (lq rfl) rfl).bool (oi hb43)) ?_
 refine q13 (.d (ds a0)) ?_
 refine sqt (.d (di (a0.length:Int))) rfl (fun hb=>by subst hb;exact zQ9 (s:=a0) (lq rfl) Tryz.underlying9 rfl) ?_
 refine q55 (.d (db (decide ((a0.length:Int)≤32)))) ?_
 refine Q41 ?_
 cases h
 refine zB ?_
 exact zI rfl
 rintro y1 rfl
 replace h:=eR h
 cases h
 exact zI rfl
theorem zIL {a0 r} (h:wA a0=some r):zG Tryz.prog 55 [(eCollation.dv a0)] [(di r)]:=by
 refine co Tryz.func55 ?_;intro _ _ _ _
 unfold wA at h
 refine Q84 ?_
 refine Q53 ?_
 refine z1D ?_
 refine q4 S30 ?_
 refine Q30 ?_
 have ⟨y1,hy1,h⟩:=bE h
 refine zR y1 (.exit 0) (fun y1=>⟨[(1,.d (.pt (eCollation.cells a0)))],[]⟩) .ret (fun y1=>⟨[(2,.d (di y1))],[]⟩) ?_ ?_ ?_
 refine zD (fun x=>⟨[(1,.d (.pt (eCollation.cells a0))),(13,.d (zS eGroup a0.Groups)),(14,.d (di (a0.Groups.length:Int))),(15,.d (di x))],[]⟩) hy1 (wc) ?_
 rintro v15 sy1 p1
 replace p1:jI a0 v15=some sy1:=p1
 unfold jI at p1
 refine Q22 ?_
 refine z1 p1 (fun p1=>?_) (fun p1=>?_)
 refine Q29 ?_
 have ⟨t17,ht17,p1⟩:=bE p1
 refine q11 S30 ht17 ?_
 refine yCM zYG ht17 ?_
 refine yCN ?_
 refine q16 zYG ?_
 refine zK ?_
 refine zO (z2 (t:=4) (lq rfl) rfl rfl rfl) ?_
 refine Q0 ?_
 refine q5 zMD ?_
 refine q6 O9 ?_
 have ⟨t21,ht21,p1⟩:=bE p1
 refine q8 (zMG ht21) ?_
 refine Q42 ?_
 refine z1 p1 (fun p1=>?_) (fun p1=>?_)
 refine Q17 ?_
 cases p1
 intro q;cases q
 exact ⟨rfl,wc⟩
 refine Q57 ?_
 cases p1
 exact wc
 refine zF ?_
 cases p1
 intro q;cases q
 exact ⟨rfl,wc⟩
 rintro y1 rfl
 replace h:=eL h
 refine Q0 ?_
 refine z8R ?_
 refine Q13 ?_
 refine Q31 ?_
 refine z1D ?_
 refine q4 S30 ?_
 refine Q30 ?_
 have ⟨y2,hy2,h⟩:=bE h
 refine zR y2 (.exit 2) (fun y2=>⟨[(1,.d (.pt (eCollation.cells a0)))],[]⟩) .ret (fun y2=>⟨[(2,.d (di y2))],[]⟩) ?_ ?_ ?_
 refine zD (fun x=>⟨[(1,.d (.pt (eCollation.cells a0))),(5,.row 24),(26,.d (zS eGroup a0.Groups)),(27,.d (di (a0.Groups.length:Int))),(28,.d (di x.1))],[(24,.map (wY kS eB x.2))]⟩) hy2 (wc) ?_
 rintro ⟨v28,r24⟩ sy2 p2
 replace p2:k7 a0 v28 r24=some sy2:=p2
 unfold k7 at p2
 refine Q22 ?_
 refine z1 p2 (fun p2=>?_) (fun p2=>?_)
 refine Q29 ?_
 have ⟨t30,ht30,p2⟩:=bE p2
 refine q11 S30 ht30 ?_
 refine yCM zYG ht30 ?_
 refine yCN ?_
 refine q16 zYG ?_
 refine zK ?_
 refine zO (z2 (t:=7) (lq rfl) rfl rfl rfl) ?_
 refine Q31 ?_
 refine q10 ?_
 refine q5 zMD ?_
 refine q6 O9 ?_
 refine z9 (z7V (kv:=kS) (ev:=eB) (mp:=r24) (k:=t30.Name) (zero:=false) (lq rfl) yIG K9 rfl rfl rfl (fun _ _=> .v _)) ?_
 refine zK ?_
 refine z1 p2 (fun p2=>?_) (fun p2=>?_)
 refine Q17 ?_
 cases p2
 intro q;cases q
 exact ⟨rfl,wc⟩
 refine zL<|Q64 ?_
 refine q5 zMD ?_
 refine q6 O9 ?_
 refine yCO yIG K9 ?_
 refine zK<|Q24 ?_
 cases p2
 exact wc
 refine zF ?_
 cases p2
 intro q;cases q
 exact ⟨rfl,wc⟩
 rintro y2 rfl
 replace h:=eL h
 refine Q31 ?_
 refine z1D ?_
 refine q4 S30 ?_
 refine Q30 ?_
 have ⟨y3,hy3,h⟩:=bE h
 refine zR y3 (.exit 4) (fun y3=>⟨[(1,.d (.pt (eCollation.cells a0)))],[]⟩) .ret (fun y3=>⟨[(2,.d (di y3))],[]⟩) ?_ ?_ ?_
 refine zD (fun x=>⟨[(1,.d (.pt (eCollation.cells a0))),(41,.d (zS eGroup a0.Groups)),(42,.d (di (a0.Groups.length:Int))),(43,.d (di x))],[]⟩) hy3 (wc) ?_
 rintro v43 sy3 p3
 replace p3:jJ a0 v43=some sy3:=p3
 unfold jJ at p3
 refine Q22 ?_
 refine z1 p3 (fun p3=>?_) (fun p3=>?_)
 refine Q29 ?_
 have ⟨t45,ht45,p3⟩:=bE p3
 refine q11 S30 ht45 ?_
 refine yCM zYG ht45 ?_
 refine yCN ?_
 refine q16 zYG ?_
 refine zK ?_
 refine zO (z2 (t:=9) (lq rfl) rfl rfl rfl) ?_
 refine Q0 ?_
 refine q5 zOF ?_
 refine z1E ?_
 have ⟨b50,hb50,p3⟩:=bE p3
 refine z9 ((zC (lq rfl) rfl).bool (oi hb50)) ?_
 refine q25 (.ip (eGroup.cells t45) (0+2)) zOG ?_
 refine q26 (.d (di t45.Hi)) O3 ?_
 refine q25 (.ip (eGroup.cells t45) (0+1)) zOF ?_
 refine q26 (.d (di t45.Lo)) O3 ?_
 refine sqf (.d (db (decide (t45.Hi < t45.Lo)))) rfl (fun hb=>by subst hb;exact zMW (lq rfl) rfl rfl) ?_
 refine q18 ?_
 have ⟨b57,hb57,p3⟩:=bE p3
 refine z9 ((zC (lq rfl) rfl).bool (oi hb57)) ?_
 refine q25 (.ip (eGroup.cells t45) (0+2)) zOG ?_
 refine q26 (.d (di t45.Hi)) O3 ?_
 refine q25 (.ip (eCollation.cells a0) (0+2)) zLZ ?_
 refine q26 (.d (di a0.Base)) O3 ?_
 refine z01 (.d (db (decide (a0.Base≤t45.Hi)))) ?_
 refine Q37 ?_
 refine z1 p3 (fun p3=>?_) (fun p3=>?_)
 refine Q17 ?_
 cases p3
 intro q;cases q
 exact ⟨rfl,wc⟩
 refine Q57 ?_
 cases p3
 exact wc
 refine zF ?_
 cases p3
 intro q;cases q
 exact ⟨rfl,wc⟩
 rintro y3 rfl
 replace h:=eL h
 refine Q31 ?_
 refine z1D ?_
 refine q4 S30 ?_
 refine Q30 ?_
 have ⟨y4,hy4,h⟩:=bE h
 refine zR y4 (.exit 6) (fun y4=>⟨[],[]⟩) .ret (fun y4=>⟨[(2,.d (di y4))],[]⟩) ?_ ?_ ?_
 refine zD (fun x=>⟨[(1,.d (.pt (eCollation.cells a0))),(66,.d (zS eGroup a0.Groups)),(67,.d (di (a0.Groups.length:Int))),(68,.d (di x))],[]⟩) hy4 (wc) ?_
 rintro v68 sy4 p4
 replace p4:jK a0 v68=some sy4:=p4
 unfold jK at p4
 refine Q22 ?_
 refine z1 p4 (fun p4=>?_) (fun p4=>?_)
 refine Q8 ?_
 refine Q2 ?_
 have ⟨t71,ht71,p4⟩:=bE p4
 refine q11 S30 ht71 ?_
 refine yCM zYG ht71 ?_
 refine yCN ?_
 refine q1 ?_
 refine q16 zYG ?_
 refine zK ?_
 refine zO (z2 (t:=11) (lq rfl) rfl rfl rfl) ?_
 refine kF ?_
 refine z3 MX rfl ?_
 refine q7 ?_
 refine z02 ?_
 have ⟨b75,hb75,p4⟩:=bE p4
 refine vO ((zC (lq rfl) rfl).bool (oi hb75)) ?_
 refine q97 (.ip (eGroup.cells t71) (0+1)) zOF ?_
 refine q98 (.d (di t71.Lo)) O3 ?_
 refine q97 (.ip (eCollation.cells a0) (0+1)) z8G ?_
 refine q98 (.d (zS eGroup a0.Groups)) O30 ?_
 refine q59 (.d (di v68)) ?_
 refine z5F (.d (di (wi (v68 - 1)))) ?_
 have ⟨t82,ht82,p4⟩:=bE p4
 refine dat (.ip (eGroup.all a0.Groups) ((wi (v68 - 1)).toNat*eGroup.size)) rfl (fun hb=>by subst hb;exact kN (en:=eGroup) (lq rfl) S30 rfl rfl ht82) ?_
 refine q99 (.ip (eGroup.all a0.Groups) ((wi (v68 - 1)).toNat*eGroup.size+2)) zOG ?_
 refine dat (.d (di t82.Hi)) rfl (fun hb=>by subst hb;exact zZ (en:=eGroup) (l:=a0.Groups) (i:=(wi (v68 - 1))) (v:=t82) (off:=2) (lq rfl) O3 rfl ht82 rfl) ?_
 refine dat (.d (di (wi (t82.Hi+1)))) rfl (fun hb=>by subst hb;exact zT4 (lq rfl) rfl rfl) ?_
 refine dat (.d (db (!decide (t71.Lo=(wi (t82.Hi+1)))))) rfl (fun hb=>by subst hb;exact zMX (lq rfl) rfl rfl) ?_
 refine Q98 ?_
 refine z1 p4 (fun p4=>?_) (fun p4=>?_)
 refine Q17 ?_
 cases p4
 intro q;cases q
 exact ⟨rfl,wc⟩
 refine Q57 ?_
 cases p4
 exact wc
 refine zF ?_
 cases p4
 intro q;cases q
 exact ⟨rfl,wc⟩
 rintro y4 rfl
 replace h:=eL h
 refine Q3 ?_
 cases h
 refine zB ?_
 exact zI rfl
 rintro y4 rfl
 replace h:=eR h
 cases h
 exact zI rfl
 rintro y3 rfl
 replace h:=eR h
 cases h
 exact zI rfl
 rintro y2 rfl
 replace h:=eR h
 cases h
 exact zI rfl
 rintro y1 rfl
 replace h:=eR h
 cases h
 exact zI rfl
theorem zCF {a0 r} (h:vP a0=some r):zG Tryz.prog 85 [(di a0)] [(db r)]:=by
 refine co Tryz.func85 ?_;intro _ _ _ _
 unfold vP at h
 refine Q59 ?_
 refine q44 ?_
 have ⟨b5,hb5,h⟩:=bE h
 refine z9 ((zC (lq rfl) rfl).bool (oi hb5)) ?_
 refine q13 (.d (di a0)) ?_
 refine q55 (.d (db (decide (a0≤1114111)))) ?_
 refine Q41 ?_
 cases h
 refine zB ?_
 exact zI rfl
theorem zPU {a0 r} (h:zDD a0=some r):zG Tryz.prog 86 [(eElement.dv a0)] [(di r)]:=by
 refine co Tryz.func86 ?_;intro _ _ _ _
 unfold zDD at h
 refine z1F ?_
 refine Q53 ?_
 refine Q85 ?_
 refine q5 zM9 ?_
 refine q6 O3 ?_
 refine q5 zNA ?_
 refine q6 O3 ?_
 refine q78 zOD ?_
 refine Q30 ?_
 have ⟨y1,hy1,h⟩:=bE h
 refine zR y1 (.exit 0) (fun y1=>⟨[(1,.d (.pt (eElement.cells a0)))],[]⟩) .ret (fun y1=>⟨[(2,.d (di y1))],[]⟩) ?_ ?_ ?_
 refine zD (fun x=>⟨[(1,.d (.pt (eElement.cells a0))),(11,.d (eA3Int.dv ({x0:=a0.Primary,x1:=a0.Secondary,x2:=a0.Tertiary}:A3Int))),(12,.d (di x))],[]⟩) hy1 (wc) ?_
 rintro v12 sy1 p1
 replace p1:uB a0 v12=some sy1:=p1
 unfold uB at p1
 refine Q22 ?_
 refine z1 p1 (fun p1=>?_) (fun p1=>?_)
 refine Q29 ?_
 have ⟨t14,ht14,p1⟩:=bE p1
 refine z9 (zKN (en:=eI) (l:=[({x0:=a0.Primary,x1:=a0.Secondary,x2:=a0.Tertiary}:A3Int).x0,({x0:=a0.Primary,x1:=a0.Secondary,x2:=a0.Tertiary}:A3Int).x1,({x0:=a0.Primary,x1:=a0.Secondary,x2:=a0.Tertiary}:A3Int).x2]) (lq rfl) zOD O3 (fun _=>rfl) rfl rfl rfl ht14) ?_
 refine Q19 ?_
 refine q3 ?_
 have ⟨b17,hb17,p1⟩:=bE p1
 refine z9 ((zC (lq rfl) rfl).bool (oi hb17)) ?_
 refine q38 (.d (di t14)) ?_
 refine q43 (.d (db (decide (65535 < t14)))) ?_
 refine Q37 ?_
 refine z1 p1 (fun p1=>?_) (fun p1=>?_)
 refine Q17 ?_
 cases p1
 intro q;cases q
 exact ⟨rfl,wc⟩
 refine Q57 ?_
 cases p1
 exact wc
 refine zF ?_
 cases p1
 intro q;cases q
 exact ⟨rfl,wc⟩
 rintro y1 rfl
 replace h:=eL h
 refine kF<|zYW ?_
 refine Q85 ?_
 refine q29 ?_
 have ⟨b26,hb26,h⟩:=bE h
 refine z9 ((zC (lq rfl) rfl).bool (oi hb26)) ?_
 refine q54 (.ip (eElement.cells a0) (0+1)) zM9 ?_
 refine q62 (.d (di a0.Secondary)) O3 ?_
 refine q79 (.d (db (decide (a0.Secondary=0)))) ?_
 have ⟨b30,hb30,h⟩:=bE h
 refine sqt (.d (db b30)) rfl (fun hb=>by subst hb;exact (zC (lq rfl) rfl).bool (oi hb30)) ?_
 refine jW (x:= .ip (eElement.cells a0) (0+2)) rfl rfl rfl (lq rfl) (lq rfl) rfl (fun hb=>by obtain ⟨hb,hb1⟩:=zQ hb;obtain rfl:b26=true:=hb;obtain rfl:=gF hb1;exact wF (lq rfl) zNA rfl) ?_
 refine jW (x:= .d (di a0.Tertiary)) rfl rfl rfl (lq rfl) (lq rfl) rfl (fun hb=>by obtain ⟨hb,hb1⟩:=zQ hb;obtain rfl:b26=true:=hb;obtain rfl:=gF hb1;exact xI (lq rfl) O3 rfl rfl) ?_
 refine jW (x:= .d (db (decide (a0.Tertiary=0)))) rfl rfl rfl (lq rfl) (lq rfl) rfl (fun hb=>by obtain ⟨hb,hb1⟩:=zQ hb;obtain rfl:b26=true:=hb;obtain rfl:=gF hb1;exact zJL (lq rfl) rfl rfl) ?_
 refine yCP (.d (db (b30 ||(decide (a0.Tertiary=0))))) ?_
 refine Q41 ?_
 refine z1 h (fun h=>?_) (fun h=>?_)
 refine Q3 ?_
 cases h
 refine zB ?_
 exact zI rfl
 refine Q0 ?_
 refine q5 zM9 ?_
 refine q6 O3 ?_
 refine q29 ?_
 have ⟨b40,hb40,h⟩:=bE h
 refine z9 ((zC (lq rfl) rfl).bool (oi hb40)) ?_
 refine q54 (.ip (eElement.cells a0) (0+2)) zNA ?_
 refine q62 (.d (di a0.Tertiary)) O3 ?_
 refine q79 (.d (db (decide (a0.Tertiary=0)))) ?_
 refine Q41 ?_
 refine z1 h (fun h=>?_) (fun h=>?_)
 refine Q3 ?_
 cases h
 refine zB ?_
 exact zI rfl
 refine Q0 ?_
 refine q5 zUI ?_
 refine q6 O4 ?_
 have ⟨b48,hb48,h⟩:=bE h
 refine z9 ((zC (lq rfl) rfl).bool (oi hb48)) ?_
 refine q54 (.ip (eElement.cells a0) (0+0)) zYM ?_
 refine q62 (.d (di a0.Primary)) O3 ?_
 refine q79 (.d (db (decide (a0.Primary=0)))) ?_
 refine Q41 ?_
 refine z1 h (fun h=>?_) (fun h=>?_)
 refine Q3 ?_
 cases h
 refine zB ?_
 exact zI rfl
 refine Q58 ?_
 cases h
 refine zB ?_
 exact zI rfl
 rintro y1 rfl
 replace h:=eR h
 cases h
 exact zI rfl
theorem zJC {a0 a1 r} (h:wZ a0 a1=some r):zG Tryz.prog 56 [(eEntry.dv a0),(di a1)] [(di r)]:=by
 refine co Tryz.func56 ?_;intro _ _ _ _
 unfold wZ at h
 refine Q0 ?_
 refine z9 (zM3 (size:=2) (lq rfl) rfl rfl) ?_
 refine Q53 ?_
 refine q5 zG1 ?_
 refine q6 O33 ?_
 refine q4 yD ?_
 refine q3 ?_
 have ⟨b16,hb16,h⟩:=bE h
 refine z9 ((zC (lq rfl) rfl).bool (oi hb16)) ?_
 refine q25 (.ip (eEntry.cells a0) (0+0)) zG1 ?_
 refine q26 (.d (zS eI a0.Codes)) O33 ?_
 refine q64 (.d (di (a0.Codes.length:Int))) yD ?_
 refine q43 (.d (db (decide (8 < (a0.Codes.length:Int))))) ?_
 refine q18 ?_
 have ⟨b22,hb22,h⟩:=bE h
 refine z9 ((zC (lq rfl) rfl).bool (oi hb22)) ?_
 refine q25 (.ip (eEntry.cells a0) (0+1)) zKU ?_
 refine q26 (.d (zS eElement a0.Elements)) O39 ?_
 refine q64 (.d (di (a0.Elements.length:Int))) S39 ?_
 refine q43 (.d (db (decide (16 < (a0.Elements.length:Int))))) ?_
 refine Q37 ?_
 refine z1 h (fun h=>?_) (fun h=>?_)
 refine Q3 ?_
 cases h
 refine zB ?_
 exact zI rfl
 refine Q71 ?_
 refine q5 zG1 ?_
 refine q6 O33 ?_
 refine Q94 ?_
 have ⟨y1,hy1,h⟩:=bE h
 refine zR y1 (.exit 0) (fun y1=>⟨[(1,.d (di a1)),(2,.d (.pt (eEntry.cells a0)))],[]⟩) .ret (fun y1=>⟨[(4,.d (di y1))],[]⟩) ?_ ?_ ?_
 refine zD (fun x=>⟨[(1,.d (di a1)),(2,.d (.pt (eEntry.cells a0))),(29,.d (zS eI a0.Codes)),(30,.d (di (a0.Codes.length:Int))),(31,.d (di x))],[]⟩) hy1 (wc) ?_
 rintro v31 sy1 p1
 replace p1:k8 a0 v31=some sy1:=p1
 unfold k8 at p1
 refine Q22 ?_
 refine z1 p1 (fun p1=>?_) (fun p1=>?_)
 refine Q29 ?_
 have ⟨t33,ht33,p1⟩:=bE p1
 refine q11 yD ht33 ?_
 refine q35 O3 ht33 ?_
 refine Q19 ?_
 have ⟨t36,ht36,p1⟩:=bE p1
 refine q8 (zCF ht36) ?_
 refine Q42 ?_
 refine z1 p1 (fun p1=>?_) (fun p1=>?_)
 refine Q17 ?_
 cases p1
 intro q;cases q
 exact ⟨rfl,wc⟩
 refine Q57 ?_
 cases p1
 exact wc
 refine zF ?_
 cases p1
 intro q;cases q
 exact ⟨rfl,wc⟩
 rintro y1 rfl
 replace h:=eL h
 refine Q31 ?_
 refine q5 zKU ?_
 refine q6 O39 ?_
 refine q4 S39 ?_
 refine Q30 ?_
 have ⟨y2,hy2,h⟩:=bE h
 refine zR y2 (.exit 2) (fun y2=>⟨[(1,.d (di a1)),(2,.d (.pt (eEntry.cells a0)))],[]⟩) .ret (fun y2=>⟨[(4,.d (di y2))],[]⟩) ?_ ?_ ?_
 refine zD (fun x=>⟨[(1,.d (di a1)),(2,.d (.pt (eEntry.cells a0))),(40,.d (zS eElement a0.Elements)),(41,.d (di (a0.Elements.length:Int))),(42,.d (di x))],[]⟩) hy2 (wc) ?_
 rintro v42 sy2 p2
 replace p2:jS a0 v42=some sy2:=p2
 unfold jS at p2
 refine Q22 ?_
 refine z1 p2 (fun p2=>?_) (fun p2=>?_)
 refine Q29 ?_
 have ⟨t44,ht44,p2⟩:=bE p2
 refine q11 S39 ht44 ?_
 refine z8S G64 ht44 ?_
 refine yCQ ?_
 refine q16 G64 ?_
 refine zK ?_
 refine zO (z2 (t:=8) (lq rfl) rfl rfl rfl) ?_
 refine Q0 ?_
 refine q21 G64 ?_
 have ⟨t47,ht47,p2⟩:=bE p2
 refine q8 (zPU ht47) ?_
 refine Q62 ?_
 refine z1 p2 (fun p2=>?_) (fun p2=>?_)
 refine Q35 ?_
 refine zB ?_
 cases p2
 intro q;cases q
 exact ⟨rfl,wc⟩
 refine Q57 ?_
 cases p2
 exact wc
 refine zF ?_
 cases p2
 intro q;cases q
 exact ⟨rfl,wc⟩
 rintro y2 rfl
 replace h:=eL h
 refine Q31 ?_
 refine q5 zKU ?_
 refine q6 O39 ?_
 refine q4 S39 ?_
 refine Q30 ?_
 have ⟨y3,hy3,h⟩:=bE h
 refine zR y3 (.exit 4) (fun y3=>⟨[],[]⟩) .ret (fun y3=>⟨[(4,.d (di y3))],[]⟩) ?_ ?_ ?_
 refine zD (fun x=>⟨[(1,.d (di a1)),(53,.d (zS eElement a0.Elements)),(54,.d (di (a0.Elements.length:Int))),(55,.d (di x))],[]⟩) hy3 (wc) ?_
 rintro v55 sy3 p3
 replace p3:k9 a0 a1 v55=some sy3:=p3
 unfold k9 at p3
 refine Q22 ?_
 refine z1 p3 (fun p3=>?_) (fun p3=>?_)
 refine Q29 ?_
 have ⟨t57,ht57,p3⟩:=bE p3
 refine q11 S39 ht57 ?_
 refine z8S G64 ht57 ?_
 refine yCQ ?_
 refine q16 G64 ?_
 refine zK ?_
 refine zO (z2 (t:=11) (lq rfl) rfl rfl rfl) ?_
 refine Q0 ?_
 refine Q85 ?_
 refine q0 ?_
 refine Q99 ?_
 refine z1 p3 (fun p3=>?_) (fun p3=>?_)
 refine Q17 ?_
 cases p3
 intro q;cases q
 exact ⟨rfl,wc⟩
 refine Q57 ?_
 cases p3
 exact wc
 refine zF ?_
 cases p3
 intro q;cases q
 exact ⟨rfl,wc⟩
 rintro y3 rfl
 replace h:=eL h
 refine Q3 ?_
 cases h
 refine zB ?_
 exact zI rfl
 rintro y3 rfl
 replace h:=eR h
 cases h
 exact zI rfl
 rintro y2 rfl
 replace h:=eR h
 cases h
 exact zI rfl
 rintro y1 rfl
 replace h:=eR h
 cases h
 exact zI rfl
theorem zJS {a0 r} (h:zDE a0=some r):zG Tryz.prog 116 [(di a0)] [(db r)]:=by
 refine co Tryz.func116 ?_;intro _ _ _ _
 unfold zDE at h
 refine Q3 ?_
 refine Q15 ?_
 refine q29 ?_
 refine Q1 ?_
 cases h
 refine zB ?_
 exact zI rfl
theorem xV {a0 a1 r} (h:jG a0 a1=some r):zG Tryz.prog 87 [(di a0),(di a1)] [(di r)]:=by
 refine co Tryz.func87 ?_;intro _ _ _ _
 unfold jG at h
 refine Q59 ?_
 have ⟨t8,ht8,h⟩:=bE h
 refine q8 (zJS ht8) ?_
 refine Q19 ?_
 have ⟨t10,ht10,h⟩:=bE h
 refine q8 (zJS ht10) ?_
 refine Q1 ?_
 refine z1G ?_
 refine z1 h (fun h=>?_) (fun h=>?_)
 refine z1G ?_
 refine z1 h (fun h=>?_) (fun h=>?_)
 refine Q3 ?_
 cases h
 refine zB ?_
 exact zI rfl
 refine Q58 ?_
 cases h
 refine zB ?_
 exact zI rfl
 refine Q95 ?_
 refine zK ?_
 refine z1 h (fun h=>?_) (fun h=>?_)
 refine Q3 ?_
 cases h
 refine zB ?_
 exact zI rfl
 refine zL<|Q72 ?_
 refine z1 h (fun h=>?_) (fun h=>?_)
 refine Q3 ?_
 cases h
 refine zB ?_
 exact zI rfl
 refine zL<|Q12 ?_
 refine Q54 ?_
 refine z1 h (fun h=>?_) (fun h=>?_)
 refine Q3 ?_
 cases h
 refine zB ?_
 exact zI rfl
 refine Q58 ?_
 cases h
 refine zB ?_
 exact zI rfl
theorem zLL {a0 a1 r} (h:zAI a0 a1=some r):zG Tryz.prog 57 [(zS eI a0),(zS eI a1)] [(di r)]:=by
 refine co Tryz.func57 ?_;intro _ _ _ _
 unfold zAI at h
 refine Q47 ?_
 refine q4 yD ?_
 refine q0 ?_
 refine q4 yD ?_
 refine z8T ?_
 refine Q30 ?_
 have ⟨y1,hy1,h⟩:=bE h
 refine zR y1 (.exit 0) (fun y1=>⟨[(0,.d (zS eI a0)),(1,.d (zS eI a1))],[]⟩) .ret (fun y1=>⟨[(4,.d (di y1))],[]⟩) ?_ ?_ ?_
 refine zD (fun x=>⟨[(0,.d (zS eI a0)),(1,.d (zS eI a1)),(10,.d (di (min (a0.length:Int) (a1.length:Int)))),(11,.d (di x))],[]⟩) hy1 (wc) ?_
 rintro v11 sy1 p1
 replace p1:xK a0 a1 v11=some sy1:=p1
 unfold xK at p1
 refine Q22 ?_
 refine z1 p1 (fun p1=>?_) (fun p1=>?_)
 refine Q8 ?_
 refine Q2 ?_
 refine Q16 ?_
 refine z3 MX rfl ?_
 refine Q27 ?_
 have ⟨t16,ht16,p1⟩:=bE p1
 refine q23 yD ht16 ?_
 refine q67 O3 ht16 ?_
 refine Q27 ?_
 have ⟨t20,ht20,p1⟩:=bE p1
 refine q23 yD ht20 ?_
 refine q67 O3 ht20 ?_
 refine vO (zMX (lq rfl) rfl rfl) ?_
 refine xZ ?_
 refine z1 p1 (fun p1=>?_) (fun p1=>?_)
 refine kF ?_
 refine z3 MX rfl ?_
 refine Q27 ?_
 have ⟨t25,ht25,p1⟩:=bE p1
 refine q23 yD ht25 ?_
 refine q67 O3 ht25 ?_
 refine Q27 ?_
 have ⟨t29,ht29,p1⟩:=bE p1
 refine q23 yD ht29 ?_
 refine q67 O3 ht29 ?_
 have ⟨t31,ht31,p1⟩:=bE p1
 refine q22 (xV ht31) ?_
 refine Q51 ?_
 refine zB ?_
 cases p1
 intro q;cases q
 exact ⟨rfl,wc⟩
 refine Q57 ?_
 cases p1
 exact wc
 refine zF ?_
 cases p1
 intro q;cases q
 exact ⟨rfl,wc⟩
 rintro y1 rfl
 replace h:=eL h
 refine Q2 ?_
 refine q4 yD ?_
 refine q0 ?_
 refine q4 yD ?_
 have ⟨t37,ht37,h⟩:=bE h
 refine q8 (xV ht37) ?_
 refine Q1 ?_
 cases h
 refine zB ?_
 exact zI rfl
 rintro y1 rfl
 replace h:=eR h
 cases h
 exact zI rfl
theorem zNC {a0 r} (h:u0 a0=some r):zG Tryz.prog 25 [(eCollation.dv a0)] [(di r)]:=by
 refine co Tryz.func25 ?_;intro _ _ _ _
 unfold u0 at h
 refine Q84 ?_
 refine Q53 ?_
 refine q5 zLZ ?_
 refine z1E ?_
 have ⟨b10,hb10,h⟩:=bE h
 refine z9 ((zC (lq rfl) rfl).bool (oi hb10)) ?_
 refine q25 (.ip (eCollation.cells a0) (0+2)) zLZ ?_
 refine q26 (.d (di a0.Base)) O3 ?_
 refine q43 (.d (db (decide (65502 < a0.Base)))) ?_
 refine q18 ?_
 have ⟨b15,hb15,h⟩:=bE h
 refine z9 ((zC (lq rfl) rfl).bool (oi hb15)) ?_
 refine q25 (.ip (eCollation.cells a0) (0+3)) z2U ?_
 refine q26 (.d (di a0.Second)) O3 ?_
 have ⟨t18,ht18,h⟩:=bE h
 refine sqf (.d (db t18)) rfl (fun hb=>by subst hb;exact wD (lq rfl) rfl (zFT ht18)) ?_
 refine z03 (.d (db (!t18))) ?_
 refine q18 ?_
 have ⟨b21,hb21,h⟩:=bE h
 refine z9 ((zC (lq rfl) rfl).bool (oi hb21)) ?_
 refine q25 (.ip (eCollation.cells a0) (0+4)) z2V ?_
 refine q26 (.d (di a0.Third)) O3 ?_
 have ⟨t24,ht24,h⟩:=bE h
 refine sqf (.d (db t24)) rfl (fun hb=>by subst hb;exact wD (lq rfl) rfl (zFT ht24)) ?_
 refine z03 (.d (db (!t24))) ?_
 refine Q37 ?_
 refine z1 h (fun h=>?_) (fun h=>?_)
 refine Q3 ?_
 cases h
 refine zB ?_
 exact zI rfl
 refine Q71 ?_
 refine q21 G32 ?_
 have ⟨t28,ht28,h⟩:=bE h
 refine q8 (zIL ht28) ?_
 refine Q62 ?_
 refine z1 h (fun h=>?_) (fun h=>?_)
 refine Q35 ?_
 cases h
 refine zB ?_
 exact zI rfl
 refine Q71 ?_
 refine z88 ?_
 refine Q30 ?_
 have ⟨y1,hy1,h⟩:=bE h
 refine zR y1 (.exit 0) (fun y1=>⟨[],[]⟩) .ret (fun y1=>⟨[(2,.d (di y1))],[]⟩) ?_ ?_ ?_
 refine zD (fun x=>⟨[(1,.d (.pt (eCollation.cells a0))),(33,.d (zS eEntry a0.Entries)),(34,.d (di (a0.Entries.length:Int))),(35,.d (di x))],[]⟩) hy1 (wc) ?_
 rintro v35 sy1 p1
 replace p1:wG a0 v35=some sy1:=p1
 unfold wG at p1
 refine Q22 ?_
 refine z1 p1 (fun p1=>?_) (fun p1=>?_)
 refine Q8 ?_
 refine Q2 ?_
 have ⟨t38,ht38,p1⟩:=bE p1
 refine q11 S29 ht38 ?_
 refine z9 (wX (en:=eEntry) (l:=a0.Entries) (i:=v35) (v:=t38) (off:=0) (lq rfl) G41 rfl ht38 rfl rfl (by decide)) ?_
 refine yF rfl (yP (zs:=[(.slice none 0 0),(.slice none 0 0)]) (lq rfl) (by kernel_rfl) rfl rfl) ?_
 refine q1 ?_
 refine q16 G41 ?_
 refine zK ?_
 refine zO (z2 (t:=5) (lq rfl) rfl rfl rfl) ?_
 refine Q31 ?_
 refine q21 G41 ?_
 refine q5 zLZ ?_
 refine q6 O3 ?_
 have ⟨t43,ht43,p1⟩:=bE p1
 refine q8 (zJC ht43) ?_
 refine Q62 ?_
 refine z1 p1 (fun p1=>?_) (fun p1=>?_)
 refine Q35 ?_
 refine zB ?_
 cases p1
 intro q;cases q
 exact ⟨rfl,wc⟩
 refine Q5 ?_
 refine z3 MX rfl ?_
 refine q7 ?_
 refine z02 ?_
 have ⟨b49,hb49,p1⟩:=bE p1
 refine vO ((zC (lq rfl) rfl).bool (oi hb49)) ?_
 refine q97 (.ip (eCollation.cells a0) (0+0)) zYI ?_
 refine q98 (.d (zS eEntry a0.Entries)) O29 ?_
 refine q59 (.d (di v35)) ?_
 refine z5F (.d (di (wi (v35 - 1)))) ?_
 have ⟨t54,ht54,p1⟩:=bE p1
 refine dat (.ip (eEntry.all a0.Entries) ((wi (v35 - 1)).toNat*eEntry.size)) rfl (fun hb=>by subst hb;exact kN (en:=eEntry) (lq rfl) S29 rfl rfl ht54) ?_
 refine q99 (.ip (eEntry.all a0.Entries) ((wi (v35 - 1)).toNat*eEntry.size+0)) zG1 ?_
 refine dat (.d (zS eI t54.Codes)) rfl (fun hb=>by subst hb;exact zZ (en:=eEntry) (l:=a0.Entries) (i:=(wi (v35 - 1))) (v:=t54) (off:=0) (lq rfl) O33 rfl ht54 rfl) ?_
 refine q97 (.ip (eEntry.cells t38) (0+0)) zG1 ?_
 refine q98 (.d (zS eI t38.Codes)) O33 ?_
 have ⟨t59,ht59,p1⟩:=bE p1
 refine dat (.d (di t59)) rfl (fun hb=>by subst hb;exact wD (lq rfl) rfl (zLL ht59)) ?_
 refine dat (.d (db (decide (0≤t59)))) rfl (fun hb=>by subst hb;exact zKC (lq rfl) rfl rfl) ?_
 refine Q98 ?_
 refine z1 p1 (fun p1=>?_) (fun p1=>?_)
 refine Q17 ?_
 cases p1
 intro q;cases q
 exact ⟨rfl,wc⟩
 refine Q57 ?_
 cases p1
 exact wc
 refine zF ?_
 cases p1
 intro q;cases q
 exact ⟨rfl,wc⟩
 rintro y1 rfl
 replace h:=eL h
 refine Q3 ?_
 cases h
 refine zB ?_
 exact zI rfl
 rintro y1 rfl
 replace h:=eR h
 cases h
 exact zI rfl
theorem zHU {a0 r} (h:zBZ a0=some r):zG Tryz.prog 71 [(zS eI a0)] [(eA9Int.dv r)]:=by
 refine co Tryz.func71 ?_;intro _ _ _ _
 unfold zBZ at h
 refine Q0 ?_
 refine yF rfl (yP (zs:=[(.int IntKind.i64 (0)),(.int IntKind.i64 (0)),(.int IntKind.i64 (0)),(.int IntKind.i64 (0)),(.int IntKind.i64 (0)),(.int IntKind.i64 (0)),(.int IntKind.i64 (0)),(.int IntKind.i64 (0)),(.int IntKind.i64 (0))]) (lq rfl) (by kernel_rfl) rfl rfl) ?_
 refine zK<|Q2 ?_
 refine q4 yD ?_
 refine q78 yCA ?_
 refine yF rfl (yP (zs:=[(.int IntKind.i64 (0)),(.int IntKind.i64 (0)),(.int IntKind.i64 (0)),(.int IntKind.i64 (0)),(.int IntKind.i64 (0)),(.int IntKind.i64 (0)),(.int IntKind.i64 (0)),(.int IntKind.i64 (0)),(.int IntKind.i64 (0))]) (lq rfl) (by kernel_rfl) rfl rfl) ?_
 refine q16 yCB ?_
 refine Q52 ?_
 refine z9 (zX5 1 (lq rfl) yCA rfl (by decide)) ?_
 refine q0 ?_
 refine yF rfl (yB6 (l:=a0) (lq rfl) yD rfl rfl rfl rfl) ?_
 refine Q52 ?_
 refine z9 ((kM (lq rfl) yCB rfl rfl rfl rfl).data rfl) ?_
 refine q16 yCB ?_
 refine zK ?_
 cases h
 refine zB ?_
 exact xJ rfl rfl yCB rfl
theorem zE0 {a0} {r:Colltable_table} (h:zCN a0=some r):GC Tryz.prog 31 [.d (eCollation.dv a0)] [] [] [.ptr 13 0] [(13,.box 108 [.d (zS eEntry r.c.Entries),.d (zS eGroup r.c.Groups),.d (di r.c.Base),.d (di r.c.Second),.d (di r.c.Third),.row 11,.d (di r.longest),.d (zS eSpan r.classes),.d (di r.top)]),(11,.map (wY zEO (eL eElement) r.entries))]:=by
 refine zC7 Tryz.func31 (by kernel_rfl) rfl (lq rfl) (lq rfl) fun w0 I0 hG0 p0=>?_
 unfold zCN at h
 refine Q0 ?_
 refine q89 ?_
 refine Q53 ?_
 refine z9 ((kM (lq rfl) G32 rfl rfl rfl rfl).data rfl) ?_
 have ⟨t7,ht7,h⟩:=bE h
 refine q8 (zNC ht7) ?_
 refine Q33 ?_
 have ⟨y1,hy1,h⟩:=bE h
 refine tl .normal ⟨[(1,.ptr 1 0)],[(1,.box 32 [.d (zS eEntry y1.1),.d (zS eGroup y1.2.1),.d (di y1.2.2.1),.d (di y1.2.2.2.1),.d (di y1.2.2.2.2)])]⟩ ?_ ?_
 refine z1 hy1 (fun hy1=>?_) (fun hy1=>?_)
 refine xG ?_
 refine z9 ((zDR (lq rfl) B32 rfl rfl).nils (bs:=eCollation.cells ({Entries:=[],Groups:=[],Base:=64448,Second:=32,Third:=2}:Collation)) (nlN (nlN (nlE (nlE (nlE nl0)))))) ?_
 refine q16 G32 ?_
 refine zK ?_
 cases hy1
 exact zH (wc)
 refine zL ?_
 cases hy1
 exact zH (wc)
 refine Q0 ?_
 refine z9 ((kM (lq rfl) G32 rfl rfl rfl rfl).data rfl) ?_
 refine z8R ?_
 refine z9 (z71 [(0,.tmp 10)] 1 (.tmp 11) (lq rfl) yJZ rfl rfl rfl rfl rfl rfl) ?_
 refine yF rfl (z0K (lq rfl) rfl rfl) ?_
 refine z9 (zCX (lq rfl) rfl) ?_
 refine zVT ?_
 refine q51 zYI ?_
 refine q28 O29 ?_
 refine q4 S29 ?_
 refine Q30 ?_
 have ⟨y2,hy2,h⟩:=bE h
 refine tl (.exit 0) ⟨[(3,.ptr 13 0)],[(11,.map (wY zEO (eL eElement) y2.1)),(13,.box 108 [.d (zS eEntry (({Entries:=y1.1,Groups:=y1.2.1,Base:=y1.2.2.1,Second:=y1.2.2.2.1,Third:=y1.2.2.2.2}:Collation).Entries)),.d (zS eGroup (({Entries:=y1.1,Groups:=y1.2.1,Base:=y1.2.2.1,Second:=y1.2.2.2.1,Third:=y1.2.2.2.2}:Collation).Groups)),.d (di (({Entries:=y1.1,Groups:=y1.2.1,Base:=y1.2.2.1,Second:=y1.2.2.2.1,Third:=y1.2.2.2.2}:Collation).Base)),.d (di (({Entries:=y1.1,Groups:=y1.2.1,Base:=y1.2.2.1,Second:=y1.2.2.2.1,Third:=y1.2.2.2.2}:Collation).Second)),.d (di (({Entries:=y1.1,Groups:=y1.2.1,Base:=y1.2.2.1,Second:=y1.2.2.2.1,Third:=y1.2.2.2.2}:Collation).Third)),.row 11,.d (di y2.2),.d (.v (.slice none 0 0)),.d (di 0)])]⟩ ?_ ?_
 refine zD (fun x=>⟨[(3,.ptr 13 0),(15,.d (zS eEntry y1.1)),(16,.d (di (y1.1.length:Int))),(17,.d (di x.1))],[(11,.map (wY zEO (eL eElement) x.2.1)),(13,.box 108 [.d (zS eEntry (({Entries:=y1.1,Groups:=y1.2.1,Base:=y1.2.2.1,Second:=y1.2.2.2.1,Third:=y1.2.2.2.2}:Collation).Entries)),.d (zS eGroup (({Entries:=y1.1,Groups:=y1.2.1,Base:=y1.2.2.1,Second:=y1.2.2.2.1,Third:=y1.2.2.2.2}:Collation).Groups)),.d (di (({Entries:=y1.1,Groups:=y1.2.1,Base:=y1.2.2.1,Second:=y1.2.2.2.1,Third:=y1.2.2.2.2}:Collation).Base)),.d (di (({Entries:=y1.1,Groups:=y1.2.1,Base:=y1.2.2.1,Second:=y1.2.2.2.1,Third:=y1.2.2.2.2}:Collation).Second)),.d (di (({Entries:=y1.1,Groups:=y1.2.1,Base:=y1.2.2.1,Second:=y1.2.2.2.1,Third:=y1.2.2.2.2}:Collation).Third)),.row 11,.d (di x.2.2),.d (.v (.slice none 0 0)),.d (di 0)])]⟩) hy2 (wc) ?_
 rintro ⟨v17,r11,k13_6⟩ sy2 p2
 replace p2:j9 y1 v17 r11 k13_6=some sy2:=p2
 unfold j9 at p2
 refine Q22 ?_
 refine z1 p2 (fun p2=>?_) (fun p2=>?_)
 refine Q29 ?_
 have ⟨t19,ht19,p2⟩:=bE p2
 refine q11 S29 ht19 ?_
 refine z9 (wX (en:=eEntry) (l:=y1.1) (i:=v17) (v:=t19) (off:=0) (lq rfl) G41 rfl ht19 rfl rfl (by decide)) ?_
 refine yF rfl (yP (zs:=[(.slice none 0 0),(.slice none 0 0)]) (lq rfl) (by kernel_rfl) rfl rfl) ?_
 refine q16 G41 ?_
 refine zK ?_
 refine zO (z2 (t:=5) (lq rfl) rfl rfl rfl) ?_
 refine kF ?_
 refine zFE 9 MX rfl ?_
 refine z8U ?_
 refine z8V ?_
 refine zYO z8E ?_
 refine yCR yII ?_
 refine q19 zG1 ?_
 refine q33 O33 ?_
 have ⟨t27,ht27,p2⟩:=bE p2
 refine q22 (zHU ht27) ?_
 refine q19 zKU ?_
 refine q33 O39 ?_
 refine xZ ?_
 refine yF rfl (zM8 (kv:=zEO) (ev:=(eL eElement)) (mp:=r11) (k:=t27) (v:=t19.Elements) yIF yIN rfl rfl rfl (yB1 rfl) rfl rfl rfl) ?_
 refine zK ?_
 refine zFE 11 MX rfl ?_
 refine z8U ?_
 refine z8U ?_
 refine z8V ?_
 refine zYO zVK ?_
 refine yCR O3 ?_
 refine q19 zG1 ?_
 refine q33 O33 ?_
 refine yGI yD ?_
 refine vO (z2D (lq rfl) rfl rfl) ?_
 refine z8V ?_
 refine zYO zVK ?_
 refine xZ<|zYX ?_
 refine Q24 ?_
 cases p2
 exact wc
 refine zF ?_
 cases p2
 intro q;cases q
 exact zH (wc)
 refine Q0 ?_
 refine yCS ?_
 refine z9 (zCX (lq rfl) rfl) ?_
 refine zK ?_
 refine zO (zSO (bid:=13) (off:=7) eSpan.size rfl rfl) ?_
 cases h
 refine zB ?_
 exact ⟨⟨_,_,rfl,rfl,rfl⟩,⟨rfl,rfl,trivial⟩⟩
set_option maxHeartbeats 8000000 in
theorem zIM {a0 r} (h:zA3 a0=some r):zG Tryz.prog 94 [(zS eSpan a0)] [(di r)]:=by
 refine co Tryz.func94 ?_;intro _ _ _ _
 unfold zA3 at h
 refine Q47 ?_
 refine q4 S22 ?_
 refine Q30 ?_
 have ⟨y1,hy1,h⟩:=bE h
 refine zR y1 (.exit 0) (fun y1=>⟨[(0,.d (zS eSpan a0))],[]⟩) .ret (fun y1=>⟨[(2,.d (di y1))],[]⟩) ?_ ?_ ?_
 refine zD (fun x=>⟨[(0,.d (zS eSpan a0)),(12,.d (zS eSpan a0)),(13,.d (di (a0.length:Int))),(14,.d (di x))],[]⟩) hy1 (wc) ?_
 rintro v14 sy1 p1
 replace p1:vH a0 v14=some sy1:=p1
 unfold vH at p1
 refine Q22 ?_
 refine z1 p1 (fun p1=>?_) (fun p1=>?_)
 refine Q29 ?_
 have ⟨t16,ht16,p1⟩:=bE p1
 refine q11 S22 ht16 ?_
 refine yCT G62 ht16 ?_
 refine z5G ?_
 refine q16 G62 ?_
 refine zK ?_
 refine zO (z2 (t:=4) (lq rfl) rfl rfl rfl) ?_
 refine Q0 ?_
 refine q5 zII ?_
 refine z1E ?_
 have ⟨b21,hb21,p1⟩:=bE p1
 refine z9 ((zC (lq rfl) rfl).bool (oi hb21)) ?_
 refine q25 (.ip (eSpan.cells t16) (0+1)) zIJ ?_
 refine q26 (.d (di t16.Hi)) O3 ?_
 refine q43 (.d (db (decide (1114111 < t16.Hi)))) ?_
 refine q18 ?_
 have ⟨b26,hb26,p1⟩:=bE p1
 refine z9 ((zC (lq rfl) rfl).bool (oi hb26)) ?_
 refine q25 (.ip (eSpan.cells t16) (0+0)) zII ?_
 refine q26 (.d (di t16.Lo)) O3 ?_
 refine q25 (.ip (eSpan.cells t16) (0+1)) zIJ ?_
 refine q26 (.d (di t16.Hi)) O3 ?_
 refine q43 (.d (db (decide (t16.Hi < t16.Lo)))) ?_
 refine q18 ?_
 have ⟨b33,hb33,p1⟩:=bE p1
 refine z9 ((zC (lq rfl) rfl).bool (oi hb33)) ?_
 refine q25 (.ip (eSpan.cells t16) (0+2)) zJN ?_
 refine q26 (.d (di t16.Value)) O3 ?_
 refine sqf (.d (db (decide (t16.Value < 1)))) rfl (fun hb=>by subst hb;exact zMW (lq rfl) rfl rfl) ?_
 refine q18 ?_
 have ⟨b38,hb38,p1⟩:=bE p1
 refine z9 ((zC (lq rfl) rfl).bool (oi hb38)) ?_
 refine q25 (.ip (eSpan.cells t16) (0+2)) zJN ?_
 refine q26 (.d (di t16.Value)) O3 ?_
 refine q43 (.d (db (decide (254 < t16.Value)))) ?_
 refine Q37 ?_
 refine z1 p1 (fun p1=>?_) (fun p1=>?_)
 refine Q17 ?_
 cases p1
 intro q;cases q
 exact ⟨rfl,wc⟩
 refine Q57 ?_
 cases p1
 exact wc
 refine zF ?_
 cases p1
 intro q;cases q
 exact ⟨rfl,wc⟩
 rintro y1 rfl
 replace h:=eL h
 refine Q32 ?_
 have ⟨y2,hy2,h⟩:=bE h
 refine zR y2 (.exit 2) (fun y2=>⟨[(0,.d (zS eSpan a0))],[]⟩) .ret (fun y2=>⟨[(2,.d (di y2))],[]⟩) ?_ ?_ ?_
 refine zD (fun x=>⟨[(0,.d (zS eSpan a0)),(5,.d (di x))],[]⟩) hy2 (wc) ?_
 rintro v5 sy2 p2
 replace p2:vI a0 v5=some sy2:=p2
 unfold vI at p2
 refine Q12 ?_
 refine q4 S22 ?_
 refine Q6 ?_
 refine z1 p2 (fun p2=>?_) (fun p2=>?_)
 refine Q65 ?_
 have ⟨t53,ht53,p2⟩:=bE p2
 have ⟨t57,ht57,p2⟩:=bE p2
 refine tl .normal ⟨[(0,.d (zS eSpan a0)),(5,.d (di v5)),(6,.ptr 6 0),(7,.ptr 7 0)],[(6,.box 62 [.d (di t53.Lo),.d (di t53.Hi),.d (di t53.Value)]),(7,.box 62 [.d (di t57.Lo),.d (di t57.Hi),.d (di t57.Value)])]⟩ ?_ ?_
 refine zD6 MX ?_
 refine yIV ?_
 refine zI7 (i:=2) rfl (lq rfl) rfl rfl rfl rfl rfl rfl ?_
 refine zUB (en:=eSpan) (i:=3) rfl (lq rfl) S22 rfl rfl ht53 rfl rfl rfl rfl ?_
 refine xm 5 ?_
 refine xm 6 ?_
 refine zUB (en:=eSpan) (i:=7) rfl (lq rfl) S22 rfl rfl ht57 rfl rfl rfl rfl ?_
 refine xn [4,8,9,10] ?_
 refine q47 G62 ht53 ?_ ?_
 refine xn [8,9,10] ?_
 refine q47 G62 ht57 ?_ ?_
 refine xn [9,10] ?_
 refine z8W ?_ ?_
 refine xn [10] ?_
 refine Q79 ?_
 exact ae
 refine q45 ?_
 refine xn [9] ?_
 refine Q79 ?_
 exact ae
 refine z8W ?_ ?_
 refine xn [8,10] ?_
 refine q47 G62 ht57 ?_ ?_
 refine xn [10] ?_
 refine Q79 ?_
 exact ae
 refine q45 ?_
 refine xn [8,11] ?_
 refine q47 G62 ht57 ?_ ?_
 refine Q45 ?_
 exact ae
 refine q9 G62 ?_
 refine xn [8] ?_
 refine q68 G62 ht57 ?_
 refine Q38 ?_
 exact ae
 refine q45 ?_
 refine xn [8,9] ?_
 refine q47 G62 ht57 ?_ ?_
 refine xn [9] ?_
 refine Q79 ?_
 exact ae
 refine q45 ?_
 refine xn [8,11] ?_
 refine q47 G62 ht57 ?_ ?_
 refine Q45 ?_
 exact ae
 refine q9 G62 ?_
 refine xn [8] ?_
 refine q68 G62 ht57 ?_
 refine Q38 ?_
 exact ae
 refine q47 G62 ht57 ?_ ?_
 refine xn [4,9,10] ?_
 refine q47 G62 ht53 ?_ ?_
 refine xn [9,10] ?_
 refine z8W ?_ ?_
 refine xn [10] ?_
 refine Q79 ?_
 exact ae
 refine q45 ?_
 refine xn [9] ?_
 refine Q79 ?_
 exact ae
 refine z8W ?_ ?_
 refine xn [4,10] ?_
 refine q47 G62 ht53 ?_ ?_
 refine xn [10] ?_
 refine Q79 ?_
 exact ae
 refine q45 ?_
 refine xn [4] ?_
 refine q68 G62 ht53 ?_
 refine Q45 ?_
 exact ae
 refine q45 ?_
 refine xn [4,9] ?_
 refine q47 G62 ht53 ?_ ?_
 refine xn [9] ?_
 refine Q79 ?_
 exact ae
 refine q45 ?_
 refine xn [4] ?_
 refine q68 G62 ht53 ?_
 refine Q45 ?_
 exact ae
 refine z8W ?_ ?_
 refine xn [4,8,10] ?_
 refine q47 G62 ht53 ?_ ?_
 refine xn [8,10] ?_
 refine q47 G62 ht57 ?_ ?_
 refine xn [10] ?_
 refine Q79 ?_
 exact ae
 refine q45 ?_
 refine xn [8,11] ?_
 refine q47 G62 ht57 ?_ ?_
 refine Q45 ?_
 exact ae
 refine q9 G62 ?_
 refine xn [8] ?_
 refine q68 G62 ht57 ?_
 refine Q38 ?_
 exact ae
 refine q47 G62 ht57 ?_ ?_
 refine xn [4,10] ?_
 refine q47 G62 ht53 ?_ ?_
 refine xn [10] ?_
 refine Q79 ?_
 exact ae
 refine q45 ?_
 refine xn [4] ?_
 refine q68 G62 ht53 ?_
 refine Q45 ?_
 exact ae
 refine q45 ?_
 refine xn [4,8] ?_
 refine q47 G62 ht53 ?_ ?_
 refine xn [8,11] ?_
 refine q47 G62 ht57 ?_ ?_
 refine Q45 ?_
 exact ae
 refine q9 G62 ?_
 refine xn [8] ?_
 refine q68 G62 ht57 ?_
 refine Q38 ?_
 exact ae
 refine q68 G62 ht57 ?_
 refine xn [4] ?_
 refine q68 G62 ht53 ?_
 refine Q45 ?_
 exact ae
 refine q45 ?_
 refine xn [4,8,9] ?_
 refine q47 G62 ht53 ?_ ?_
 refine xn [8,9] ?_
 refine q47 G62 ht57 ?_ ?_
 refine xn [9] ?_
 refine Q79 ?_
 exact ae
 refine q45 ?_
 refine xn [8,11] ?_
 refine q47 G62 ht57 ?_ ?_
 refine Q45 ?_
 exact ae
 refine q9 G62 ?_
 refine xn [8] ?_
 refine q68 G62 ht57 ?_
 refine Q38 ?_
 exact ae
 refine q47 G62 ht57 ?_ ?_
 refine xn [4,9] ?_
 refine q47 G62 ht53 ?_ ?_
 refine xn [9] ?_
 refine Q79 ?_
 exact ae
 refine q45 ?_
 refine xn [4] ?_
 refine q68 G62 ht53 ?_
 refine Q45 ?_
 exact ae
 refine q45 ?_
 refine xn [4,8] ?_
 refine q47 G62 ht53 ?_ ?_
 refine xn [8,11] ?_
 refine q47 G62 ht57 ?_ ?_
 refine Q45 ?_
 exact ae
 refine q9 G62 ?_
 refine xn [8] ?_
 refine q68 G62 ht57 ?_
 refine Q38 ?_
 exact ae
 refine q68 G62 ht57 ?_
 refine xn [4] ?_
 refine q68 G62 ht53 ?_
 refine Q45 ?_
 exact ae
 refine zO (z2 (t:=6) (lq rfl) rfl rfl rfl) ?_
 refine zO (z2 (t:=7) (lq rfl) rfl rfl rfl) ?_
 refine Q0 ?_
 refine q5 zII ?_
 refine q6 O3 ?_
 refine q5 zIJ ?_
 refine q6 O3 ?_
 refine q70 ?_
 have ⟨b64,hb64,p2⟩:=bE p2
 refine z9 ((zC (lq rfl) rfl).bool (oi hb64)) ?_
 refine q25 (.ip (eSpan.cells t57) (0+0)) zII ?_
 refine q26 (.d (di t57.Lo)) O3 ?_
 refine q25 (.ip (eSpan.cells t53) (0+1)) zIJ ?_
 refine q26 (.d (di t53.Hi)) O3 ?_
 refine sqf (.d (di (wi (t53.Hi+1)))) rfl (fun hb=>by subst hb;exact zT4 (lq rfl) rfl rfl) ?_
 refine z5D (.d (db (decide (t57.Lo=(wi (t53.Hi+1)))))) ?_
 have ⟨b71,hb71,p2⟩:=bE p2
 refine sqf (.d (db b71)) rfl (fun hb=>by subst hb;exact (zC (lq rfl) rfl).bool (oi hb71)) ?_
 refine jW (x:= .ip (eSpan.cells t57) (0+2)) rfl rfl rfl (lq rfl) (lq rfl) rfl (fun hb=>by obtain ⟨hb,hb1⟩:=zQ hb;obtain rfl:=gF hb;obtain rfl:b71=true:=hb1;exact wF (lq rfl) zJN rfl) ?_
 refine jW (x:= .d (di t57.Value)) rfl rfl rfl (lq rfl) (lq rfl) rfl (fun hb=>by obtain ⟨hb,hb1⟩:=zQ hb;obtain rfl:=gF hb;obtain rfl:b71=true:=hb1;exact xI (lq rfl) O3 rfl rfl) ?_
 refine jW (x:= .ip (eSpan.cells t53) (0+2)) rfl rfl rfl (lq rfl) (lq rfl) rfl (fun hb=>by obtain ⟨hb,hb1⟩:=zQ hb;obtain rfl:=gF hb;obtain rfl:b71=true:=hb1;exact wF (lq rfl) zJN rfl) ?_
 refine jW (x:= .d (di t53.Value)) rfl rfl rfl (lq rfl) (lq rfl) rfl (fun hb=>by obtain ⟨hb,hb1⟩:=zQ hb;obtain rfl:=gF hb;obtain rfl:b71=true:=hb1;exact xI (lq rfl) O3 rfl rfl) ?_
 refine jW (x:= .d (db (decide (t57.Value=t53.Value)))) rfl rfl rfl (lq rfl) (lq rfl) rfl (fun hb=>by obtain ⟨hb,hb1⟩:=zQ hb;obtain rfl:=gF hb;obtain rfl:b71=true:=hb1;exact zJL (lq rfl) rfl rfl) ?_
 refine q86 (.d (db (b71&&(decide (t57.Value=t53.Value))))) ?_
 refine Q37 ?_
 refine z1 p2 (fun p2=>?_) (fun p2=>?_)
 refine Q17 ?_
 cases p2
 intro q;cases q
 exact ⟨rfl,wc⟩
 refine Q28 ?_
 cases p2
 exact wc
 refine zF ?_
 cases p2
 intro q;cases q
 exact ⟨rfl,wc⟩
 rintro y2 rfl
 replace h:=eL h
 refine Q4 ?_
 refine q4 S22 ?_
 refine Q30 ?_
 have ⟨y3,hy3,h⟩:=bE h
 refine zR y3 (.exit 4) (fun y3=>⟨[],[]⟩) .ret (fun y3=>⟨[(2,.d (di y3))],[]⟩) ?_ ?_ ?_
 refine zD (fun x=>⟨[(79,.d (zS eSpan a0)),(80,.d (di (a0.length:Int))),(81,.d (di x))],[]⟩) hy3 (wc) ?_
 rintro v81 sy3 p3
 replace p3:vJ a0 v81=some sy3:=p3
 unfold vJ at p3
 refine Q22 ?_
 refine z1 p3 (fun p3=>?_) (fun p3=>?_)
 refine Q29 ?_
 have ⟨t83,ht83,p3⟩:=bE p3
 refine q11 S22 ht83 ?_
 refine yCT G62 ht83 ?_
 refine z5G ?_
 refine q16 G62 ?_
 refine zK ?_
 refine zO (z2 (t:=9) (lq rfl) rfl rfl rfl) ?_
 refine Q0 ?_
 have ⟨t85,ht85,p3⟩:=bE p3
 refine z9 ((yB0 (zs:=[.int .i64 4352,.int .i64 4370,.int .i64 4449,.int .i64 4469,.int .i64 4520,.int .i64 4546,.int .i64 44032,.int .i64 55203]) (lq rfl) yJ3 Z0 rfl rfl).data (b:=eA4Range.dv t85) (congrArg eA4Range.dv (oi ht85))) ?_
 refine Q30 ?_
 have ⟨y4,hy4,p3⟩:=bE p3
 refine zR y4 (.exit 6) (fun y4=>⟨[(79,.d (zS eSpan a0)),(80,.d (di (a0.length:Int))),(81,.d (di v81))],[]⟩) .ret (fun y4=>⟨[(2,.d (di y4))],[]⟩) ?_ ?_ ?_
 refine zD (fun x=>⟨[(9,.d (.pt (eSpan.cells t83))),(79,.d (zS eSpan a0)),(80,.d (di (a0.length:Int))),(81,.d (di v81)),(85,.d (eA4Range.dv t85)),(86,.d (di x))],[]⟩) hy4 (wc) ?_
 rintro v86 sy4 p4
 replace p4:xA t85 t83 v86=some sy4:=p4
 unfold xA at p4
 refine Q22 ?_
 refine z1 p4 (fun p4=>?_) (fun p4=>?_)
 refine Q29 ?_
 have ⟨t88,ht88,p4⟩:=bE p4
 refine z9 (z4X (en:=eRange) (l:=[t85.x0,t85.x1,t85.x2,t85.x3]) (lq rfl) yJY zB1 (fun _=>rfl) rfl rfl rfl ht88) ?_
 refine z04 ?_
 refine z1H ?_
 refine zO (z2 (t:=11) (lq rfl) rfl rfl rfl) ?_
 refine Q0 ?_
 refine q5 zII ?_
 refine q6 O3 ?_
 refine q5 zEB ?_
 refine q6 O3 ?_
 refine q70 ?_
 have ⟨b94,hb94,p4⟩:=bE p4
 refine z9 ((zC (lq rfl) rfl).bool (oi hb94)) ?_
 refine q54 (.ip (eRange.cells t88) (0+0)) zH4 ?_
 refine q62 (.d (di t88.Lo)) O3 ?_
 refine q54 (.ip (eSpan.cells t83) (0+1)) zIJ ?_
 refine q62 (.d (di t83.Hi)) O3 ?_
 refine q55 (.d (db (decide (t88.Lo≤t83.Hi)))) ?_
 refine Q36 ?_
 refine z1 p4 (fun p4=>?_) (fun p4=>?_)
 refine Q17 ?_
 cases p4
 intro q;cases q
 exact ⟨rfl,wc⟩
 refine Q57 ?_
 cases p4
 exact wc
 refine zF ?_
 cases p4
 intro q;cases q
 exact ⟨rfl,wc⟩
 rintro y4 rfl
 replace p3:=eL p3
 refine Q24 ?_
 cases p3
 exact wc
 rintro y4 rfl
 replace p3:=eR p3
 cases p3
 intro q;cases q
 exact ⟨rfl,wc⟩
 refine zF ?_
 cases p3
 intro q;cases q
 exact ⟨rfl,wc⟩
 rintro y3 rfl
 replace h:=eL h
 refine Q3 ?_
 cases h
 refine zB ?_
 exact zI rfl
 rintro y3 rfl
 replace h:=eR h
 cases h
 exact zI rfl
 rintro y2 rfl
 replace h:=eR h
 cases h
 exact zI rfl
 rintro y1 rfl
 replace h:=eR h
 cases h
 exact zI rfl
theorem zOI {a0 r} (h:zCO a0=some r):zG Tryz.prog 133 [(ds a0)] [(db r)]:=by
 refine co Tryz.func133 ?_;intro _ _ _ _
 unfold zCO at h
 refine Q47 ?_
 refine z9 (zKK (a:=a0) (b:=[]) (lq rfl) rfl rfl) ?_
 have ⟨b8,hb8,h⟩:=bE h
 refine z9 ((zC (lq rfl) rfl).bool (oi hb8)) ?_
 refine q38 (.d (ds a0)) ?_
 refine sqf (.d (di (a0.length:Int))) rfl (fun hb=>by subst hb;exact zQ9 (s:=a0) (lq rfl) Tryz.underlying9 rfl) ?_
 refine q43 (.d (db (decide (32 < (a0.length:Int))))) ?_
 refine Q37 ?_
 refine z1 h (fun h=>?_) (fun h=>?_)
 refine Q3 ?_
 cases h
 refine zB ?_
 exact zI rfl
 refine Q95 ?_
 refine z8Q Tryz.underlying9 ?_
 refine Q30 ?_
 have ⟨y1,hy1,h⟩:=bE h
 refine zR y1 (.exit 0) (fun y1=>⟨[],[]⟩) .ret (fun y1=>⟨[(2,.d (db y1))],[]⟩) ?_ ?_ ?_
 refine zD (fun x=>⟨[(0,.d (ds a0)),(14,.d (di (a0.length:Int))),(15,.d (di x))],[]⟩) hy1 (wc) ?_
 rintro v15 sy1 p1
 replace p1:vK a0 v15=some sy1:=p1
 unfold vK at p1
 refine Q22 ?_
 refine z1 p1 (fun p1=>?_) (fun p1=>?_)
 refine Q8 ?_
 refine Q35 ?_
 refine Q15 ?_
 have ⟨t20,ht20,p1⟩:=bE p1
 refine yCL Tryz.underlying9 ht20 ?_
 refine Q19 ?_
 refine q44 ?_
 have ⟨b23,hb23,p1⟩:=bE p1
 refine z9 ((zC (lq rfl) rfl).bool (oi hb23)) ?_
 refine q13 (.d (dby t20)) ?_
 refine q55 (.d (db (decide (t20≤90)))) ?_
 refine q14 ?_
 have ⟨b27,hb27,p1⟩:=bE p1
 refine z9 ((zC (lq rfl) rfl).bool (oi hb27)) ?_
 refine q38 (.d (dby t20)) ?_
 refine z01 (.d (db (decide (97≤t20)))) ?_
 have ⟨b30,hb30,p1⟩:=bE p1
 refine sqf (.d (db b30)) rfl (fun hb=>by subst hb;exact (zC (lq rfl) rfl).bool (oi hb30)) ?_
 refine jW (x:= .d (dby t20)) rfl rfl rfl (lq rfl) (lq rfl) rfl (fun hb=>by obtain ⟨hb,hb1⟩:=zQ hb;obtain rfl:=gF hb;obtain rfl:b30=true:=hb1;exact zC (lq rfl) rfl) ?_
 refine jW (x:= .d (db (decide (t20≤122)))) rfl rfl rfl (lq rfl) (lq rfl) rfl (fun hb=>by obtain ⟨hb,hb1⟩:=zQ hb;obtain rfl:=gF hb;obtain rfl:b30=true:=hb1;exact zID (lq rfl) rfl rfl) ?_
 refine q86 (.d (db (b30&&(decide (t20≤122))))) ?_
 refine q18 ?_
 refine Q19 ?_
 refine q32 ?_
 have ⟨b37,hb37,p1⟩:=bE p1
 refine z9 ((zC (lq rfl) rfl).bool (oi hb37)) ?_
 refine q13 (.d (dby t20)) ?_
 refine sqt (.d (db (decide (48≤t20)))) rfl (fun hb=>by subst hb;exact zKC (lq rfl) rfl rfl) ?_
 have ⟨b40,hb40,p1⟩:=bE p1
 refine sqt (.d (db b40)) rfl (fun hb=>by subst hb;exact (zC (lq rfl) rfl).bool (oi hb40)) ?_
 refine jW (x:= .d (dby t20)) rfl rfl rfl (lq rfl) (lq rfl) rfl (fun hb=>by obtain ⟨hb,hb1⟩:=zQ hb;obtain rfl:b37=true:=hb;obtain rfl:b40=true:=hb1;exact zC (lq rfl) rfl) ?_
 refine jW (x:= .d (db (decide (t20≤57)))) rfl rfl rfl (lq rfl) (lq rfl) rfl (fun hb=>by obtain ⟨hb,hb1⟩:=zQ hb;obtain rfl:b37=true:=hb;obtain rfl:b40=true:=hb1;exact zID (lq rfl) rfl rfl) ?_
 refine sqt (.d (db (b40&&(decide (t20≤57))))) rfl (fun hb=>by subst hb;exact zEN (lq rfl) rfl rfl) ?_
 refine zYP (.d (db (!(b40&&(decide (t20≤57)))))) ?_
 refine q14 ?_
 have ⟨b46,hb46,p1⟩:=bE p1
 refine z9 ((zC (lq rfl) rfl).bool (oi hb46)) ?_
 refine q13 (.d (dby t20)) ?_
 refine z8X (.d (db (!decide (t20=95)))) ?_
 refine Q36 ?_
 refine z1 p1 (fun p1=>?_) (fun p1=>?_)
 refine Q17 ?_
 cases p1
 intro q;cases q
 exact ⟨rfl,wc⟩
 refine Q57 ?_
 cases p1
 exact wc
 refine zF ?_
 cases p1
 intro q;cases q
 exact ⟨rfl,wc⟩
 rintro y1 rfl
 replace h:=eL h
 refine Q3 ?_
 cases h
 refine zB ?_
 exact zI rfl
 rintro y1 rfl
 replace h:=eR h
 cases h
 exact zI rfl
theorem zPV {a0 r} (h:zDF a0=some r):zG Tryz.prog 119 [(zS eMapping a0)] [(di r)]:=by
 refine co Tryz.func119 ?_;intro _ _ _ _
 unfold zDF at h
 refine Q47 ?_
 refine z1I ?_
 have ⟨y1,hy1,h⟩:=bE h
 refine zR y1 (.exit 0) (fun y1=>⟨[(0,.d (zS eMapping a0))],[]⟩) .ret (fun y1=>⟨[(2,.d (di y1))],[]⟩) ?_ ?_ ?_
 refine zD (fun x=>⟨[(0,.d (zS eMapping a0)),(11,.d (zS eMapping a0)),(12,.d (di (a0.length:Int))),(13,.d (di x))],[]⟩) hy1 (wc) ?_
 rintro v13 sy1 p1
 replace p1:uD a0 v13=some sy1:=p1
 unfold uD at p1
 refine Q22 ?_
 refine z1 p1 (fun p1=>?_) (fun p1=>?_)
 refine Q29 ?_
 have ⟨t15,ht15,p1⟩:=bE p1
 refine q11 S23 ht15 ?_
 refine q90 zKT ht15 ?_
 refine z1J ?_
 refine zO (z2 (t:=4) (lq rfl) rfl rfl rfl) ?_
 refine Q31 ?_
 refine zVU ?_
 have ⟨t19,ht19,p1⟩:=bE p1
 refine q8 (zCF ht19) ?_
 refine Q42 ?_
 refine z1 p1 (fun p1=>?_) (fun p1=>?_)
 refine Q17 ?_
 cases p1
 intro q;cases q
 exact ⟨rfl,wc⟩
 refine Q50 ?_
 refine q5 zCW ?_
 refine q6 O33 ?_
 refine Q94 ?_
 have ⟨y2,hy2,p1⟩:=bE p1
 refine zR y2 (.exit 2) (fun y2=>⟨[(0,.d (zS eMapping a0)),(11,.d (zS eMapping a0)),(12,.d (di (a0.length:Int))),(13,.d (di v13))],[]⟩) .ret (fun y2=>⟨[(2,.d (di y2))],[]⟩) ?_ ?_ ?_
 refine zD (fun x=>⟨[(0,.d (zS eMapping a0)),(11,.d (zS eMapping a0)),(12,.d (di (a0.length:Int))),(13,.d (di v13)),(22,.d (zS eI t15.To)),(23,.d (di (t15.To.length:Int))),(24,.d (di x))],[]⟩) hy2 (wc) ?_
 rintro v24 sy2 p2
 replace p2:uC t15 v24=some sy2:=p2
 unfold uC at p2
 refine Q22 ?_
 refine z1 p2 (fun p2=>?_) (fun p2=>?_)
 refine Q29 ?_
 have ⟨t26,ht26,p2⟩:=bE p2
 refine q11 yD ht26 ?_
 refine q35 O3 ht26 ?_
 refine Q19 ?_
 have ⟨t29,ht29,p2⟩:=bE p2
 refine q8 (zCF ht29) ?_
 refine Q42 ?_
 refine z1 p2 (fun p2=>?_) (fun p2=>?_)
 refine Q17 ?_
 cases p2
 intro q;cases q
 exact ⟨rfl,wc⟩
 refine Q57 ?_
 cases p2
 exact wc
 refine zF ?_
 cases p2
 intro q;cases q
 exact ⟨rfl,wc⟩
 rintro y2 rfl
 replace p1:=eL p1
 refine Q24 ?_
 cases p1
 exact wc
 rintro y2 rfl
 replace p1:=eR p1
 cases p1
 intro q;cases q
 exact ⟨rfl,wc⟩
 refine zF ?_
 cases p1
 intro q;cases q
 exact ⟨rfl,wc⟩
 rintro y1 rfl
 replace h:=eL h
 refine Q4 ?_
 refine z1I ?_
 have ⟨y3,hy3,h⟩:=bE h
 refine zR y3 (.exit 4) (fun y3=>⟨[(0,.d (zS eMapping a0))],[]⟩) .ret (fun y3=>⟨[(2,.d (di y3))],[]⟩) ?_ ?_ ?_
 refine zD (fun x=>⟨[(0,.d (zS eMapping a0)),(33,.d (zS eMapping a0)),(34,.d (di (a0.length:Int))),(35,.d (di x))],[]⟩) hy3 (wc) ?_
 rintro v35 sy3 p3
 replace p3:uE a0 v35=some sy3:=p3
 unfold uE at p3
 refine Q22 ?_
 refine z1 p3 (fun p3=>?_) (fun p3=>?_)
 refine Q29 ?_
 have ⟨t37,ht37,p3⟩:=bE p3
 refine q11 S23 ht37 ?_
 refine q90 zKT ht37 ?_
 refine z1J ?_
 refine zO (z2 (t:=8) (lq rfl) rfl rfl rfl) ?_
 refine Q0 ?_
 refine q5 zCW ?_
 refine q6 O33 ?_
 refine q4 yD ?_
 refine Q54 ?_
 refine z1 p3 (fun p3=>?_) (fun p3=>?_)
 refine Q17 ?_
 cases p3
 intro q;cases q
 exact ⟨rfl,wc⟩
 refine Q57 ?_
 cases p3
 exact wc
 refine zF ?_
 cases p3
 intro q;cases q
 exact ⟨rfl,wc⟩
 rintro y3 rfl
 replace h:=eL h
 refine Q4 ?_
 refine z1I ?_
 have ⟨y4,hy4,h⟩:=bE h
 refine zR y4 (.exit 6) (fun y4=>⟨[],[]⟩) .ret (fun y4=>⟨[(2,.d (di y4))],[]⟩) ?_ ?_ ?_
 refine zD (fun x=>⟨[(44,.d (zS eMapping a0)),(45,.d (di (a0.length:Int))),(46,.d (di x))],[]⟩) hy4 (wc) ?_
 rintro v46 sy4 p4
 replace p4:uF a0 v46=some sy4:=p4
 unfold uF at p4
 refine Q22 ?_
 refine z1 p4 (fun p4=>?_) (fun p4=>?_)
 refine Q29 ?_
 have ⟨t48,ht48,p4⟩:=bE p4
 refine q11 S23 ht48 ?_
 refine q90 zKT ht48 ?_
 refine z1J ?_
 refine zO (z2 (t:=10) (lq rfl) rfl rfl rfl) ?_
 refine Q0 ?_
 refine q5 zBO ?_
 refine q6 O9 ?_
 refine z5E ?_
 have ⟨b53,hb53,p4⟩:=bE p4
 refine z9 ((zC (lq rfl) rfl).bool (oi hb53)) ?_
 refine q54 (.ip (eMapping.cells t48) (0+2)) zBO ?_
 refine q62 (.d (ds t48.Tag)) O9 ?_
 have ⟨t56,ht56,p4⟩:=bE p4
 refine sqt (.d (db t56)) rfl (fun hb=>by subst hb;exact wD (lq rfl) rfl (zOI ht56)) ?_
 refine zYP (.d (db (!t56))) ?_
 refine Q36 ?_
 refine z1 p4 (fun p4=>?_) (fun p4=>?_)
 refine Q17 ?_
 cases p4
 intro q;cases q
 exact ⟨rfl,wc⟩
 refine Q57 ?_
 cases p4
 exact wc
 refine zF ?_
 cases p4
 intro q;cases q
 exact ⟨rfl,wc⟩
 rintro y4 rfl
 replace h:=eL h
 refine Q3 ?_
 cases h
 refine zB ?_
 exact zI rfl
 rintro y4 rfl
 replace h:=eR h
 cases h
 exact zI rfl
 rintro y3 rfl
 replace h:=eR h
 cases h
 exact zI rfl
 rintro y1 rfl
 replace h:=eR h
 cases h
 exact zI rfl
theorem zG3 {a0 r} (h:zA4 a0=some r):zG Tryz.prog 144 [(ds a0)] [(db r)]:=by
 refine co Tryz.func144 ?_;intro _ _ _ _
 unfold zA4 at h
 refine Q3 ?_
 refine Q15 ?_
 refine z5E ?_
 refine Q1 ?_
 cases h
 refine zB ?_
 exact zI rfl
theorem zKV {a0 a1 r} (h:uQ a0 a1=some r):zG Tryz.prog 135 [(ds a0),(ds a1)] [(di r)]:=by
 refine co Tryz.func135 ?_;intro _ _ _ _
 unfold uQ at h
 refine Q59 ?_
 have ⟨t8,ht8,h⟩:=bE h
 refine q8 (zG3 ht8) ?_
 refine Q19 ?_
 have ⟨t10,ht10,h⟩:=bE h
 refine q8 (zG3 ht10) ?_
 refine Q1 ?_
 refine z1G ?_
 refine z1 h (fun h=>?_) (fun h=>?_)
 refine z1G ?_
 refine z1 h (fun h=>?_) (fun h=>?_)
 refine Q3 ?_
 cases h
 refine zB ?_
 exact zI rfl
 refine Q58 ?_
 cases h
 refine zB ?_
 exact zI rfl
 refine Q95 ?_
 refine zK ?_
 refine z1 h (fun h=>?_) (fun h=>?_)
 refine Q3 ?_
 cases h
 refine zB ?_
 exact zI rfl
 refine zL<|Q12 ?_
 refine z9 (z7Q (a:=a0) (b:=a1) (lq rfl) rfl rfl) ?_
 refine zK ?_
 refine z1 h (fun h=>?_) (fun h=>?_)
 refine Q3 ?_
 cases h
 refine zB ?_
 exact zI rfl
 refine zL<|Q12 ?_
 refine z9 (yF0 (a:=a0) (b:=a1) (lq rfl) rfl rfl) ?_
 refine zK ?_
 refine z1 h (fun h=>?_) (fun h=>?_)
 refine Q3 ?_
 cases h
 refine zB ?_
 exact zI rfl
 refine Q58 ?_
 cases h
 refine zB ?_
 exact zI rfl
theorem zND {a0 r} (h:zEP a0=some r):zG Tryz.prog 134 [(zS eI a0)] [(di r)]:=by
 refine co Tryz.func134 ?_;intro _ _ _ _
 unfold zEP at h
 refine Q3 ?_
 refine Q47 ?_
 refine Q94 ?_
 have ⟨y1,hy1,h⟩:=bE h
 refine zR y1 (.exit 0) (fun y1=>⟨[(3,.d (di 0))],[]⟩) .ret (fun y1=>⟨[(2,.d (di y1))],[]⟩) ?_ ?_ ?_
 refine zD (fun x=>⟨[(3,.d (di 0)),(6,.d (zS eI a0)),(7,.d (di (a0.length:Int))),(8,.d (di x))],[]⟩) hy1 (wc) ?_
 rintro v8 sy1 p1
 replace p1:zB4 a0 v8=some sy1:=p1
 unfold zB4 at p1
 refine Q22 ?_
 refine z1 p1 (fun p1=>?_) (fun p1=>?_)
 refine Q29 ?_
 have ⟨t10,ht10,p1⟩:=bE p1
 refine q11 yD ht10 ?_
 refine q35 O3 ht10 ?_
 refine Q1 ?_
 refine Q15 ?_
 refine Q33 ?_
 refine z1 p1 (fun p1=>?_) (fun p1=>?_)
 refine Q35 ?_
 refine zB ?_
 cases p1
 intro q;cases q
 exact ⟨rfl,wc⟩
 refine Q57 ?_
 cases p1
 exact wc
 refine zF ?_
 cases p1
 intro q;cases q
 exact ⟨rfl,wc⟩
 rintro y1 rfl
 replace h:=eL h
 refine Q35 ?_
 cases h
 refine zB ?_
 exact zI rfl
 rintro y1 rfl
 replace h:=eR h
 cases h
 exact zI rfl
theorem zNE {a0 a1 r} (h:zB0 a0 a1=some r):zG Tryz.prog 120 [(eMapping.dv a0),(eMapping.dv a1)] [(di r)]:=by
 refine co Tryz.func120 ?_;intro _ _ _ _
 unfold zB0 at h
 refine Q40 ?_
 refine q40 ?_
 refine Q16 ?_
 refine z3 MX rfl ?_
 refine q19 zEZ ?_
 refine q33 O3 ?_
 refine q19 zEZ ?_
 refine q33 O3 ?_
 have ⟨t9,ht9,h⟩:=bE h
 refine q22 (xV ht9) ?_
 refine q19 zBO ?_
 refine q33 O9 ?_
 refine q19 zBO ?_
 refine q33 O9 ?_
 have ⟨t14,ht14,h⟩:=bE h
 refine q22 (zKV ht14) ?_
 refine yCU yD ?_
 have ⟨t16,ht16,h⟩:=bE h
 refine q22 (zND ht16) ?_
 refine Q51 ?_
 cases h
 refine zB ?_
 exact zI rfl
theorem zJT {a0 r} (h:zDG a0=some r):zG Tryz.prog 121 [(eMapping.dv a0)] [(eMapping_key.dv r)]:=by
 refine co Tryz.func121 ?_;intro _ _ _ _
 unfold zDG at h
 refine Q40 ?_
 refine yF rfl (yP (zs:=[(.int IntKind.i64 (0)),(.string ⟨#[]⟩)]) (lq rfl) (by kernel_rfl) rfl rfl) ?_
 refine Q52 ?_
 refine zVU ?_
 refine q5 zBO ?_
 refine q6 O9 ?_
 refine q48 yJ0 ?_
 refine q16 yIE ?_
 refine zK ?_
 cases h
 refine zB ?_
 exact xJ rfl rfl yIE rfl
theorem zPW {a0 r} (h:zDH a0=some r):zG Tryz.prog 95 [(zS eMapping a0)] [(di r)]:=by
 refine co Tryz.func95 ?_;intro _ _ _ _
 unfold zDH at h
 refine Q47 ?_
 have ⟨t10,ht10,h⟩:=bE h
 refine q8 (zPV ht10) ?_
 refine Q62 ?_
 refine z1 h (fun h=>?_) (fun h=>?_)
 refine Q35 ?_
 cases h
 refine zB ?_
 exact zI rfl
 refine Q58 ?_
 refine Q32 ?_
 have ⟨y1,hy1,h⟩:=bE h
 refine tl (.exit 0) ⟨[(0,.d (zS eMapping a0)),(4,.d (db y1))],[]⟩ ?_ ?_
 refine zD (fun x=>⟨[(0,.d (zS eMapping a0)),(4,.d (db x.1)),(5,.d (di x.2))],[]⟩) hy1 (wc) ?_
 rintro ⟨v4,v5⟩ sy1 p1
 replace p1:wH a0 v4 v5=some sy1:=p1
 unfold wH at p1
 refine Q60 ?_
 refine z1 p1 (fun p1=>?_) (fun p1=>?_)
 refine Q5 ?_
 have ⟨y2,hy2,p1⟩:=bE p1
 refine tl .normal ⟨[(0,.d (zS eMapping a0)),(4,.d (db y2)),(5,.d (di v5))],[]⟩ ?_ ?_
 refine yY<|kF ?_
 refine z3 MX rfl ?_
 refine Q27 ?_
 refine zYQ ?_
 have ⟨t23,ht23,hy2⟩:=bE hy2
 refine q23 S23 ht23 ?_
 refine yCV zKT ht23 ?_
 refine Q27 ?_
 have ⟨t27,ht27,hy2⟩:=bE hy2
 refine q23 S23 ht27 ?_
 refine yCV zKT ht27 ?_
 have ⟨t29,ht29,hy2⟩:=bE hy2
 refine q22 (zNE ht29) ?_
 refine vO (zKC (lq rfl) rfl rfl) ?_
 refine xZ ?_
 refine z1 hy2 (fun hy2=>?_) (fun hy2=>?_)
 refine xG<|Q1 ?_
 cases hy2
 exact zH (wc)
 refine zL ?_
 cases hy2
 exact zH (wc)
 refine Q11 ?_
 cases p1
 exact wc
 refine zF ?_
 cases p1
 intro q;cases q
 exact zH (wc)
 refine z1G ?_
 refine z1 h (fun h=>?_) (fun h=>?_)
 refine Q3 ?_
 cases h
 refine zB ?_
 exact zI rfl
 refine Q50 ?_
 refine z8R ?_
 refine Q13 ?_
 refine Q4 ?_
 refine z1I ?_
 have ⟨y3,hy3,h⟩:=bE h
 refine zR y3 (.exit 2) (fun y3=>⟨[],[]⟩) .ret (fun y3=>⟨[(2,.d (di y3))],[]⟩) ?_ ?_ ?_
 refine zD (fun x=>⟨[(6,.row 32),(33,.d (zS eMapping a0)),(34,.d (di (a0.length:Int))),(35,.d (di x.1))],[(32,.map (wY zF8 eB x.2))]⟩) hy3 (wc) ?_
 rintro ⟨v35,r32⟩ sy3 p3
 replace p3:wI a0 v35 r32=some sy3:=p3
 unfold wI at p3
 refine Q22 ?_
 refine z1 p3 (fun p3=>?_) (fun p3=>?_)
 refine Q29 ?_
 have ⟨t37,ht37,p3⟩:=bE p3
 refine q11 S23 ht37 ?_
 refine q90 zKT ht37 ?_
 refine z1J ?_
 refine zO (z2 (t:=8) (lq rfl) rfl rfl rfl) ?_
 refine Q31 ?_
 refine q10 ?_
 refine q21 zKT ?_
 have ⟨t41,ht41,p3⟩:=bE p3
 refine q8 (zJT ht41) ?_
 refine z9 (z40 (kv:=zF8) (ev:=eB) (mp:=r32) (k:=t41) (zero:=false) (lq rfl) yIH yIO rfl rfl rfl (yB1 rfl) (fun _ _=> .v _)) ?_
 refine zK ?_
 refine z1 p3 (fun p3=>?_) (fun p3=>?_)
 refine Q17 ?_
 cases p3
 intro q;cases q
 exact ⟨rfl,wc⟩
 refine zL<|Q64 ?_
 refine q21 zKT ?_
 have ⟨t45,ht45,p3⟩:=bE p3
 refine q8 (zJT ht45) ?_
 refine yF rfl (zM8 (kv:=zF8) (ev:=eB) (mp:=r32) (k:=t45) (v:=true) yIH yIO rfl rfl rfl (yB1 rfl) rfl rfl rfl) ?_
 refine zK<|Q24 ?_
 cases p3
 exact wc
 refine zF ?_
 cases p3
 intro q;cases q
 exact ⟨rfl,wc⟩
 rintro y3 rfl
 replace h:=eL h
 refine Q3 ?_
 cases h
 refine zB ?_
 exact zI rfl
 rintro y3 rfl
 replace h:=eR h
 cases h
 exact zI rfl
set_option maxRecDepth 20000 in
theorem zNF {a0 r} (h:zFZ a0=some r):zG Tryz.prog 158 [(.v (.int .u64 a0))] [(di r)]:=by
 refine co Tryz.func158 ?_;intro _ _ _ _
 unfold zFZ at h
 refine Q47 ?_
 refine Q99 ?_
 have ⟨y1,hy1,h⟩:=bE h
 refine tl .normal ⟨[(0,.d (.v (.int .u64 y1.1))),(2,.d (di y1.2))],[]⟩ ?_ ?_
 refine z1 hy1 (fun hy1=>?_) (fun hy1=>?_)
 refine Q2 ?_
 refine q71 ?_
 refine Q1 ?_
 refine xG<|Q1 ?_
 cases hy1
 exact zH (wc)
 refine zL ?_
 cases hy1
 exact zH (wc)
 refine Q4 ?_
 refine Q99 ?_
 have ⟨y2,hy2,h⟩:=bE h
 refine tl .normal ⟨[(0,.d (.v (.int .u64 y2.1))),(2,.d (di y2.2))],[]⟩ ?_ ?_
 refine z1 hy2 (fun hy2=>?_) (fun hy2=>?_)
 refine Q2 ?_
 refine q71 ?_
 refine Q1 ?_
 refine Q11 ?_
 cases hy2
 exact zH (wc)
 refine zL ?_
 cases hy2
 exact zH (wc)
 refine Q4 ?_
 refine Q99 ?_
 have ⟨y3,hy3,h⟩:=bE h
 refine tl .normal ⟨[(0,.d (.v (.int .u64 y3.1))),(2,.d (di y3.2))],[]⟩ ?_ ?_
 refine z1 hy3 (fun hy3=>?_) (fun hy3=>?_)
 refine Q2 ?_
 refine q71 ?_
 refine Q1 ?_
 refine Q11 ?_
 cases hy3
 exact zH (wc)
 refine zL ?_
 cases hy3
 exact zH (wc)
 refine Q15 ?_
 refine q49 Tryz.underlying195 Tryz.underlying5 ?_
 have ⟨t22,ht22,h⟩:=bE h
 refine yCL Tryz.underlying9 ht22 ?_
 refine q49 Tryz.underlying5 Tryz.underlying3 ?_
 refine Q9 ?_
 cases h
 refine zB ?_
 exact zI rfl
theorem zPX {a0 r} (h:zDI a0=some r):zG Tryz.prog 146 [(.v (.int .u64 a0))] [(di r)]:=by
 refine co Tryz.func146 ?_;intro _ _ _ _
 unfold zDI at h
 refine Q3 ?_
 refine kF ?_
 refine z1 h (fun h=>?_) (fun h=>?_)
 refine Q2 ?_
 refine q49 Tryz.underlying125 Tryz.underlying124 ?_
 cases h
 refine zL<|Q2 ?_
 have ⟨t7,ht7,h⟩:=bE h
 refine q8 (zNF ht7) ?_
 refine Q1 ?_
 cases h
 refine zB ?_
 exact zI rfl
set_option maxHeartbeats 8000000 in
theorem zCI {fv3:DV} {a0:(List Range)} {a1:Int} {a2:Int} {a3:Range→Range→Option (Int)} (hf3:∀x0 x1 y,a3 x0 x1=some y→FnC Tryz.prog fv3 [(eRange.dv x0),(eRange.dv x1)] [(di y)]) {r:(List Range)} (h:kL a0 a1 a2 a3=some r):GC Tryz.prog 149 [.row 3000,.d (di a1),.d (di a2),.d fv3] [(3000,.row 143 eRange.size false (eRange.all a0))] [3000] [] [(3000,.row 143 eRange.size false (eRange.all r))]:=by
 refine zC7 Tryz.func149 (by kernel_rfl) rfl (lq rfl) (lq rfl) fun w0 I0 hG0 p0=>?_
 unfold kL at h
 refine Q2 ?_
 refine Q9 ?_
 refine yY ?_
 have ⟨y1,hy1,h⟩:=bE h
 refine tl (.exit 0) ⟨[(0,.row 3000)],[(3000,.row 143 eRange.size false (eRange.all y1))]⟩ ?_ ?_
 refine zD (fun x=>⟨[(0,.row 3000),(1,.d (di a1)),(2,.d (di a2)),(3,.d fv3),(8,.d (di x.1))],[(3000,.row 143 eRange.size false (eRange.all x.2))]⟩) hy1 (wc) ?_
 rintro ⟨v8,r3000⟩ sy1 p1
 replace p1:z6 a2 a1 a3 v8 r3000=some sy1:=p1
 unfold z6 at p1
 refine Q72 ?_
 refine z1 p1 (fun p1=>?_) (fun p1=>?_)
 refine Q8 ?_
 refine Q35 ?_
 refine yY ?_
 have ⟨y2,hy2,p1⟩:=bE p1
 refine tl (.exit 2) ⟨[(0,.row 3000),(1,.d (di a1)),(2,.d (di a2)),(3,.d fv3),(8,.d (di v8))],[(3000,.row 143 eRange.size false (eRange.all y2))]⟩ ?_ ?_
 refine zD (fun x=>⟨[(0,.row 3000),(1,.d (di a1)),(2,.d (di a2)),(3,.d fv3),(8,.d (di v8)),(9,.d (di x.1))],[(3000,.row 143 eRange.size false (eRange.all x.2))]⟩) hy2 (wc) ?_
 rintro ⟨v9,r3000⟩ sy2 p2
 replace p2:yJ a1 a3 v9 r3000=some sy2:=p2
 unfold yJ at p2
 refine kF<|kF ?_
 refine z3 MX rfl ?_
 refine Q27 ?_
 refine z02 ?_
 have ⟨b21,hb21,p2⟩:=bE p2
 refine vO ((zC (lq rfl) rfl).bool (oi hb21)) ?_
 refine q59 (.d fv3) ?_
 refine z8Y (.row 3000) ?_
 refine q59 (.d (di v9)) ?_
 have ⟨t25,ht25,p2⟩:=bE p2
 refine dat (.ptr 3000 (v9.toNat*eRange.size)) rfl (fun hb=>by subst hb;exact zDC (en:=eRange) (l:=r3000) (lq rfl) S24 rfl rfl rfl ht25) ?_
 refine dat (.d (eRange.dv t25)) rfl (fun hb=>by subst hb;exact wE (en:=eRange) (l:=r3000) (i:=v9) (v:=t25) (off:=0) (lq rfl) zB1 rfl rfl ht25 rfl rfl (by decide)) ?_
 refine z8Y (.row 3000) ?_
 refine q59 (.d (di v9)) ?_
 refine z5F (.d (di (wi (v9 - 1)))) ?_
 have ⟨t30,ht30,p2⟩:=bE p2
 refine dat (.ptr 3000 ((wi (v9 - 1)).toNat*eRange.size)) rfl (fun hb=>by subst hb;exact zDC (en:=eRange) (l:=r3000) (lq rfl) S24 rfl rfl rfl ht30) ?_
 refine dat (.d (eRange.dv t30)) rfl (fun hb=>by subst hb;exact wE (en:=eRange) (l:=r3000) (i:=(wi (v9 - 1))) (v:=t30) (off:=0) (lq rfl) zB1 rfl rfl ht30 rfl rfl (by decide)) ?_
 have ⟨t32,ht32,p2⟩:=bE p2
 refine dat (.d (di t32)) rfl (fun hb=>by subst hb;exact zE6 (lq rfl) rfl rfl (hf3 _ _ _ ht32)) ?_
 refine dat (.d (db (decide (t32 < 0)))) rfl (fun hb=>by subst hb;exact zMW (lq rfl) rfl rfl) ?_
 refine Q98 ?_
 refine z1 p2 (fun p2=>?_) (fun p2=>?_)
 refine Q8 ?_
 have ⟨t45,ht45,p2⟩:=bE p2
 have ⟨t49,ht49,p2⟩:=bE p2
 have ⟨t51,ht51,p2⟩:=bE p2
 have ⟨r3000_6x15,hr3000_6x15,p2⟩:=bE p2
 have ⟨t52,ht52,p2⟩:=bE p2
 have ⟨r3000_6x17,hr3000_6x17,p2⟩:=bE p2
 refine tl .normal ⟨[(0,.row 3000),(1,.d (di a1)),(2,.d (di a2)),(3,.d fv3),(8,.d (di v8)),(9,.d (di v9))],[(3000,.row 143 eRange.size false (eRange.all r3000_6x17))]⟩ ?_ ?_
 refine zD6 MX ?_
 refine z5W ?_
 refine xm 3 ?_
 refine zI7 (i:=4) rfl (lq rfl) rfl rfl rfl rfl rfl rfl ?_
 refine xm 5 ?_
 refine xm 6 ?_
 refine zI7 (i:=7) rfl (lq rfl) rfl rfl rfl rfl rfl rfl ?_
 refine xm 10 ?_
 refine xm 11 ?_
 refine xn [8,12] ?_
 refine yCW S24 ht45 ?_ ?_
 refine xn [9,12] ?_
 refine xa rfl (wE (en:=eRange) (l:=r3000) (i:=(wi (v9 - 1))) (v:=t45) (off:=0) (lq rfl) zB1 rfl rfl ht45 rfl rfl (by decide)) ?_ ?_
 refine xn [12] ?_
 refine q34 S24 ht49 ?_
 refine xn [13] ?_
 refine xc rfl (wE (en:=eRange) (l:=r3000) (i:=v9) (v:=t49) (off:=0) (lq rfl) zB1 rfl rfl ht49 rfl rfl (by decide)) ?_
 refine xn [14] ?_
 refine q34 S24 ht51 ?_
 refine xn [15] ?_
 refine q74 zB1 hr3000_6x15 ?_
 refine xn [16] ?_
 refine q34 S24 ht52 ?_
 refine xn [17] ?_
 refine q74 zB1 hr3000_6x17 ?_
 exact ae
 refine q34 S24 ht49 ?_
 refine xn [9,13] ?_
 refine xa rfl (wE (en:=eRange) (l:=r3000) (i:=(wi (v9 - 1))) (v:=t45) (off:=0) (lq rfl) zB1 rfl rfl ht45 rfl rfl (by decide)) ?_ ?_
 refine xn [13] ?_
 refine xc rfl (wE (en:=eRange) (l:=r3000) (i:=v9) (v:=t49) (off:=0) (lq rfl) zB1 rfl rfl ht49 rfl rfl (by decide)) ?_
 refine xn [14] ?_
 refine q34 S24 ht51 ?_
 refine xn [15] ?_
 refine q74 zB1 hr3000_6x15 ?_
 refine xn [16] ?_
 refine q34 S24 ht52 ?_
 refine xn [17] ?_
 refine q74 zB1 hr3000_6x17 ?_
 exact ae
 refine xc rfl (wE (en:=eRange) (l:=r3000) (i:=v9) (v:=t49) (off:=0) (lq rfl) zB1 rfl rfl ht49 rfl rfl (by decide)) ?_
 refine xn [9] ?_
 refine xc rfl (wE (en:=eRange) (l:=r3000) (i:=(wi (v9 - 1))) (v:=t45) (off:=0) (lq rfl) zB1 rfl rfl ht45 rfl rfl (by decide)) ?_
 refine xn [14] ?_
 refine q34 S24 ht51 ?_
 refine xn [15] ?_
 refine q74 zB1 hr3000_6x15 ?_
 refine xn [16] ?_
 refine q34 S24 ht52 ?_
 refine xn [17] ?_
 refine q74 zB1 hr3000_6x17 ?_
 exact ae
 refine q34 S24 ht49 ?_
 refine xn [8,13] ?_
 refine yCW S24 ht45 ?_ ?_
 refine xn [9,13] ?_
 refine xa rfl (wE (en:=eRange) (l:=r3000) (i:=(wi (v9 - 1))) (v:=t45) (off:=0) (lq rfl) zB1 rfl rfl ht45 rfl rfl (by decide)) ?_ ?_
 refine xn [13] ?_
 refine xc rfl (wE (en:=eRange) (l:=r3000) (i:=v9) (v:=t49) (off:=0) (lq rfl) zB1 rfl rfl ht49 rfl rfl (by decide)) ?_
 refine xn [14] ?_
 refine q34 S24 ht51 ?_
 refine xn [15] ?_
 refine q74 zB1 hr3000_6x15 ?_
 refine xn [16] ?_
 refine q34 S24 ht52 ?_
 refine xn [17] ?_
 refine q74 zB1 hr3000_6x17 ?_
 exact ae
 refine xc rfl (wE (en:=eRange) (l:=r3000) (i:=v9) (v:=t49) (off:=0) (lq rfl) zB1 rfl rfl ht49 rfl rfl (by decide)) ?_
 refine xn [9] ?_
 refine xc rfl (wE (en:=eRange) (l:=r3000) (i:=(wi (v9 - 1))) (v:=t45) (off:=0) (lq rfl) zB1 rfl rfl ht45 rfl rfl (by decide)) ?_
 refine xn [14] ?_
 refine q34 S24 ht51 ?_
 refine xn [15] ?_
 refine q74 zB1 hr3000_6x15 ?_
 refine xn [16] ?_
 refine q34 S24 ht52 ?_
 refine xn [17] ?_
 refine q74 zB1 hr3000_6x17 ?_
 exact ae
 refine xc rfl (wE (en:=eRange) (l:=r3000) (i:=v9) (v:=t49) (off:=0) (lq rfl) zB1 rfl rfl ht49 rfl rfl (by decide)) ?_
 refine xn [8] ?_
 refine q34 S24 ht45 ?_
 refine xn [9] ?_
 refine xc rfl (wE (en:=eRange) (l:=r3000) (i:=(wi (v9 - 1))) (v:=t45) (off:=0) (lq rfl) zB1 rfl rfl ht45 rfl rfl (by decide)) ?_
 refine xn [14] ?_
 refine q34 S24 ht51 ?_
 refine xn [15] ?_
 refine q74 zB1 hr3000_6x15 ?_
 refine xn [16] ?_
 refine q34 S24 ht52 ?_
 refine xn [17] ?_
 refine q74 zB1 hr3000_6x17 ?_
 exact ae
 refine Q7 ?_
 refine Q73 ?_
 cases p2
 exact wc
 refine zF ?_
 cases p2
 intro q;cases q
 exact zH (wc)
 refine Q11 ?_
 cases p1
 exact wc
 refine zF ?_
 cases p1
 intro q;cases q
 exact zH (wc)
 cases h
 exact ⟨rfl,⟨rfl,trivial⟩⟩
theorem zD2 {fv4:DV} {a0:(List Range)} {a1:Int} {a2:Int} {a3:Int} {a4:Range→Range→Option (Int)} (hf4:∀x0 x1 y,a4 x0 x1=some y→FnC Tryz.prog fv4 [(eRange.dv x0),(eRange.dv x1)] [(di y)]) {r:(List Range)} (h:jU a0 a1 a2 a3 a4=some r):GC Tryz.prog 145 [.row 3000,.d (di a1),.d (di a2),.d (di a3),.d fv4] [(3000,.row 143 eRange.size false (eRange.all a0))] [3000] [] [(3000,.row 143 eRange.size false (eRange.all r))]:=by
 refine zC7 Tryz.func145 (by kernel_rfl) rfl (lq rfl) (lq rfl) fun w0 I0 hG0 p0=>?_
 unfold jU at h
 refine Q3 ?_
 refine Q14 ?_
 have ⟨y1,hy1,h⟩:=bE h
 refine tl .ret ⟨[(0,.row 3000)],[(3000,.row 143 eRange.size false (eRange.all y1))]⟩ ?_ ?_
 refine zD (fun x=>⟨[(0,.row 3000),(1,.d (di a1)),(2,.d (di a2)),(3,.d (di a3)),(4,.d fv4),(10,.d (db true)),(11,.d (db true))],[(3000,.row 143 eRange.size false (eRange.all a0))]⟩) hy1 (wc) ?_
 rintro _ sy1 p1
 replace p1:kD a2 a1 a0 a4 a3=some sy1:=p1
 unfold kD at p1
 have ⟨y2,hy2,p1⟩:=bE p1
 refine tl .ret ⟨[(0,.row 3000)],[(3000,.row 143 eRange.size false (eRange.all y2))]⟩ ?_ ?_
 refine Q75 ?_
 refine Q73 ?_
 refine Q4 ?_
 refine q70 ?_
 refine zK ?_
 refine z1 hy2 (fun hy2=>?_) (fun hy2=>?_)
 refine z1K ?_
 have ⟨t30,ht30,hy2⟩:=bE hy2
 refine yF rfl (zCZ [(3000,3000)] (zCI hf4 ht30) (lq rfl) (by decide) ⟨rfl,rfl,rfl,rfl,trivial⟩ rfl rfl ⟨rfl,trivial⟩ rfl rfl rfl rfl) ?_
 refine zK<|zB ?_
 cases hy2
 exact zH (wc)
 refine Q95 ?_
 refine Q87 ?_
 refine z1 hy2 (fun hy2=>?_) (fun hy2=>?_)
 refine z1K ?_
 cases hy2
 refine Q95 ?_
 refine Q42 ?_
 have ⟨y3,hy3,hy2⟩:=bE hy2
 refine tl .normal ⟨[(0,.row 3000),(1,.d (di a1)),(2,.d (di a2)),(3,.d (di a3)),(4,.d fv4),(10,.d (db true)),(11,.d (db true)),(12,.d (di (wi (a2 - a1))))],[(3000,.row 143 eRange.size false (eRange.all a0))]⟩ ?_ ?_
 refine z1 hy3 (fun hy3=>?_) (fun hy3=>?_)
 refine z1K ?_
 cases hy3
 refine zL ?_
 cases hy3
 exact zH (wc)
 refine z1K ?_
 cases hy2
 cases p1
 intro q;cases q
 exact zH (wc)
 cases h
 exact ⟨rfl,⟨rfl,trivial⟩⟩
theorem zC4 {fv1:DV} {a0:(List Range)} {a1:Range→Range→Option (Int)} (hf1:∀x0 x1 y,a1 x0 x1=some y→FnC Tryz.prog fv1 [(eRange.dv x0),(eRange.dv x1)] [(di y)]) {r:(List Range)} (h:kR a0 a1=some r):GC Tryz.prog 136 [.row 3000,.d fv1] [(3000,.row 143 eRange.size false (eRange.all a0))] [3000] [] [(3000,.row 143 eRange.size false (eRange.all r))]:=by
 refine zC7 Tryz.func136 (by kernel_rfl) rfl (lq rfl) (lq rfl) fun w0 I0 hG0 p0=>?_
 unfold kR at h
 refine Q43 ?_
 refine z5H S24 ?_
 refine Q1 ?_
 refine Q63 ?_
 refine q49 Tryz.underlying3 Tryz.underlying125 ?_
 have ⟨t11,ht11,h⟩:=bE h
 refine q8 (zPX ht11) ?_
 refine q0 ?_
 have ⟨t13,ht13,h⟩:=bE h
 refine yF rfl (zCZ [(3000,3000)] (zD2 hf1 ht13) (lq rfl) (by decide) ⟨rfl,rfl,rfl,rfl,rfl,trivial⟩ rfl rfl ⟨rfl,trivial⟩ rfl rfl rfl rfl) ?_
 refine zK ?_
 cases h
 exact ⟨rfl,⟨rfl,trivial⟩⟩
theorem zRM {a0 a1 r} (h:zAJ a0 a1=some r):zG Tryz.prog 137 [(eRange.dv a0),(eRange.dv a1)] [(di r)]:=by
 refine co Tryz.func137 ?_;intro _ _ _ _
 unfold zAJ at h
 refine Q0 ?_
 refine z9 (zM3 (size:=2) (lq rfl) rfl rfl) ?_
 refine z9 (zM3 (size:=2) (lq rfl) rfl rfl) ?_
 refine Q16 ?_
 refine z3 MX rfl ?_
 refine q19 zH4 ?_
 refine q33 O3 ?_
 refine q19 zH4 ?_
 refine q33 O3 ?_
 have ⟨t9,ht9,h⟩:=bE h
 refine q22 (xV ht9) ?_
 refine q19 zEB ?_
 refine q33 O3 ?_
 refine q19 zEB ?_
 refine q33 O3 ?_
 have ⟨t14,ht14,h⟩:=bE h
 refine q22 (xV ht14) ?_
 refine yCU yD ?_
 have ⟨t16,ht16,h⟩:=bE h
 refine q22 (zND ht16) ?_
 refine Q51 ?_
 cases h
 refine zB ?_
 exact zI rfl
theorem zVW {a0 r} (h:zGU a0=some r):zG Tryz.prog 122 [(zS eRange a0)] [(eSet.dv r)]:=by
 refine co Tryz.func122 ?_;intro _ _ _ _
 unfold zGU at h
 refine Q0 ?_
 refine z5I ?_
 refine zK<|Q3 ?_
 refine zO (xC (t:=3) 1003 143 eRange.size (lq rfl) (lq rfl) rfl rfl) ?_
 refine Q4 ?_
 refine q4 S24 ?_
 refine Q30 ?_
 have ⟨y1,hy1,h⟩:=bE h
 refine tl (.exit 0) ⟨[(2,.ptr 2 0),(3,.row 1003)],[(2,.box 26 [.d (.v (.slice none 0 0))]),(1003,.row 143 eRange.size false (eRange.all y1))]⟩ ?_ ?_
 refine zD (fun x=>⟨[(2,.ptr 2 0),(3,.row 1003),(11,.d (zS eRange a0)),(12,.d (di (a0.length:Int))),(13,.d (di x.1))],[(2,.box 26 [.d (.v (.slice none 0 0))]),(1003,.row 143 eRange.size false (eRange.all x.2))]⟩) hy1 (wc) ?_
 rintro ⟨v13,r1003⟩ sy1 p1
 replace p1:zAR a0 v13 r1003=some sy1:=p1
 unfold zAR at p1
 refine Q22 ?_
 refine z1 p1 (fun p1=>?_) (fun p1=>?_)
 refine Q5 ?_
 have ⟨y2,hy2,p1⟩:=bE p1
 refine tl .normal ⟨[(2,.ptr 2 0),(3,.row 1003),(11,.d (zS eRange a0)),(12,.d (di (a0.length:Int))),(13,.d (di v13))],[(2,.box 26 [.d (.v (.slice none 0 0))]),(1003,.row 143 eRange.size false (eRange.all y2))]⟩ ?_ ?_
 refine zYW ?_
 have ⟨t15,ht15,hy2⟩:=bE hy2
 refine q11 S24 ht15 ?_
 refine z9 (wX (en:=eRange) (l:=a0) (i:=v13) (v:=t15) (off:=0) (lq rfl) zB1 rfl ht15 rfl rfl (by decide)) ?_
 refine z04 ?_
 refine z1H ?_
 refine zO (z2 (t:=5) (lq rfl) rfl rfl rfl) ?_
 refine Q0 ?_
 refine q5 zH4 ?_
 refine q6 O3 ?_
 refine yCX ?_
 refine q5 zEB ?_
 refine q6 O3 ?_
 refine z8T ?_
 refine q48 zYF ?_
 refine z04 ?_
 refine z1H ?_
 refine zO (z2 (t:=6) (lq rfl) rfl rfl rfl) ?_
 refine Q0 ?_
 refine q5 zH4 ?_
 refine q6 O3 ?_
 refine q5 zEB ?_
 refine q6 O3 ?_
 refine q70 ?_
 refine zK ?_
 refine z1 hy2 (fun hy2=>?_) (fun hy2=>?_)
 refine Q64 ?_
 refine q21 zB1 ?_
 refine q24 S24 ?_
 have ⟨r1003_3,hr1003_3,hy2⟩:=bE hy2
 refine yF rfl (yK (en:=eRange) (l:=r1003) (m:=[({Lo:=max t15.Lo 0,Hi:=min t15.Hi 1114111}:Range)]) (lq rfl) S24 rfl rfl rfl hr1003_3 (by decide) (by decide) rfl rfl) ?_
 refine Q13 ?_
 cases hy2
 exact zH (wc)
 refine zL ?_
 cases hy2
 exact zH (wc)
 refine Q24 ?_
 cases p1
 exact wc
 refine zF ?_
 cases p1
 intro q;cases q
 exact zH (wc)
 refine Q43 ?_
 have ⟨t35,ht35,h⟩:=bE h
 refine yF rfl (zDV [(3000,1003)] (zC4 (fun _ _ _ q=> .inr ⟨_,rfl,zRM q⟩) ht35) (lq rfl) (by decide) ⟨rfl,rfl,trivial⟩ rfl rfl ⟨rfl,trivial⟩ rfl rfl rfl (fun _=>rfl) rfl) ?_
 refine zK<|Q3 ?_
 refine zO (xC (t:=7) 1007 143 eRange.size (lq rfl) (lq rfl) rfl rfl) ?_
 refine Q31 ?_
 refine q10 ?_
 refine z5H S24 ?_
 refine Q30 ?_
 have ⟨y4,hy4,h⟩:=bE h
 refine tl (.exit 2) ⟨[(2,.ptr 2 0),(7,.row 1007)],[(2,.box 26 [.d (.v (.slice none 0 0))]),(1007,.row 143 eRange.size false (eRange.all y4))]⟩ ?_ ?_
 refine zD (fun x=>⟨[(2,.ptr 2 0),(7,.row 1007),(36,.row 1003),(37,.d (di (t35.length:Int))),(38,.d (di x.1))],[(2,.box 26 [.d (.v (.slice none 0 0))]),(1003,.row 143 eRange.size false (eRange.all t35)),(1007,.row 143 eRange.size false (eRange.all x.2))]⟩) hy4 (wc) ?_
 rintro ⟨v38,r1007⟩ sy4 p4
 replace p4:zAS t35 v38 r1007=some sy4:=p4
 unfold zAS at p4
 refine Q22 ?_
 refine z1 p4 (fun p4=>?_) (fun p4=>?_)
 refine Q5 ?_
 have ⟨y5,hy5,p4⟩:=bE p4
 refine tl .normal ⟨[(2,.ptr 2 0),(7,.row 1007),(36,.row 1003),(37,.d (di (t35.length:Int))),(38,.d (di v38))],[(2,.box 26 [.d (.v (.slice none 0 0))]),(1003,.row 143 eRange.size false (eRange.all t35)),(1007,.row 143 eRange.size false (eRange.all y5))]⟩ ?_ ?_
 refine zYW ?_
 have ⟨t40,ht40,hy5⟩:=bE hy5
 refine q80 S24 ht40 ?_
 refine z9 (wE (en:=eRange) (l:=t35) (i:=v38) (v:=t40) (off:=0) (lq rfl) zB1 rfl rfl ht40 rfl rfl (by decide)) ?_
 refine z04 ?_
 refine z1H ?_
 refine zO (z2 (t:=9) (lq rfl) rfl rfl rfl) ?_
 refine Q31 ?_
 refine q10 ?_
 refine z5H S24 ?_
 refine Q16 ?_
 refine z3 MX rfl ?_
 refine q7 ?_
 refine z02 ?_
 have ⟨b46,hb46,hy5⟩:=bE hy5
 refine vO ((zC (lq rfl) rfl).bool (oi hb46)) ?_
 refine q97 (.ip (eRange.cells t40) (0+0)) zH4 ?_
 refine q98 (.d (di t40.Lo)) O3 ?_
 refine z8Y (.row 1007) ?_
 refine q59 (.d (di (r1007.length:Int))) ?_
 refine z5F (.d (di (wi ((r1007.length:Int) - 1)))) ?_
 have ⟨t52,ht52,hy5⟩:=bE hy5
 refine dat (.ptr 1007 ((wi ((r1007.length:Int) - 1)).toNat*eRange.size)) rfl (fun hb=>by subst hb;exact zDC (en:=eRange) (l:=r1007) (lq rfl) S24 rfl rfl rfl ht52) ?_
 refine dat (.ptr 1007 ((wi ((r1007.length:Int) - 1)).toNat*eRange.size+1)) rfl (fun hb=>by subst hb;exact zDQ (lq rfl) zEB rfl) ?_
 refine dat (.d (di t52.Hi)) rfl (fun hb=>by subst hb;exact xR (en:=eRange) (l:=r1007) (i:=(wi ((r1007.length:Int) - 1))) (v:=t52) (off:=1) (lq rfl) O3 rfl rfl ht52 rfl) ?_
 refine dat (.d (di (wi (t52.Hi+1)))) rfl (fun hb=>by subst hb;exact zT4 (lq rfl) rfl rfl) ?_
 refine dat (.d (db (decide (t40.Lo≤(wi (t52.Hi+1)))))) rfl (fun hb=>by subst hb;exact zID (lq rfl) rfl rfl) ?_
 refine Q98 ?_
 refine z1 hy5 (fun hy5=>?_) (fun hy5=>?_)
 refine kF ?_
 refine zFE 14 MX rfl ?_
 refine zYY ?_
 refine zYQ ?_
 refine zYY ?_
 refine zYQ ?_
 have ⟨t64,ht64,hy5⟩:=bE hy5
 refine vO (zDC (en:=eRange) (l:=r1007) (lq rfl) S24 rfl rfl rfl ht64) ?_
 refine zYO zEB ?_
 refine vO (xR (en:=eRange) (l:=r1007) (i:=(wi ((r1007.length:Int) - 1))) (v:=t64) (off:=1) (lq rfl) O3 rfl rfl ht64 rfl) ?_
 refine q19 zEB ?_
 refine q33 O3 ?_
 refine vO (z2D (lq rfl) rfl rfl) ?_
 have ⟨t70,ht70,hy5⟩:=bE hy5
 refine vO (zDC (en:=eRange) (l:=r1007) (lq rfl) S24 rfl rfl rfl ht70) ?_
 refine zYO zEB ?_
 refine xZ ?_
 have ⟨r1007_6,hr1007_6,hy5⟩:=bE hy5
 refine yF rfl (vF (en:=eRange) (l:=r1007) (i:=(wi ((r1007.length:Int) - 1))) (v:=t70) (off:=1) O3 rfl rfl rfl ht70 rfl (by decide) hr1007_6 rfl rfl) ?_
 refine zK<|zF ?_
 cases hy5
 exact zH (wc)
 refine zL<|Q64 ?_
 refine q21 zB1 ?_
 refine q24 S24 ?_
 have ⟨r1007_7,hr1007_7,hy5⟩:=bE hy5
 refine yF rfl (yK (en:=eRange) (l:=r1007) (m:=[t40]) (lq rfl) S24 rfl rfl rfl hr1007_7 (by decide) (by decide) rfl rfl) ?_
 refine Q13 ?_
 cases hy5
 exact zH (wc)
 refine Q24 ?_
 cases p4
 exact wc
 refine zF ?_
 cases p4
 intro q;cases q
 exact zH (wc)
 refine Q43 ?_
 refine zHK (zCL (t:=77) (lq rfl) rfl rfl) ?_ (by simp)
 refine q48 B26 ?_
 refine q16 G26 ?_
 refine zK ?_
 cases h
 refine zB ?_
 exact xJ rfl rfl G26 rfl
theorem zST {a0 r} (h:zFG a0=some r):zG Tryz.prog 96 [(eSet.dv a0)] [(db r)]:=by
 refine co Tryz.func96 ?_;intro _ _ _ _
 unfold zFG at h
 refine Q91 ?_
 refine Q39 ?_
 refine Q92 ?_
 have ⟨t8,ht8,h⟩:=bE h
 refine q8 (zVW ht8) ?_
 refine z5I ?_
 refine q16 G26 ?_
 refine zK ?_
 refine zO (z2 (t:=3) (lq rfl) rfl rfl rfl) ?_
 refine Q31 ?_
 refine Q97 ?_
 refine Q97 ?_
 refine Q33 ?_
 refine z1 h (fun h=>?_) (fun h=>?_)
 refine Q3 ?_
 cases h
 refine zB ?_
 exact zI rfl
 refine Q71 ?_
 refine Q97 ?_
 refine Q30 ?_
 have ⟨y1,hy1,h⟩:=bE h
 refine zR y1 (.exit 0) (fun y1=>⟨[],[]⟩) .ret (fun y1=>⟨[(2,.d (db y1))],[]⟩) ?_ ?_ ?_
 refine zD (fun x=>⟨[(1,.d (.pt (eSet.cells a0))),(17,.d (zS eRange t8.Ranges)),(18,.d (di (t8.Ranges.length:Int))),(19,.d (di x))],[]⟩) hy1 (wc) ?_
 rintro v19 sy1 p1
 replace p1:zA5 t8 a0 v19=some sy1:=p1
 unfold zA5 at p1
 refine Q22 ?_
 refine z1 p1 (fun p1=>?_) (fun p1=>?_)
 refine Q8 ?_
 refine Q2 ?_
 have ⟨t22,ht22,p1⟩:=bE p1
 refine q11 S24 ht22 ?_
 refine z9 (wX (en:=eRange) (l:=t8.Ranges) (i:=v19) (v:=t22) (off:=0) (lq rfl) zB1 rfl ht22 rfl rfl (by decide)) ?_
 refine z04 ?_
 refine q1 ?_
 refine z1H ?_
 refine zO (z2 (t:=5) (lq rfl) rfl rfl rfl) ?_
 refine kF ?_
 refine z3 MX rfl ?_
 refine q69 zB1 ?_
 refine q19 zHS ?_
 refine q33 O24 ?_
 refine q7 ?_
 have ⟨t28,ht28,p1⟩:=bE p1
 refine q23 S24 ht28 ?_
 refine vO (wX (en:=eRange) (l:=a0.Ranges) (i:=v19) (v:=t28) (off:=0) (lq rfl) zB1 rfl ht28 rfl rfl (by decide)) ?_
 refine vO (zVC (en:=eRange) (a:=t22) (b:=t28) (lq rfl) yIM rfl rfl) ?_
 refine xZ ?_
 refine z1 p1 (fun p1=>?_) (fun p1=>?_)
 refine Q17 ?_
 cases p1
 intro q;cases q
 exact ⟨rfl,wc⟩
 refine Q57 ?_
 cases p1
 exact wc
 refine zF ?_
 cases p1
 intro q;cases q
 exact ⟨rfl,wc⟩
 rintro y1 rfl
 replace h:=eL h
 refine Q3 ?_
 cases h
 refine zB ?_
 exact zI rfl
 rintro y1 rfl
 replace h:=eR h
 cases h
 exact zI rfl
theorem zH7 {a0 r} (h:zCP a0=some r):zG Tryz.prog 90 [(di a0)] [(di r)]:=by
 refine co Tryz.func90 ?_;intro _ _ _ _
 unfold zCP at h
 refine Q3 ?_
 refine kF<|Q80 ?_
 refine q44 ?_
 have ⟨b6,hb6,h⟩:=bE h
 refine z9 ((zC (lq rfl) rfl).bool (oi hb6)) ?_
 refine q13 (.d (di a0)) ?_
 refine q73 (.d (db (decide (a0 < 4371)))) ?_
 refine Q41 ?_
 refine z1 h (fun h=>?_) (fun h=>?_)
 refine Q3 ?_
 cases h
 refine zB ?_
 exact zI rfl
 refine Q2 ?_
 refine q44 ?_
 have ⟨b13,hb13,h⟩:=bE h
 refine z9 ((zC (lq rfl) rfl).bool (oi hb13)) ?_
 refine q13 (.d (di a0)) ?_
 refine q73 (.d (db (decide (a0 < 4470)))) ?_
 refine Q41 ?_
 refine z1 h (fun h=>?_) (fun h=>?_)
 refine Q3 ?_
 cases h
 refine zB ?_
 exact zI rfl
 refine Q2 ?_
 refine q44 ?_
 have ⟨b20,hb20,h⟩:=bE h
 refine z9 ((zC (lq rfl) rfl).bool (oi hb20)) ?_
 refine q13 (.d (di a0)) ?_
 refine q73 (.d (db (decide (a0 < 4547)))) ?_
 refine Q41 ?_
 refine z1 h (fun h=>?_) (fun h=>?_)
 refine Q3 ?_
 cases h
 refine zB ?_
 exact zI rfl
 refine Q2 ?_
 refine q3 ?_
 have ⟨b27,hb27,h⟩:=bE h
 refine z9 ((zC (lq rfl) rfl).bool (oi hb27)) ?_
 refine q38 (.d (di a0)) ?_
 refine z01 (.d (db (decide (55204≤a0)))) ?_
 refine q18 ?_
 refine Q1 ?_
 refine z1 h (fun h=>?_) (fun h=>?_)
 refine Q3 ?_
 cases h
 refine zB ?_
 exact zI rfl
 refine Q2 ?_
 refine q31 ?_
 have ⟨t34,ht34,h⟩:=bE h
 refine q91 ht34 ?_
 refine Q88 ?_
 refine z1 h (fun h=>?_) (fun h=>?_)
 refine Q3 ?_
 cases h
 refine zB ?_
 exact zI rfl
 refine Q58 ?_
 cases h
 refine zB ?_
 exact zI rfl
theorem zHV {a0 r} (h:u2 a0=some r):zG Tryz.prog 105 [(zS eSpan a0)] [(zS eSpan r)]:=by
 refine co Tryz.func105 ?_;intro _ _ _ _
 unfold u2 at h
 refine Q47 ?_
 have ⟨t4,ht4,h⟩:=bE h
 refine q8 (zIM ht4) ?_
 refine Q33 ?_
 refine z1 h (fun h=>?_) (fun h=>?_)
 refine Q3 ?_
 refine zO (zGQ (t:=2) eSpan.size (lq rfl) rfl) ?_
 cases h
 refine zB ?_
 exact zI rfl
 refine zL<|Q35 ?_
 cases h
 refine zB ?_
 exact zI rfl
theorem zAP {fv2:DV} {a0:(List Span)} {a1:Int} {a2:Span→Int→Option (Int)} (hf2:∀x0 x1 y,a2 x0 x1=some y→FnC Tryz.prog fv2 [(eSpan.dv x0),(di x1)] [(di y)]) {r:Int×Bool} (h:kK a0 a1 a2=some r):zG Tryz.prog 130 [(zS eSpan a0),(di a1),fv2] [(di r.1),(db r.2)]:=by
 refine co Tryz.func130 ?_;intro _ _ _ _
 unfold kK at h
 refine Q0 ?_
 refine z1L ?_
 refine q4 S22 ?_
 refine Q19 ?_
 refine q1 ?_
 refine Q76 ?_
 have ⟨y1,hy1,h⟩:=bE h
 refine tl (.exit 0) ⟨[(0,.d (zS eSpan a0)),(1,.d (di a1)),(2,.d fv2),(8,.d (di (a0.length:Int))),(9,.d (di y1))],[]⟩ ?_ ?_
 refine zD (fun x=>⟨[(0,.d (zS eSpan a0)),(1,.d (di a1)),(2,.d fv2),(8,.d (di (a0.length:Int))),(9,.d (di x.1)),(10,.d (di x.2))],[]⟩) hy1 (wc) ?_
 rintro ⟨v9,v10⟩ sy1 p1
 replace p1:z4 a0 a2 a1 v9 v10=some sy1:=p1
 unfold z4 at p1
 refine Q72 ?_
 refine z1 p1 (fun p1=>?_) (fun p1=>?_)
 refine zL ?_
 have ⟨y2,hy2,p1⟩:=bE p1
 refine tl .normal ⟨[(0,.d (zS eSpan a0)),(1,.d (di a1)),(2,.d fv2),(8,.d (di (a0.length:Int))),(9,.d (di y2.1)),(10,.d (di y2.2))],[]⟩ ?_ ?_
 refine Q75 ?_
 refine z1M ?_
 refine Q1 ?_
 refine Q15 ?_
 refine q0 ?_
 have ⟨t27,ht27,hy2⟩:=bE hy2
 refine q11 S22 ht27 ?_
 refine yCT G62 ht27 ?_
 refine q0 ?_
 have ⟨t30,ht30,hy2⟩:=bE hy2
 refine z9 (zE6 (lq rfl) rfl rfl (hf2 _ _ _ ht30)) ?_
 refine Q6 ?_
 refine z1 hy2 (fun hy2=>?_) (fun hy2=>?_)
 refine Q11 ?_
 cases hy2
 exact zH (wc)
 refine Q81 ?_
 cases hy2
 exact zH (wc)
 cases p1
 exact wc
 refine zF ?_
 cases p1
 intro q;cases q
 exact zH (wc)
 refine Q15 ?_
 refine q0 ?_
 refine q3 ?_
 have ⟨b39,hb39,h⟩:=bE h
 refine z9 ((zC (lq rfl) rfl).bool (oi hb39)) ?_
 refine q13 (.d fv2) ?_
 refine q13 (.d (zS eSpan a0)) ?_
 refine q13 (.d (di y1)) ?_
 have ⟨t43,ht43,h⟩:=bE h
 refine sqt (.ip (eSpan.all a0) (y1.toNat*eSpan.size)) rfl (fun hb=>by subst hb;exact kN (en:=eSpan) (lq rfl) S22 rfl rfl ht43) ?_
 refine sqt (.d (eSpan.dv t43)) rfl (fun hb=>by subst hb;exact wX (en:=eSpan) (l:=a0) (i:=y1) (v:=t43) (off:=0) (lq rfl) G62 rfl ht43 rfl rfl (by decide)) ?_
 refine q13 (.d (di a1)) ?_
 have ⟨t46,ht46,h⟩:=bE h
 refine sqt (.d (di t46)) rfl (fun hb=>by subst hb;exact zE6 (lq rfl) rfl rfl (hf2 _ _ _ ht46)) ?_
 refine q79 (.d (db (decide (t46=0)))) ?_
 refine q14 ?_
 refine Q46 ?_
 cases h
 refine zB ?_
 exact zE5 rfl rfl
theorem zMH {a0 a1 r} (h:uG a0 a1=some r):zG Tryz.prog 131 [(eSpan.dv a0),(di a1)] [(di r)]:=by
 refine co Tryz.func131 ?_;intro _ _ _ _
 unfold uG at h
 refine Q40 ?_
 refine Q76 ?_
 refine Q0 ?_
 refine q5 zIJ ?_
 refine q6 O3 ?_
 refine q0 ?_
 refine q3 ?_
 refine Q1 ?_
 refine z1 h (fun h=>?_) (fun h=>?_)
 refine Q3 ?_
 cases h
 refine zB ?_
 exact zI rfl
 refine Q0 ?_
 refine q5 zII ?_
 refine q6 O3 ?_
 refine q0 ?_
 refine q37 ?_
 refine Q1 ?_
 refine z1 h (fun h=>?_) (fun h=>?_)
 refine Q3 ?_
 cases h
 refine zB ?_
 exact zI rfl
 refine Q58 ?_
 cases h
 refine zB ?_
 exact zI rfl
theorem zE1 {a0 a1 r} (h:kO a0 a1=some r):zG Tryz.prog 109 [(zS eSpan a0),(di a1)] [(di r)]:=by
 refine co Tryz.func109 ?_;intro _ _ _ _
 unfold kO at h
 refine Q3 ?_
 refine Q15 ?_
 have ⟨t10,ht10,h⟩:=bE h
 refine q8 (zAP (fun _ _ _ q=> .inr ⟨_,rfl,zMH q⟩) ht10) ?_
 refine Q78 ?_
 refine z1A ?_
 refine Q42 ?_
 refine z1 h (fun h=>?_) (fun h=>?_)
 refine Q3 ?_
 cases h
 refine zB ?_
 exact zI rfl
 refine zL<|Q15 ?_
 have ⟨t17,ht17,h⟩:=bE h
 refine q11 S22 ht17 ?_
 refine q46 zJN ?_
 refine z9 (zZ (en:=eSpan) (l:=a0) (i:=t10.1) (v:=t17) (off:=2) (lq rfl) O3 rfl ht17 rfl) ?_
 refine Q1 ?_
 cases h
 refine zB ?_
 exact zI rfl
theorem zHW {items:List Range} {a1:(List Int)} {a2:(List Span)} {r:Unit} (h:u3 items a1 a2=some r):zTW Tryz.prog 128 [(.pt [(zS eI a1)]),(.pt [(zS eSpan a2)])] (items.map fun x=>[eRange.dv x]):=by
 refine yBQ Tryz.func128 (by kernel_rfl) rfl (lq rfl) (lq rfl) fun w0 I0 J hc hg hG l0 hE=>?_
 unfold u3 at h
 refine Q3 ?_
 refine Q31 ?_
 refine q92 O33 ?_
 refine Q94 ?_
 have ⟨y1,hy1,h⟩:=bE h
 refine zR y1 (.exit 0) (fun y1=>⟨[(0,.d (.v (.func (.yield l0) #[] #[]))),(1,.d (.pt [(zS eI a1)])),(4,.d (di y1.1)),(1000000,.gh y1.2)],[]⟩) .ret (fun y1=>⟨[(1000000,.gh y1)],[]⟩) ?_ ?_ ?_
 refine zD (fun x=>⟨[(0,.d (.v (.func (.yield l0) #[] #[]))),(1,.d (.pt [(zS eI a1)])),(2,.d (.pt [(zS eSpan a2)])),(4,.d (di x.1)),(8,.d (zS eI a1)),(9,.d (di (a1.length:Int))),(10,.d (di x.2.1)),(1000000,.gh x.2.2)],[]⟩) hy1 (wc) ?_
 rintro ⟨v4,v10,v1000000⟩ sy1 p1
 replace p1:kE a1 a2 items v4 v10 v1000000=some sy1:=p1
 unfold kE at p1
 refine Q22 ?_
 refine z1 p1 (fun p1=>?_) (fun p1=>?_)
 refine Q5 ?_
 have ⟨y2,hy2,p1⟩:=bE p1
 refine zR y2 .normal (fun y2=>⟨[(0,.d (.v (.func (.yield l0) #[] #[]))),(1,.d (.pt [(zS eI a1)])),(2,.d (.pt [(zS eSpan a2)])),(4,.d (di y2.1)),(8,.d (zS eI a1)),(9,.d (di (a1.length:Int))),(10,.d (di v10)),(1000000,.gh y2.2)],[]⟩) .ret (fun y2=>⟨[(1000000,.gh y2)],[]⟩) ?_ ?_ ?_
 refine Q80 ?_
 have ⟨t13,ht13,hy2⟩:=bE hy2
 refine q11 yD ht13 ?_
 refine q35 O3 ht13 ?_
 refine q1 ?_
 refine Q39 ?_
 refine q92 O22 ?_
 refine q0 ?_
 have ⟨t17,ht17,hy2⟩:=bE hy2
 refine q8 (zE1 ht17) ?_
 refine Q88 ?_
 have ⟨y3,hy3,hy2⟩:=bE hy2
 refine zR y3 .normal (fun y3=>⟨[(0,.d (.v (.func (.yield l0) #[] #[]))),(1,.d (.pt [(zS eI a1)])),(2,.d (.pt [(zS eSpan a2)])),(4,.d (di y3.1)),(8,.d (zS eI a1)),(9,.d (di (a1.length:Int))),(10,.d (di v10)),(1000000,.gh y3.2)],[]⟩) .ret (fun y3=>⟨[(1000000,.gh y3)],[]⟩) ?_ ?_ ?_
 refine Q80 ?_
 refine q32 ?_
 have ⟨b22,hb22,hy3⟩:=bE hy3
 refine z9 ((zC (lq rfl) rfl).bool (oi hb22)) ?_
 refine q13 (.d (di v4)) ?_
 refine q73 (.d (db (decide (v4 < 0)))) ?_
 refine Q41 ?_
 refine z1 hy3 (fun hy3=>?_) (fun hy3=>?_)
 refine Q81 ?_
 cases hy3
 exact ⟨rfl,wc⟩
 refine Q2 ?_
 have ⟨b29,hb29,hy3⟩:=bE hy3
 refine z9 ((zC (lq rfl) rfl).bool (oi hb29)) ?_
 refine q13 (.d (di v4)) ?_
 refine sqt (.d (db (decide (0≤v4)))) rfl (fun hb=>by subst hb;exact zKC (lq rfl) rfl rfl) ?_
 refine Q41 ?_
 refine z1 hy3 (fun hy3=>?_) (fun hy3=>?_)
 refine Q12 ?_
 refine q0 ?_
 refine q48 zYF ?_
 have ⟨u37,hu37,hy3⟩:=bE hy3
 refine yF rfl (z2F (k:=v1000000) (lq rfl) hE rfl rfl rfl (z78 _ hu37)) ?_
 refine Q42 ?_
 refine z1 hy3 (fun hy3=>?_) (fun hy3=>?_)
 refine zB ?_
 cases hy3
 exact ⟨rfl,wc⟩
 refine zL<|xG<|Q1 ?_
 cases hy3
 exact ⟨rfl,wc⟩
 refine zL ?_
 cases hy3
 exact ⟨rfl,wc⟩
 rintro y3 rfl
 replace hy2:=eL hy2
 cases hy2
 exact ⟨rfl,wc⟩
 rintro y3 rfl
 replace hy2:=eR hy2
 cases hy2
 exact ⟨rfl,wc⟩
 rintro y2 rfl
 replace p1:=eL p1
 refine Q24 ?_
 cases p1
 exact wc
 rintro y2 rfl
 replace p1:=eR p1
 cases p1
 intro q;cases q
 exact ⟨rfl,wc⟩
 refine zF ?_
 cases p1
 intro q;cases q
 exact ⟨rfl,wc⟩
 rintro y1 rfl
 replace h:=eL h
 refine Q2 ?_
 refine Q99 ?_
 refine z1 h (fun h=>?_) (fun h=>?_)
 refine Q66 ?_
 refine q92 O33 ?_
 refine q4 yD ?_
 refine q48 zYF ?_
 have ⟨u47,hu47,h⟩:=bE h
 refine yF rfl (z2F (k:=y1.2) (lq rfl) hE rfl rfl rfl (z78 _ hu47)) ?_
 refine zK ?_
 exact ⟨rfl,zRH _ h⟩
 refine zL ?_
 exact ⟨rfl,zRH _ h⟩
 rintro y1 rfl
 replace h:=eR h
 exact ⟨rfl,zRH _ h⟩
theorem zJU {a0:List Span} {a1:List Int}:zG Tryz.prog 106 [(zS eSpan a0),(zS eI a1)] [.fn 128 [.pt [zS eI a1],.pt [zS eSpan a0]]]:=by
 refine co Tryz.func106 ?_;intro _ _ _ _
 refine Q91 ?_
 refine q63 ?_
 refine Q39 ?_
 refine z9 (zL8 (lq rfl) rfl) ?_
 refine Q1 ?_
 refine zB ?_
 exact zI rfl
theorem zY0 {f:FuncId} {caps:List DV} {r:List Range} (hit:zTW Tryz.prog f caps (r.map fun x=>[eRange.dv x])) (hr:r.length≤LIM):zG Tryz.prog 138 [.v (.slice none 0 0),.fn f caps] [zS eRange r]:=by
 refine co Tryz.func138 ?_;intro _ _ _ _
 refine Q0 ?_
 refine yF rfl (z2E (lq rfl) rfl rfl rfl) ?_
 refine Q1 ?_
 refine zO (zCY (bid:=2) (off:=0) 100 143 eRange.size (lq rfl) (by decide) rfl rfl rfl) ?_
 refine z1G ?_
 refine yY ?_
 refine zTY [(2,.ptr 2 0),(4,.d (.v (.slice none 0 0)))] [2] (fun k=>[(2,.box 24 [.row 100]),(100,.row 143 eRange.size false (eRange.all (r.take k)))]) rfl hit rfl (fun _ _ _ _ h=>h) ?hk ?hT rfl (fun _=>rfl) ?hbx (fun _ _=>rfl) ?hl ?hpn ?rd ?hK
 case hk=>exact ⟨rfl,rfl,trivial⟩
 case hT=>exact ⟨rfl,rfl,trivial⟩
 case hbx=>intro k id hi;simp at hi;subst hi;exact fun (h:Blk.box _ _=Blk.none)=>by cases h
 case hl=>intro x hx;obtain ⟨y,_,rfl⟩:=List.mem_map.1 hx;rfl
 case hpn=>intro p hp;simp at hp;subst hp;exact (lq rfl)
 case rd=>
  intro w1 Iall X C0 ρ0 defs l1 D lp1 lp2 hok k x hx
  rw [List.getElem?_map] at hx
  obtain ⟨v,hv,rfl⟩:=Option.map_eq_some_iff.1 hx
  have hlt:=(List.getElem?_eq_some_iff.1 hv).1
  have happ:app (r.take k) [v]=some (r.take (k+1)):=by
   unfold app
   rw [if_pos (by simp;omega),List.take_add_one,hv]
   rfl
  refine xG<|z04 ?_
  refine z1H ?_
  refine yY<|xG<|q28 O24 ?_
  refine z9 ((kM (lq rfl) zB1 rfl rfl rfl rfl).data rfl) ?_
  refine q24 S24 ?_
  refine yF rfl (yK (en:=eRange) (l:=r.take k) (m:=[v]) (lq rfl) S24 rfl rfl rfl happ (by decide) (by decide) rfl rfl) ?_
  refine q93 O24 ?_
  refine zK ?_
  exact ⟨rfl,rfl,trivial⟩
 case hK=>
  rw [List.length_map,List.take_length]
  refine Q0 ?_
  refine q28 O24 ?_
  refine Q13 ?_
  refine zB ?_
  exact zI rfl
theorem z5X {f:FuncId} {caps:List DV} {r:List Range} (hit:zTW Tryz.prog f caps (r.map fun x=>[eRange.dv x])) (hr:r.length≤LIM):zG Tryz.prog 123 [.fn f caps] [zS eRange r]:=by
 refine co Tryz.func123 ?_;intro _ _ _ _
 refine Q59 ?_
 refine q8 (zY0 hit hr) ?_
 refine Q1 ?_
 refine zB ?_
 exact zI rfl
theorem zPY {a0:List Span} {a1:List Int} {r:List Range} (h:zDJ a0 a1=some r):zG Tryz.prog 97 [(zS eSpan a0),(zS eI a1)] [zS eRange r]:=by
 unfold zDJ at h
 have ⟨t6,ht6,h'⟩:=bE h;clear h
 have ⟨t8,ht8,h⟩:=bE h';clear h'
 unfold yGC at h
 split at h
 case isFalse=>cases h
 rename_i hlen
 cases h
 refine co Tryz.func97 ?_;intro _ _ _ _
 refine Q59 ?_
 refine q8 (zHV ht6) ?_
 refine q0 ?_
 refine q8 zJU ?_
 refine q8 (z5X (zHW ht8) hlen) ?_
 refine Q1 ?_
 refine zB ?_
 exact zI rfl
theorem zRN {a0 r} (h:zF9 a0=some r):zG Tryz.prog 118 [(di a0)] [(eA3Int.dv r)]:=by
 refine co Tryz.func118 ?_;intro _ _ _ _
 unfold zF9 at h
 refine Q0 ?_
 refine z5G ?_
 refine zK<|Q4 ?_
 have ⟨t6,ht6,h⟩:=bE h
 refine q8 (zH7 ht6) ?_
 refine Q6 ?_
 refine z1 h (fun h=>?_) (fun h=>?_)
 refine Q0 ?_
 refine q78 zOD ?_
 refine q16 zYH ?_
 refine zK ?_
 cases h
 refine zB ?_
 exact xJ rfl rfl zYH rfl
 refine zL<|Q2 ?_
 refine q31 ?_
 refine Q19 ?_
 have ⟨t12,ht12,h⟩:=bE h
 refine z05 ht12 ?_
 have ⟨t13,ht13,h⟩:=bE h
 refine z05 ht13 ?_
 refine q2 ?_
 refine q0 ?_
 have ⟨t16,ht16,h⟩:=bE h
 refine z05 ht16 ?_
 have ⟨t17,ht17,h⟩:=bE h
 refine q91 ht17 ?_
 refine q2 ?_
 refine q78 zOD ?_
 refine z5G ?_
 refine q16 zYH ?_
 refine zK<|Q4 ?_
 have ⟨t21,ht21,h⟩:=bE h
 refine q91 ht21 ?_
 refine Q54 ?_
 have ⟨y1,hy1,h⟩:=bE h
 refine tl .normal ⟨[(2,.ptr 2 0),(4,.ptr 4 0)],[(2,.box 157 [.d (di 0),.d (di 0),.d (di 0)]),(4,.box 157 [.d (di (({x0:=wi (4352+t13),x1:=wi (4449+t17),x2:=0}:A3Int).x0)),.d (di (({x0:=wi (4352+t13),x1:=wi (4449+t17),x2:=0}:A3Int).x1)),.d (di y1)])]⟩ ?_ ?_
 refine z1 hy1 (fun hy1=>?_) (fun hy1=>?_)
 refine Q7 ?_
 have ⟨t24,ht24,hy1⟩:=bE hy1
 refine q91 ht24 ?_
 refine q2 ?_
 refine q31 ?_
 refine q65 zOD ?_
 refine zYX ?_
 cases hy1
 exact zH (wc)
 refine zL ?_
 cases hy1
 exact zH (wc)
 refine Q0 ?_
 refine z9 ((kM (lq rfl) zYH rfl rfl rfl rfl).data rfl) ?_
 refine q16 zYH ?_
 refine zK ?_
 cases h
 refine zB ?_
 exact xJ rfl rfl zYH rfl
theorem zMI {a0 r} (h:zA6 a0=some r):zG Tryz.prog 91 [(di a0)] [(zS eI r)]:=by
 refine co Tryz.func91 ?_;intro _ _ _ _
 unfold zA6 at h
 refine Q59 ?_
 have ⟨t5,ht5,h⟩:=bE h
 refine q8 (zRN ht5) ?_
 refine z5G ?_
 refine q16 zYH ?_
 refine zK ?_
 refine zO (z2 (t:=3) (lq rfl) rfl rfl rfl) ?_
 refine kF<|zYW ?_
 refine q21 zYH ?_
 refine q78 zOD ?_
 refine z9 (yBY (en:=eA3Int) (a:=t5) (b:=({x0:=0,x1:=0,x2:=0}:A3Int)) (lq rfl) yJ9 rfl rfl) ?_
 refine Q1 ?_
 refine z1 h (fun h=>?_) (fun h=>?_)
 refine Q2 ?_
 refine q24 yD ?_
 refine Q1 ?_
 cases h
 refine zB ?_
 exact zI rfl
 refine Q0 ?_
 refine z5J zOD ?_
 refine q6 O3 ?_
 refine Q88 ?_
 refine z1 h (fun h=>?_) (fun h=>?_)
 refine Q0 ?_
 refine z5J zOD ?_
 refine q6 O3 ?_
 refine z5J zOD ?_
 refine q6 O3 ?_
 refine q24 yD ?_
 refine Q1 ?_
 cases h
 refine zB ?_
 exact zI rfl
 refine Q50 ?_
 refine z5J zOD ?_
 refine q6 O3 ?_
 refine z5J zOD ?_
 refine q6 O3 ?_
 refine z5J zOD ?_
 refine q6 O3 ?_
 refine q24 yD ?_
 refine Q1 ?_
 cases h
 refine zB ?_
 exact zI rfl
theorem vV {fv2:DV} {a0:(List Mapping)} {a1:Int} {a2:Mapping→Int→Option (Int)} (hf2:∀x0 x1 y,a2 x0 x1=some y→FnC Tryz.prog fv2 [(eMapping.dv x0),(di x1)] [(di y)]) {r:Int×Bool} (h:yC a0 a1 a2=some r):zG Tryz.prog 92 [(zS eMapping a0),(di a1),fv2] [(di r.1),(db r.2)]:=by
 refine co Tryz.func92 ?_;intro _ _ _ _
 unfold yC at h
 refine Q0 ?_
 refine z1L ?_
 refine q4 S23 ?_
 refine Q19 ?_
 refine q1 ?_
 refine Q76 ?_
 have ⟨y1,hy1,h⟩:=bE h
 refine tl (.exit 0) ⟨[(0,.d (zS eMapping a0)),(1,.d (di a1)),(2,.d fv2),(8,.d (di (a0.length:Int))),(9,.d (di y1))],[]⟩ ?_ ?_
 refine zD (fun x=>⟨[(0,.d (zS eMapping a0)),(1,.d (di a1)),(2,.d fv2),(8,.d (di (a0.length:Int))),(9,.d (di x.1)),(10,.d (di x.2))],[]⟩) hy1 (wc) ?_
 rintro ⟨v9,v10⟩ sy1 p1
 replace p1:zX a0 a2 a1 v9 v10=some sy1:=p1
 unfold zX at p1
 refine Q72 ?_
 refine z1 p1 (fun p1=>?_) (fun p1=>?_)
 refine zL ?_
 have ⟨y2,hy2,p1⟩:=bE p1
 refine tl .normal ⟨[(0,.d (zS eMapping a0)),(1,.d (di a1)),(2,.d fv2),(8,.d (di (a0.length:Int))),(9,.d (di y2.1)),(10,.d (di y2.2))],[]⟩ ?_ ?_
 refine Q75 ?_
 refine z1M ?_
 refine Q1 ?_
 refine Q15 ?_
 refine q0 ?_
 have ⟨t27,ht27,hy2⟩:=bE hy2
 refine q11 S23 ht27 ?_
 refine q90 zKT ht27 ?_
 refine q0 ?_
 have ⟨t30,ht30,hy2⟩:=bE hy2
 refine z9 (zE6 (lq rfl) rfl rfl (hf2 _ _ _ ht30)) ?_
 refine Q6 ?_
 refine z1 hy2 (fun hy2=>?_) (fun hy2=>?_)
 refine Q11 ?_
 cases hy2
 exact zH (wc)
 refine Q81 ?_
 cases hy2
 exact zH (wc)
 cases p1
 exact wc
 refine zF ?_
 cases p1
 intro q;cases q
 exact zH (wc)
 refine Q15 ?_
 refine q0 ?_
 refine q3 ?_
 have ⟨b39,hb39,h⟩:=bE h
 refine z9 ((zC (lq rfl) rfl).bool (oi hb39)) ?_
 refine q13 (.d fv2) ?_
 refine q13 (.d (zS eMapping a0)) ?_
 refine q13 (.d (di y1)) ?_
 have ⟨t43,ht43,h⟩:=bE h
 refine sqt (.ip (eMapping.all a0) (y1.toNat*eMapping.size)) rfl (fun hb=>by subst hb;exact kN (en:=eMapping) (lq rfl) S23 rfl rfl ht43) ?_
 refine sqt (.d (eMapping.dv t43)) rfl (fun hb=>by subst hb;exact wX (en:=eMapping) (l:=a0) (i:=y1) (v:=t43) (off:=0) (lq rfl) zKT rfl ht43 rfl rfl (by decide)) ?_
 refine q13 (.d (di a1)) ?_
 have ⟨t46,ht46,h⟩:=bE h
 refine sqt (.d (di t46)) rfl (fun hb=>by subst hb;exact zE6 (lq rfl) rfl rfl (hf2 _ _ _ ht46)) ?_
 refine q79 (.d (db (decide (t46=0)))) ?_
 refine q14 ?_
 refine Q46 ?_
 cases h
 refine zB ?_
 exact zE5 rfl rfl
theorem zMJ {a0 a1 r} (h:wJ a0 a1=some r):zG Tryz.prog 93 [(eMapping.dv a0),(di a1)] [(di r)]:=by
 refine co Tryz.func93 ?_;intro _ _ _ _
 unfold wJ at h
 refine Q40 ?_
 refine Q39 ?_
 refine zVU ?_
 refine q0 ?_
 have ⟨t8,ht8,h⟩:=bE h
 refine q8 (xV ht8) ?_
 refine Q1 ?_
 cases h
 refine zB ?_
 exact zI rfl
theorem zIN {a0 a1 a2 r} (h:w6 a0 a1 a2=some r):zG Tryz.prog 62 [(eNorm.dv a0),(di a1),(db a2)] [(zS eI r.1),(db r.2)]:=by
 refine co Tryz.func62 ?_;intro _ _ _ _
 unfold w6 at h
 refine Q40 ?_
 refine z1A ?_
 have ⟨t11,ht11,h⟩:=bE h
 refine q8 (zH7 ht11) ?_
 refine Q99 ?_
 refine z1 h (fun h=>?_) (fun h=>?_)
 refine Q2 ?_
 have ⟨t14,ht14,h⟩:=bE h
 refine q8 (zMI ht14) ?_
 refine Q46 ?_
 cases h
 refine zB ?_
 exact zE5 rfl rfl
 refine Q50 ?_
 refine Q89 ?_
 refine q0 ?_
 have ⟨t19,ht19,h⟩:=bE h
 refine q8 (vV (fun _ _ _ q=> .inr ⟨_,rfl,zMJ q⟩) ht19) ?_
 refine Q78 ?_
 refine z1A ?_
 refine q32 ?_
 have ⟨b24,hb24,h⟩:=bE h
 refine z9 ((zC (lq rfl) rfl).bool (oi hb24)) ?_
 refine q25 (.ip (eNorm.cells a0) (0+1)) zPC ?_
 refine q26 (.d (zS eMapping a0.Decomp)) O23 ?_
 refine q38 (.d (di t19.1)) ?_
 have ⟨t28,ht28,h⟩:=bE h
 refine sqf (.ip (eMapping.all a0.Decomp) (t19.1.toNat*eMapping.size)) rfl (fun hb=>by subst hb;exact kN (en:=eMapping) (lq rfl) S23 rfl rfl ht28) ?_
 refine z8O (.ip (eMapping.all a0.Decomp) (t19.1.toNat*eMapping.size+2)) zBO ?_
 refine sqf (.d (ds t28.Tag)) rfl (fun hb=>by subst hb;exact zZ (en:=eMapping) (l:=a0.Decomp) (i:=t19.1) (v:=t28) (off:=2) (lq rfl) O9 rfl ht28 rfl) ?_
 refine sqf (.d (db (!(t28.Tag== [])))) rfl (fun hb=>by subst hb;exact z0H (a:=t28.Tag) (b:=[]) (lq rfl) rfl rfl) ?_
 have ⟨b32,hb32,h⟩:=bE h
 refine sqf (.d (db b32)) rfl (fun hb=>by subst hb;exact (zC (lq rfl) rfl).bool (oi hb32)) ?_
 refine jW (x:= .d (db a2)) rfl rfl rfl (lq rfl) (lq rfl) rfl (fun hb=>by obtain ⟨hb,hb1⟩:=zQ hb;obtain rfl:=gF hb;obtain rfl:b32=true:=hb1;exact zC (lq rfl) rfl) ?_
 refine jW (x:= .d (db (!a2))) rfl rfl rfl (lq rfl) (lq rfl) rfl (fun hb=>by obtain ⟨hb,hb1⟩:=zQ hb;obtain rfl:=gF hb;obtain rfl:b32=true:=hb1;exact zTO (lq rfl) rfl) ?_
 refine q86 (.d (db (b32&&(!a2)))) ?_
 refine Q37 ?_
 refine z1 h (fun h=>?_) (fun h=>?_)
 refine Q0 ?_
 refine Q46 ?_
 refine zO (zGQ (t:=6) eI.size (lq rfl) rfl) ?_
 cases h
 refine zB ?_
 exact zE5 rfl rfl
 refine Q50 ?_
 refine Q89 ?_
 refine q0 ?_
 have ⟨t40,ht40,h⟩:=bE h
 refine q11 S23 ht40 ?_
 refine q46 zCW ?_
 refine q84 O33 ht40 ?_
 refine Q46 ?_
 cases h
 refine zB ?_
 exact zE5 rfl rfl
theorem zJ2:∀(n:Nat) {a0:Int} {a1:Norm} {a2:(List (Int×Int))} {a3:Bool} {a5:Bool} {r:Int×Bool×Bool×(List (Int×Int))},z5 n a0 a1 a2 a3 a5=some r→GC Tryz.prog 124 [.d (di a0),.d (.pt (eNorm.cells a1)),.ptr 3002 0,.ptr 3003 0,.ptr 3004 0,.ptr 3005 0] [(3002,.box 166 [.row 3140]),(3003,.box 4 [.d (db a3)]),(3004,.box 102 [.clo 124 [.d (.pt (eNorm.cells a1)),.ptr 3002 0,.ptr 3003 0,.ptr 3004 0,.ptr 3005 0]]),(3005,.box 4 [.d (db a5)]),(3140,.map (wY kI eI a2))] [3002,3003,3004,3005,3140] [.d (di r.1)] [(3002,.box 166 [.row 3140]),(3003,.box 4 [.d (db r.2.1)]),(3004,.box 102 [.clo 124 [.d (.pt (eNorm.cells a1)),.ptr 3002 0,.ptr 3003 0,.ptr 3004 0,.ptr 3005 0]]),(3005,.box 4 [.d (db r.2.2.1)]),(3140,.map (wY kI eI r.2.2.2))]:=by
 intro n
 induction n with
 | zero=>intro a0 a1 a2 a3 a5 r h;cases h
 | succ n ih=>
 intro a0 a1 a2 a3 a5 r h
 replace h:kU (z5 n) a0 a1 a2 a3 a5=some r:=h
 generalize z5 n=rec at h ih
 refine zC7 Tryz.func124 (by kernel_rfl) rfl (lq rfl) (lq rfl) fun w0 I0 hG0 p0=>?_
 unfold kU at h
 refine Q3 ?_
 refine Q0 ?_
 refine q21 G28 ?_
 refine q0 ?_
 have ⟨t18,ht18,h⟩:=bE h
 refine q8 (zIN ht18) ?_
 refine Q78 ?_
 refine z1A ?_
 refine q32 ?_
 have ⟨b23,hb23,h⟩:=bE h
 refine z9 ((zC (lq rfl) rfl).bool (oi hb23)) ?_
 refine q38 (.d (zS eI t18.1)) ?_
 refine q64 (.d (di (t18.1.length:Int))) yD ?_
 refine z5D (.d (db (decide ((t18.1.length:Int)=0)))) ?_
 refine Q37 ?_
 refine z1 h (fun h=>?_) (fun h=>?_)
 refine Q3 ?_
 cases h
 refine zB ?_
 exact ⟨⟨_,_,rfl,rfl,rfl⟩,⟨rfl,rfl,rfl,rfl,rfl,trivial⟩⟩
 refine Q71 ?_
 refine q28 yCC ?_
 refine q0 ?_
 refine z9 (zT7 (kv:=kI) (ev:=eI) (mp:=a2) (k:=a0) (zero:=0) (lq rfl) yGE K3 rfl rfl rfl (fun _ _=> .v _)) ?_
 refine Q78 ?_
 refine z1L ?_
 refine zK ?_
 refine z1 h (fun h=>?_) (fun h=>?_)
 refine Q0 ?_
 refine q28 O4 ?_
 have ⟨b36,hb36,h⟩:=bE h
 refine z9 ((zC (lq rfl) rfl).bool (oi hb36)) ?_
 refine q38 (.d (di (uV a2 a0 0))) ?_
 refine z5D (.d (db (decide ((uV a2 a0 0)=(-1))))) ?_
 refine q18 ?_
 refine q60 O4 ?_
 refine zK<|Q2 ?_
 refine yCX ?_
 refine Q1 ?_
 cases h
 refine zB ?_
 exact ⟨⟨_,_,rfl,rfl,rfl⟩,⟨rfl,rfl,rfl,rfl,rfl,trivial⟩⟩
 refine Q50 ?_
 refine q28 yCC ?_
 refine q0 ?_
 refine yCO yGE K3 ?_
 refine zK<|Q47 ?_
 refine Q94 ?_
 have ⟨y1,hy1,h⟩:=bE h
 refine tl (.exit 0) ⟨[(0,.d (di a0)),(2,.ptr 3002 0),(3,.ptr 3003 0),(4,.ptr 3004 0),(5,.ptr 3005 0),(12,.d (di y1.1))],[(3002,.box 166 [.row 3140]),(3003,.box 4 [.d (db y1.2.1)]),(3004,.box 102 [.clo 124 [.d (.pt (eNorm.cells a1)),.ptr 3002 0,.ptr 3003 0,.ptr 3004 0,.ptr 3005 0]]),(3005,.box 4 [.d (db y1.2.2.1)]),(3140,.map (wY kI eI y1.2.2.2))]⟩ ?_ ?_
 refine zD (fun x=>⟨[(0,.d (di a0)),(2,.ptr 3002 0),(3,.ptr 3003 0),(4,.ptr 3004 0),(5,.ptr 3005 0),(12,.d (di x.1)),(44,.d (zS eI t18.1)),(45,.d (di (t18.1.length:Int))),(46,.d (di x.2.1))],[(3002,.box 166 [.row 3140]),(3003,.box 4 [.d (db x.2.2.1)]),(3004,.box 102 [.clo 124 [.d (.pt (eNorm.cells a1)),.ptr 3002 0,.ptr 3003 0,.ptr 3004 0,.ptr 3005 0]]),(3005,.box 4 [.d (db x.2.2.2.1)]),(3140,.map (wY kI eI x.2.2.2.2))]⟩) hy1 (wc) ?_
 rintro ⟨v12,v46,k3003_0,k3005_0,r3140⟩ sy1 p1
 replace p1:k5 t18 rec a1 v12 v46 k3003_0 k3005_0 r3140=some sy1:=p1
 unfold k5 at p1
 refine Q22 ?_
 refine z1 p1 (fun p1=>?_) (fun p1=>?_)
 refine Q29 ?_
 have ⟨t48,ht48,p1⟩:=bE p1
 refine q11 yD ht48 ?_
 refine q35 O3 ht48 ?_
 refine Q1 ?_
 refine Q7 ?_
 refine q28 yGF ?_
 refine q0 ?_
 have ⟨t53,ht53,p1⟩:=bE p1
 refine yF rfl (zYA [(3002,3002),(3003,3003),(3004,3004),(3005,3005),(3140,3140)] (ih ht53) (lq rfl) (by decide) rfl ⟨rfl,rfl,rfl,rfl,rfl,rfl,trivial⟩ rfl rfl ⟨rfl,rfl,rfl,rfl,rfl,trivial⟩ rfl rfl rfl rfl) ?_
 refine q2 ?_
 refine z8T ?_
 refine Q1 ?_
 refine Q24 ?_
 cases p1
 exact wc
 refine zF ?_
 cases p1
 intro q;cases q
 exact zH (wc)
 refine Q0 ?_
 refine q28 yCC ?_
 refine Q82 ?_
 refine yCO yGE K3 ?_
 refine Q52 ?_
 refine q28 O4 ?_
 have ⟨b61,hb61,h⟩:=bE h
 refine z9 ((zC (lq rfl) rfl).bool (oi hb61)) ?_
 refine q38 (.d (di y1.1)) ?_
 refine q43 (.d (db (decide (64 < y1.1)))) ?_
 refine q18 ?_
 refine q60 O4 ?_
 refine zK<|Q35 ?_
 cases h
 refine zB ?_
 exact ⟨⟨_,_,rfl,rfl,rfl⟩,⟨rfl,rfl,rfl,rfl,rfl,trivial⟩⟩
set_option maxHeartbeats 8000000 in
theorem zLM {a0 r} (h:decompose_measure a0=some r):zG Tryz.prog 98 [(eNorm.dv a0)] [(db r.1),(db r.2)]:=by
 refine co Tryz.func98 ?_;intro _ _ _ _
 unfold decompose_measure at h
 refine Q40 ?_
 refine yF rfl (yP (zs:=[(.bool false)]) (lq rfl) (by kernel_rfl) rfl rfl) ?_
 refine yF rfl (yP (zs:=[(.bool false)]) (lq rfl) (by kernel_rfl) rfl rfl) ?_
 refine Q52 ?_
 refine z8R ?_
 refine yF rfl (yP (zs:=[(.map none)]) (lq rfl) (by kernel_rfl) rfl rfl) ?_
 refine q93 yCC ?_
 refine Q52 ?_
 refine yF rfl (yP (zs:=[.nilFunc]) (lq rfl) (by kernel_rfl) rfl rfl) ?_
 refine Q52 ?_
 refine z9 (zOC (cs:=[.d (.pt (eNorm.cells a0)),.ptr 4 0,.ptr 2 0,.ptr 5 0,.ptr 3 0]) (lq rfl) ⟨_,_,rfl,rfl,⟨_,_,rfl,rfl,⟨_,_,rfl,rfl,⟨_,_,rfl,rfl,⟨_,_,rfl,rfl,rfl⟩⟩⟩⟩⟩) ?_
 refine yF rfl (zKQ yGF rfl rfl (lq rfl) rfl rfl rfl rfl) ?_
 refine zVT ?_
 refine Q89 ?_
 refine z1I ?_
 have ⟨y1,hy1,h⟩:=bE h
 refine tl (.exit 0) ⟨[(2,.ptr 2 0),(3,.ptr 3 0)],[(2,.box 4 [.d (db y1.1)]),(3,.box 4 [.d (db y1.2)])]⟩ ?_ ?_
 refine zD (fun x=>⟨[(2,.ptr 2 0),(3,.ptr 3 0),(5,.ptr 5 0),(11,.d (zS eMapping a0.Decomp)),(12,.d (di (a0.Decomp.length:Int))),(13,.d (di x.1))],[(2,.box 4 [.d (db x.2.1)]),(3,.box 4 [.d (db x.2.2.1)]),(4,.box 166 [.row 8]),(5,.box 102 [.clo 124 [.d (.pt (eNorm.cells a0)),.ptr 4 0,.ptr 2 0,.ptr 5 0,.ptr 3 0]]),(8,.map (wY kI eI x.2.2.2))]⟩) hy1 (wc) ?_
 rintro ⟨v13,k2_0,k3_0,r8⟩ sy1 p1
 replace p1:kG a0 v13 k2_0 k3_0 r8=some sy1:=p1
 unfold kG at p1
 refine Q22 ?_
 refine z1 p1 (fun p1=>?_) (fun p1=>?_)
 refine Q29 ?_
 have ⟨t15,ht15,p1⟩:=bE p1
 refine q11 S23 ht15 ?_
 refine q90 zKT ht15 ?_
 refine z1J ?_
 refine zO (z2 (t:=7) (lq rfl) rfl rfl rfl) ?_
 refine xG<|q28 yGF ?_
 refine zVU ?_
 have ⟨t20,ht20,p1⟩:=bE p1
 refine yF rfl (zQB [(3002,4),(3003,2),(3004,5),(3005,3),(3140,8)] (zJ2 _ ht20) (lq rfl) (by decide) rfl ⟨rfl,rfl,rfl,rfl,rfl,rfl,trivial⟩ rfl rfl ⟨rfl,rfl,rfl,rfl,rfl,trivial⟩ rfl rfl rfl (fun _=>rfl) rfl) ?_
 refine zK<|Q24 ?_
 cases p1
 exact wc
 refine zF ?_
 cases p1
 intro q;cases q
 exact zH (wc)
 refine kF ?_
 refine tl .normal ⟨[(2,.ptr 2 0),(3,.ptr 3 0)],[(2,.box 4 [.d (db y1.1)]),(3,.box 4 [.d (db y1.2)])]⟩ ?_ ?_
 refine zD6 MX ?_
 refine xn [0,1] ?_
 refine xa rfl (zCK (lq rfl) O4 rfl rfl rfl) ?_ ?_
 refine xn [1,2] ?_
 refine xa rfl (zCK (lq rfl) O4 rfl rfl rfl) ?_ ?_
 refine xn [2] ?_
 refine z5K O4 ?_
 refine xn [3] ?_
 refine z5K O4 ?_
 exact ae
 refine z5K O4 ?_
 refine xn [1] ?_
 refine xc rfl (zCK (lq rfl) O4 rfl rfl rfl) ?_
 refine xn [3] ?_
 refine z5K O4 ?_
 exact ae
 refine xc rfl (zCK (lq rfl) O4 rfl rfl rfl) ?_
 refine xn [0] ?_
 refine xc rfl (zCK (lq rfl) O4 rfl rfl rfl) ?_
 refine xn [2] ?_
 refine z5K O4 ?_
 refine xn [3] ?_
 refine z5K O4 ?_
 exact ae
 cases h
 refine zB ?_
 exact z0R rfl rfl O4 rfl rfl O4
theorem zHX {a0 r} (h:u5 a0=some r):zG Tryz.prog 63 [(eNorm.dv a0)] [(di r)]:=by
 refine co Tryz.func63 ?_;intro _ _ _ _
 unfold u5 at h
 refine Q40 ?_
 refine Q53 ?_
 refine q5 vZ ?_
 refine q6 O22 ?_
 have ⟨t15,ht15,h⟩:=bE h
 refine q8 (zIM ht15) ?_
 refine Q62 ?_
 refine z1 h (fun h=>?_) (fun h=>?_)
 refine Q35 ?_
 cases h
 refine zB ?_
 exact zI rfl
 refine Q71 ?_
 refine Q89 ?_
 have ⟨t21,ht21,h⟩:=bE h
 refine q8 (zPW ht21) ?_
 refine Q62 ?_
 refine z1 h (fun h=>?_) (fun h=>?_)
 refine Q35 ?_
 cases h
 refine zB ?_
 exact zI rfl
 refine Q71 ?_
 refine q5 z8F ?_
 refine q96 G26 ?_
 have ⟨t27,ht27,h⟩:=bE h
 refine q8 (zST ht27) ?_
 refine Q42 ?_
 refine z1 h (fun h=>?_) (fun h=>?_)
 refine Q3 ?_
 cases h
 refine zB ?_
 exact zI rfl
 refine Q93 ?_
 have ⟨y1,hy1,h⟩:=bE h
 refine zR y1 (.exit 0) (fun y1=>⟨[(1,.d (.pt (eNorm.cells a0)))],[]⟩) .ret (fun y1=>⟨[(2,.d (di y1))],[]⟩) ?_ ?_ ?_
 refine zD (fun x=>⟨[(1,.d (.pt (eNorm.cells a0))),(5,.d (di x))],[]⟩) hy1 (wc) ?_
 rintro v5 sy1 p1
 replace p1:wK a0 v5=some sy1:=p1
 unfold wK at p1
 refine Q4 ?_
 refine Q89 ?_
 refine Q55 ?_
 refine z1 p1 (fun p1=>?_) (fun p1=>?_)
 refine Q65 ?_
 refine z3 MX rfl ?_
 refine q19 zPC ?_
 refine q33 O23 ?_
 refine q7 ?_
 have ⟨t39,ht39,p1⟩:=bE p1
 refine q23 S23 ht39 ?_
 refine q52 zEZ ?_
 refine z8Z O3 ht39 ?_
 refine q19 zPC ?_
 refine q33 O23 ?_
 refine q7 ?_
 refine zYQ ?_
 have ⟨t46,ht46,p1⟩:=bE p1
 refine q23 S23 ht46 ?_
 refine q52 zEZ ?_
 refine z8Z O3 ht46 ?_
 refine vO (zJL (lq rfl) rfl rfl) ?_
 refine xZ ?_
 refine z1 p1 (fun p1=>?_) (fun p1=>?_)
 refine Q17 ?_
 cases p1
 intro q;cases q
 exact ⟨rfl,wc⟩
 refine Q28 ?_
 cases p1
 exact wc
 refine zF ?_
 cases p1
 intro q;cases q
 exact ⟨rfl,wc⟩
 rintro y1 rfl
 replace h:=eL h
 refine Q31 ?_
 refine Q89 ?_
 refine z1I ?_
 have ⟨y2,hy2,h⟩:=bE h
 refine zR y2 (.exit 2) (fun y2=>⟨[(1,.d (.pt (eNorm.cells a0)))],[]⟩) .ret (fun y2=>⟨[(2,.d (di y2))],[]⟩) ?_ ?_ ?_
 refine zD (fun x=>⟨[(1,.d (.pt (eNorm.cells a0))),(51,.d (zS eMapping a0.Decomp)),(52,.d (di (a0.Decomp.length:Int))),(53,.d (di x))],[]⟩) hy2 (wc) ?_
 rintro v53 sy2 p2
 replace p2:wL a0 v53=some sy2:=p2
 unfold wL at p2
 refine Q22 ?_
 refine z1 p2 (fun p2=>?_) (fun p2=>?_)
 refine Q29 ?_
 have ⟨t55,ht55,p2⟩:=bE p2
 refine q11 S23 ht55 ?_
 refine q90 zKT ht55 ?_
 refine z1J ?_
 refine zO (z2 (t:=7) (lq rfl) rfl rfl rfl) ?_
 refine Q0 ?_
 refine q5 zBO ?_
 refine q6 O9 ?_
 refine z9 (zKK (a:=t55.Tag) (b:=[]) (lq rfl) rfl rfl) ?_
 have ⟨b60,hb60,p2⟩:=bE p2
 refine z9 ((zC (lq rfl) rfl).bool (oi hb60)) ?_
 refine q54 (.ip (eMapping.cells t55) (0+1)) zCW ?_
 refine q62 (.d (zS eI t55.To)) O33 ?_
 refine z8P (.d (di (t55.To.length:Int))) yD ?_
 refine z8X (.d (db (!decide ((t55.To.length:Int)=1)))) ?_
 refine q14 ?_
 have ⟨b66,hb66,p2⟩:=bE p2
 refine z9 ((zC (lq rfl) rfl).bool (oi hb66)) ?_
 refine q54 (.ip (eMapping.cells t55) (0+1)) zCW ?_
 refine q62 (.d (zS eI t55.To)) O33 ?_
 refine z8P (.d (di (t55.To.length:Int))) yD ?_
 refine z8X (.d (db (!decide ((t55.To.length:Int)=2)))) ?_
 refine Q36 ?_
 refine z1 p2 (fun p2=>?_) (fun p2=>?_)
 refine Q17 ?_
 cases p2
 intro q;cases q
 exact ⟨rfl,wc⟩
 refine Q57 ?_
 cases p2
 exact wc
 refine zF ?_
 cases p2
 intro q;cases q
 exact ⟨rfl,wc⟩
 rintro y2 rfl
 replace h:=eL h
 refine Q3 ?_
 refine zO (xC (t:=8) 1008 3 eI.size (lq rfl) (lq rfl) rfl rfl) ?_
 refine Q31 ?_
 refine Q89 ?_
 refine z1I ?_
 have ⟨y3,hy3,h⟩:=bE h
 refine zR y3 (.exit 4) (fun y3=>⟨[(1,.d (.pt (eNorm.cells a0))),(8,.row 1008)],[(1008,.row 3 eI.size false (eI.all y3))]⟩) .ret (fun y3=>⟨[(2,.d (di y3))],[]⟩) ?_ ?_ ?_
 refine zD (fun x=>⟨[(1,.d (.pt (eNorm.cells a0))),(8,.row 1008),(74,.d (zS eMapping a0.Decomp)),(75,.d (di (a0.Decomp.length:Int))),(76,.d (di x.1))],[(1008,.row 3 eI.size false (eI.all x.2))]⟩) hy3 (wc) ?_
 rintro ⟨v76,r1008⟩ sy3 p3
 replace p3:yN a0 v76 r1008=some sy3:=p3
 unfold yN at p3
 refine Q22 ?_
 refine z1 p3 (fun p3=>?_) (fun p3=>?_)
 refine Q5 ?_
 have ⟨y4,hy4,p3⟩:=bE p3
 refine zR y4 .normal (fun y4=>⟨[(1,.d (.pt (eNorm.cells a0))),(8,.row 1008),(74,.d (zS eMapping a0.Decomp)),(75,.d (di (a0.Decomp.length:Int))),(76,.d (di v76))],[(1008,.row 3 eI.size false (eI.all y4))]⟩) .ret (fun y4=>⟨[(2,.d (di 11))],[]⟩) ?_ ?_ ?_
 refine zYW ?_
 have ⟨t78,ht78,hy4⟩:=bE hy4
 refine q11 S23 ht78 ?_
 refine q90 zKT ht78 ?_
 refine z1J ?_
 refine zO (z2 (t:=10) (lq rfl) rfl rfl rfl) ?_
 refine Q31 ?_
 refine zVU ?_
 have ⟨t82,ht82,hy4⟩:=bE hy4
 refine q8 (zH7 ht82) ?_
 refine Q33 ?_
 refine z1 hy4 (fun hy4=>?_) (fun hy4=>?_)
 refine Q17 ?_
 cases hy4
 exact ⟨rfl,wc⟩
 refine Q50 ?_
 refine q5 zBO ?_
 refine q6 O9 ?_
 refine z5E ?_
 refine zK ?_
 refine z1 hy4 (fun hy4=>?_) (fun hy4=>?_)
 refine Q64 ?_
 refine zVU ?_
 refine q24 yD ?_
 have ⟨r1008_5,hr1008_5,hy4⟩:=bE hy4
 refine yF rfl (yK (en:=eI) (l:=r1008) (m:=[t78.From]) (lq rfl) yD rfl rfl rfl hr1008_5 (by decide) (by decide) rfl rfl) ?_
 refine Q13 ?_
 cases hy4
 exact ⟨rfl,wc⟩
 refine zL ?_
 cases hy4
 exact ⟨rfl,wc⟩
 rintro y4 rfl
 replace p3:=eL p3
 refine Q24 ?_
 cases p3
 exact wc
 rintro y4 rfl
 replace p3:=eR p3
 cases p3
 intro q;cases q
 exact ⟨rfl,wc⟩
 refine zF ?_
 cases p3
 intro q;cases q
 exact ⟨rfl,wc⟩
 rintro y3 rfl
 replace h:=eL h
 refine Q31 ?_
 refine q5 vZ ?_
 refine q6 O22 ?_
 refine q10 ?_
 have ⟨t96,ht96,h⟩:=bE h
 refine yIR (zPY ht96) ?_
 refine q4 S24 ?_
 refine Q54 ?_
 refine z1 h (fun h=>?_) (fun h=>?_)
 refine Q3 ?_
 cases h
 refine zB ?_
 exact zI rfl
 refine Q50 ?_
 refine q21 G28 ?_
 have ⟨t101,ht101,h⟩:=bE h
 refine q8 (zLM ht101) ?_
 refine Q78 ?_
 refine q1 ?_
 refine Q76 ?_
 refine Q35 ?_
 refine z1 h (fun h=>?_) (fun h=>?_)
 refine Q3 ?_
 cases h
 refine zB ?_
 exact zI rfl
 refine Q35 ?_
 refine z1 h (fun h=>?_) (fun h=>?_)
 refine Q3 ?_
 cases h
 refine zB ?_
 exact zI rfl
 refine Q58 ?_
 cases h
 refine zB ?_
 exact zI rfl
 rintro y3 rfl
 replace h:=eR h
 cases h
 exact zI rfl
 rintro y2 rfl
 replace h:=eR h
 cases h
 exact zI rfl
 rintro y1 rfl
 replace h:=eR h
 cases h
 exact zI rfl
theorem zBT {a0} {a1} {r:Colltable_table} (h:w7 a0 a1=some r):GC Tryz.prog 32 [.ptr 3000 0,.d (eNorm.dv a1)] [(3000,.box 108 [.d (zS eEntry a0.c.Entries),.d (zS eGroup a0.c.Groups),.d (di a0.c.Base),.d (di a0.c.Second),.d (di a0.c.Third),.row 3105,.d (di a0.longest),.d (zS eSpan a0.classes),.d (di a0.top)]),(3105,.map (wY zEO (eL eElement) a0.entries))] [3000,3105] [.ptr 3000 0] [(3000,.box 108 [.d (zS eEntry r.c.Entries),.d (zS eGroup r.c.Groups),.d (di r.c.Base),.d (di r.c.Second),.d (di r.c.Third),.row 3105,.d (di r.longest),.d (zS eSpan r.classes),.d (di r.top)]),(3105,.map (wY zEO (eL eElement) r.entries))]:=by
 refine zC7 Tryz.func32 (by kernel_rfl) rfl (lq rfl) (lq rfl) fun w0 I0 hG0 p0=>?_
 unfold w7 at h
 refine Q40 ?_
 refine Q53 ?_
 refine q21 G28 ?_
 have ⟨t8,ht8,h⟩:=bE h
 refine q8 (zHX ht8) ?_
 refine Q87 ?_
 have ⟨y1,hy1,h⟩:=bE h
 refine tl .normal ⟨[(0,.ptr 3000 0)],[(3000,.box 108 [.d (zS eEntry a0.c.Entries),.d (zS eGroup a0.c.Groups),.d (di a0.c.Base),.d (di a0.c.Second),.d (di a0.c.Third),.row 3105,.d (di a0.longest),.d (zS eSpan y1),.d (di a0.top)]),(3105,.map (wY zEO (eL eElement) a0.entries))]⟩ ?_ ?_
 refine z1 hy1 (fun hy1=>?_) (fun hy1=>?_)
 refine xG<|yCS ?_
 refine q5 vZ ?_
 refine q6 O22 ?_
 refine z9 (zOB (lq rfl) rfl) ?_
 refine q51 zMC ?_
 refine q60 O22 ?_
 refine zK ?_
 cases hy1
 exact zH (wc)
 refine zL ?_
 cases hy1
 exact zH (wc)
 refine Q31 ?_
 refine yCS ?_
 refine z9 (zOB (lq rfl) rfl) ?_
 refine q51 zMC ?_
 refine q28 O22 ?_
 refine q4 S22 ?_
 refine Q30 ?_
 have ⟨y2,hy2,h⟩:=bE h
 refine tl (.exit 0) ⟨[(0,.ptr 3000 0)],[(3000,.box 108 [.d (zS eEntry a0.c.Entries),.d (zS eGroup a0.c.Groups),.d (di a0.c.Base),.d (di a0.c.Second),.d (di a0.c.Third),.row 3105,.d (di a0.longest),.d (zS eSpan y1),.d (di y2)]),(3105,.map (wY zEO (eL eElement) a0.entries))]⟩ ?_ ?_
 refine zD (fun x=>⟨[(0,.ptr 3000 0),(18,.d (zS eSpan y1)),(19,.d (di (y1.length:Int))),(20,.d (di x.1))],[(3000,.box 108 [.d (zS eEntry a0.c.Entries),.d (zS eGroup a0.c.Groups),.d (di a0.c.Base),.d (di a0.c.Second),.d (di a0.c.Third),.row 3105,.d (di a0.longest),.d (zS eSpan y1),.d (di x.2)]),(3105,.map (wY zEO (eL eElement) a0.entries))]⟩) hy2 (wc) ?_
 rintro ⟨v20,k3000_8⟩ sy2 p2
 replace p2:jA y1 v20 k3000_8=some sy2:=p2
 unfold jA at p2
 refine Q22 ?_
 refine z1 p2 (fun p2=>?_) (fun p2=>?_)
 refine Q29 ?_
 have ⟨t22,ht22,p2⟩:=bE p2
 refine q11 S22 ht22 ?_
 refine yCT G62 ht22 ?_
 refine z5G ?_
 refine q16 G62 ?_
 refine zK ?_
 refine zO (z2 (t:=6) (lq rfl) rfl rfl rfl) ?_
 refine zFE 10 MX rfl ?_
 refine z8U ?_
 refine z8U ?_
 refine z8V ?_
 refine zYO z0Y ?_
 refine yCR O3 ?_
 refine q19 zJN ?_
 refine q33 O3 ?_
 refine vO (z2D (lq rfl) rfl rfl) ?_
 refine z8V ?_
 refine zYO z0Y ?_
 refine xZ<|zYX ?_
 refine Q24 ?_
 cases p2
 exact wc
 refine zF ?_
 cases p2
 intro q;cases q
 exact zH (wc)
 refine Q0 ?_
 refine yCS ?_
 refine z9 (zCX (lq rfl) rfl) ?_
 refine zK ?_
 cases h
 refine zB ?_
 exact ⟨⟨_,_,rfl,rfl,rfl⟩,⟨rfl,rfl,trivial⟩⟩
theorem zBU {a0 a1 r} (h:jC a0 a1=some r):zG Tryz.prog 73 [(.pt (eColltable_table.cells a0)),(zS eI a1)] [(zS eElement r.1),(db r.2)]:=by
 refine co Tryz.func73 ?_;intro _ _ _ _
 unfold jC at h
 refine Q0 ?_
 refine z1A ?_
 refine q4 yD ?_
 refine q39 ?_
 have ⟨b11,hb11,h⟩:=bE h
 refine z9 ((zC (lq rfl) rfl).bool (oi hb11)) ?_
 refine q38 (.d (zS eI a1)) ?_
 refine q64 (.d (di (a1.length:Int))) yD ?_
 refine q38 (.d (.pt (eColltable_table.cells a0))) ?_
 refine sqf (.d (.pt (eColltable_table.cells a0))) rfl (fun hb=>by subst hb;exact zGS (lq rfl) rfl) ?_
 refine q25 (.ip (eColltable_table.cells a0) (0+6)) zVK ?_
 refine q26 (.d (di a0.longest)) O3 ?_
 refine q43 (.d (db (decide (a0.longest < (a1.length:Int))))) ?_
 refine Q37 ?_
 refine z1 h (fun h=>?_) (fun h=>?_)
 refine Q0 ?_
 refine Q46 ?_
 refine zO (zGQ (t:=4) eElement.size (lq rfl) rfl) ?_
 cases h
 refine zB ?_
 exact zE5 rfl rfl
 refine Q5 ?_
 refine z3 MX rfl ?_
 refine q7 ?_
 refine z5L ?_
 refine q19 z8E ?_
 refine q33 yII ?_
 refine q7 ?_
 have ⟨t26,ht26,h⟩:=bE h
 refine q22 (zHU ht26) ?_
 refine vO (z0L (kv:=zEO) (ev:=(eL eElement)) (mp:=a0.entries) (k:=t26) (zero:=[]) (lq rfl) yIF yIN rfl rfl (yB1 rfl) (fun _ _=> .nil _ _ _)) ?_
 refine vO (zIY (lq rfl) rfl) ?_
 refine z5M ?_
 refine z5M ?_
 refine z1N ?_
 refine Q15 ?_
 refine Q46 ?_
 cases h
 refine zB ?_
 exact zE5 rfl rfl
theorem zG4 {a0 a1 r} (h:jM a0 a1=some r):zG Tryz.prog 74 [(.pt (eColltable_table.cells a0)),(di a1)] [(zS eElement r)]:=by
 refine co Tryz.func74 ?_;intro _ _ _ _
 unfold jM at h
 refine Q47 ?_
 have ⟨t6,ht6,h⟩:=bE h
 refine q8 (zCF ht6) ?_
 refine Q42 ?_
 refine z1 h (fun h=>?_) (fun h=>?_)
 refine Q3 ?_
 refine zO (zGQ (t:=4) eElement.size (lq rfl) rfl) ?_
 cases h
 refine zB ?_
 exact zI rfl
 refine Q5 ?_
 refine z3 MX rfl ?_
 refine q7 ?_
 refine z5L ?_
 refine q19 z0X ?_
 refine q52 zLZ ?_
 refine q33 O3 ?_
 refine q7 ?_
 have ⟨t14,ht14,h⟩:=bE h
 refine vO (yEK (lq rfl) rfl rfl ht14) ?_
 refine z80 ?_
 refine q7 ?_
 refine z5L ?_
 refine q19 z0X ?_
 refine q52 z2U ?_
 refine q33 O3 ?_
 refine q7 ?_
 refine z5L ?_
 refine q19 z0X ?_
 refine q52 z2V ?_
 refine q33 O3 ?_
 refine vO (zDR (lq rfl) B64 rfl rfl) ?_
 refine q7 ?_
 have ⟨t28,ht28,h⟩:=bE h
 refine vO (yEL (lq rfl) rfl rfl ht28) ?_
 refine z80 ?_
 refine vO (zDR (lq rfl) B64 rfl rfl) ?_
 refine yCU S39 ?_
 refine Q51 ?_
 cases h
 refine zB ?_
 exact zI rfl
theorem zHH {a0 a1 a2 r} (h:xL a0 a1 a2=some r):zG Tryz.prog 111 [(di a0),(.pt [(.pt (eColltable_table.cells a1))]),(.pt [(di a2)])] [(db r)]:=by
 refine co Tryz.func111 ?_;intro _ _ _ _
 unfold xL at h
 refine Q3 ?_
 refine kF ?_
 refine z3 MX rfl ?_
 refine z81 O73 ?_
 refine z5L ?_
 refine q19 zMC ?_
 refine q33 O22 ?_
 refine q7 ?_
 have ⟨t10,ht10,h⟩:=bE h
 refine q23 S22 ht10 ?_
 refine q52 zIJ ?_
 refine vO (zZ (en:=eSpan) (l:=a1.classes) (i:=a0) (v:=t10) (off:=1) (lq rfl) O3 rfl ht10 rfl) ?_
 refine z81 O3 ?_
 refine vO (zKC (lq rfl) rfl rfl) ?_
 refine Q51 ?_
 cases h
 refine zB ?_
 exact zI rfl
theorem zSU {fv1:DV} {a0:Int} {a1:Int→Option (Bool)} (hf1:∀x0 y,a1 x0=some y→FnC Tryz.prog fv1 [(di x0)] [(db y)]) {r:Int} (h:zHQ a0 a1=some r):zG Tryz.prog 110 [(di a0),fv1] [(di r)]:=by
 refine co Tryz.func110 ?_;intro _ _ _ _
 unfold zHQ at h
 refine Q59 ?_
 refine q1 ?_
 refine Q76 ?_
 have ⟨y1,hy1,h⟩:=bE h
 refine tl (.exit 0) ⟨[(5,.d (di y1))],[]⟩ ?_ ?_
 refine zD (fun x=>⟨[(1,.d fv1),(5,.d (di x.1)),(6,.d (di x.2))],[]⟩) hy1 (wc) ?_
 rintro ⟨v5,v6⟩ sy1 p1
 replace p1:zA7 a1 v5 v6=some sy1:=p1
 unfold zA7 at p1
 refine Q72 ?_
 refine z1 p1 (fun p1=>?_) (fun p1=>?_)
 refine zL ?_
 have ⟨y2,hy2,p1⟩:=bE p1
 refine tl .normal ⟨[(1,.d fv1),(5,.d (di y2.1)),(6,.d (di y2.2))],[]⟩ ?_ ?_
 refine Q75 ?_
 refine z1M ?_
 refine Q1 ?_
 refine Q15 ?_
 have ⟨t20,ht20,hy2⟩:=bE hy2
 refine z9 (zE6 (lq rfl) rfl rfl (hf1 _ _ ht20)) ?_
 refine Q42 ?_
 refine z1 hy2 (fun hy2=>?_) (fun hy2=>?_)
 refine Q11 ?_
 cases hy2
 exact zH (wc)
 refine Q81 ?_
 cases hy2
 exact zH (wc)
 cases p1
 exact wc
 refine zF ?_
 cases p1
 intro q;cases q
 exact zH (wc)
 refine Q35 ?_
 cases h
 refine zB ?_
 exact zI rfl
theorem zIO {a0 a1 r} (h:wB a0 a1=some r):zG Tryz.prog 75 [(.pt (eColltable_table.cells a0)),(di a1)] [(di r)]:=by
 refine co Tryz.func75 ?_;intro _ _ _ _
 unfold wB at h
 refine Q91 ?_
 refine q63 ?_
 refine Q39 ?_
 refine q92 O73 ?_
 refine z9 (zGS (lq rfl) rfl) ?_
 refine q5 zMC ?_
 refine q6 O22 ?_
 refine q4 S22 ?_
 refine z9 (zL8 (lq rfl) rfl) ?_
 have ⟨t12,ht12,h⟩:=bE h
 refine q8 (zSU (fun _ _ q=> .inl ⟨_,_,rfl,zHH q⟩) ht12) ?_
 refine Q16 ?_
 refine kF ?_
 refine z3 MX rfl ?_
 refine q7 ?_
 refine z81 O73 ?_
 refine z5L ?_
 refine q19 zMC ?_
 refine q33 O22 ?_
 refine yGI S22 ?_
 refine z5N ?_
 have ⟨b20,hb20,h⟩:=bE h
 refine vO ((zC (lq rfl) rfl).bool (oi hb20)) ?_
 refine dat (.d (.pt (eColltable_table.cells a0))) rfl (fun hb=>by subst hb;exact zK4 (lq rfl) O73 rfl) ?_
 refine dat (.d (.pt (eColltable_table.cells a0))) rfl (fun hb=>by subst hb;exact zGS (lq rfl) rfl) ?_
 refine q97 (.ip (eColltable_table.cells a0) (0+7)) zMC ?_
 refine q98 (.d (zS eSpan a0.classes)) O22 ?_
 refine q59 (.d (di t12)) ?_
 have ⟨t26,ht26,h⟩:=bE h
 refine dat (.ip (eSpan.all a0.classes) (t12.toNat*eSpan.size)) rfl (fun hb=>by subst hb;exact kN (en:=eSpan) (lq rfl) S22 rfl rfl ht26) ?_
 refine q99 (.ip (eSpan.all a0.classes) (t12.toNat*eSpan.size+0)) zII ?_
 refine dat (.d (di t26.Lo)) rfl (fun hb=>by subst hb;exact zZ (en:=eSpan) (l:=a0.classes) (i:=t12) (v:=t26) (off:=0) (lq rfl) O3 rfl ht26 rfl) ?_
 refine dat (.d (di a1)) rfl (fun hb=>by subst hb;exact zK4 (lq rfl) O3 rfl) ?_
 refine dat (.d (db (decide (t26.Lo≤a1)))) rfl (fun hb=>by subst hb;exact zID (lq rfl) rfl rfl) ?_
 refine Q98 ?_
 refine z1 h (fun h=>?_) (fun h=>?_)
 refine Q0 ?_
 refine q92 O73 ?_
 refine z9 (zGS (lq rfl) rfl) ?_
 refine q5 zMC ?_
 refine q6 O22 ?_
 refine q0 ?_
 have ⟨t37,ht37,h⟩:=bE h
 refine q11 S22 ht37 ?_
 refine q46 zJN ?_
 refine z9 (zZ (en:=eSpan) (l:=a0.classes) (i:=t12) (v:=t37) (off:=2) (lq rfl) O3 rfl ht37 rfl) ?_
 refine Q1 ?_
 cases h
 refine zB ?_
 exact zI rfl
 refine Q58 ?_
 cases h
 refine zB ?_
 exact zI rfl
theorem zIP {a0} {a1} {r:Int×(List Element)×Bool×(List Int)} (h:wC a0 a1=some r):GC Tryz.prog 34 [.d (.pt (eColltable_table.cells a0)),.row 3001] [(3001,.win 3 eI.size 0 (eI.all a1))] [3001] [.d (di r.1),.d (zS eElement r.2.1),.d (db r.2.2.1)] [(3001,.win 3 eI.size r.1.toNat (eI.all r.2.2.2))]:=by
 refine zC7 Tryz.func34 (by kernel_rfl) rfl (lq rfl) (lq rfl) fun w0 I0 hG0 p0=>?_
 unfold wC at h
 refine Q0 ?_
 refine q1 ?_
 refine z1L ?_
 refine z9 (zGS (lq rfl) rfl) ?_
 refine q5 zVK ?_
 refine q6 O3 ?_
 refine q10 ?_
 refine yCY yD ?_
 refine z8T ?_
 refine Q76 ?_
 have ⟨y1,hy1,h⟩:=bE h
 refine tl (.exit 0) ⟨[(0,.d (.pt (eColltable_table.cells a0))),(1,.row 3001),(7,.d (di y1))],[(3001,.win 3 eI.size 0 (eI.all a1))]⟩ ?_ ?_
 refine zD (fun x=>⟨[(0,.d (.pt (eColltable_table.cells a0))),(1,.row 3001),(7,.d (di x))],[(3001,.win 3 eI.size 0 (eI.all a1))]⟩) hy1 (wc) ?_
 rintro v7 sy1 p1
 replace p1:kT a1 a0 v7=some sy1:=p1
 unfold kT at p1
 refine Q4 ?_
 refine Q54 ?_
 refine z1 p1 (fun p1=>?_) (fun p1=>?_)
 refine zL<|yY<|Q4 ?_
 refine Q18 ?_
 have ⟨t31,ht31,p1⟩:=bE p1
 refine z9 (zUA (en:=eI) (l:=a1) (lq rfl) yD rfl rfl rfl ht31) ?_
 have ⟨t32,ht32,p1⟩:=bE p1
 refine yF rfl (yB3 (lq rfl) ⟨_,_,rfl,.d _,⟨_,_,rfl,.front rfl ht31,rfl⟩⟩ (zBU ht32)) ?_
 refine z9 (zO7 (lq rfl) rfl) ?_
 refine z82 ?_
 refine z82 ?_
 refine z9 (zVD (lq rfl)) ?_
 refine Q19 ?_
 refine zK ?_
 refine z1 p1 (fun p1=>?_) (fun p1=>?_)
 refine zF ?_
 cases p1
 intro q;cases q
 exact zH (wc)
 refine zL<|Q7 ?_
 refine Q73 ?_
 cases p1
 exact wc
 refine zF ?_
 cases p1
 intro q;cases q
 exact zH (wc)
 refine Q4 ?_
 refine Q87 ?_
 refine z1 h (fun h=>?_) (fun h=>?_)
 refine Q2 ?_
 refine q10 ?_
 have ⟨t42,ht42,h⟩:=bE h
 refine z9 (zFF (en:=eI) (l:=a1) (lq rfl) yD rfl rfl rfl ht42) ?_
 refine z9 (zI6 (en:=eI) (l:=a1) (i:=(0:Int)) (v:=t42) (lq rfl) O3 rfl rfl ht42 rfl) ?_
 have ⟨t44,ht44,h⟩:=bE h
 refine q8 (zG4 ht44) ?_
 refine q1 ?_
 refine Q46 ?_
 refine zO (z0O (id:=3001) ((1:Int).toNat) rfl (Nat.zero_le _)) ?_
 cases h
 refine zB ?_
 exact ⟨⟨_,_,rfl,rfl,⟨_,_,rfl,rfl,⟨_,_,rfl,rfl,rfl⟩⟩⟩,⟨rfl,trivial⟩⟩
 refine zL<|Q47 ?_
 refine Q1 ?_
 refine yY ?_
 have ⟨y2,hy2,h⟩:=bE h
 refine tl (.exit 2) ⟨[(0,.d (.pt (eColltable_table.cells a0))),(1,.row 3001),(7,.d (di y2.1))],[(3001,.win 3 eI.size 0 (eI.all y2.2))]⟩ ?_ ?_
 refine zD (fun x=>⟨[(0,.d (.pt (eColltable_table.cells a0))),(1,.row 3001),(7,.d (di x.1)),(10,.d (di x.2.1)),(11,.d (di x.2.2.1))],[(3001,.win 3 eI.size 0 (eI.all x.2.2.2))]⟩) hy2 (wc) ?_
 rintro ⟨v7,v10,v11,r3001⟩ sy2 p2
 replace p2:yW a0 v7 v10 v11 r3001=some sy2:=p2
 unfold yW at p2
 refine Q4 ?_
 refine q10 ?_
 refine yCY yD ?_
 refine q3 ?_
 have ⟨b50,hb50,p2⟩:=bE p2
 refine z9 ((zC (lq rfl) rfl).bool (oi hb50)) ?_
 refine q13 (.d (di v10)) ?_
 refine q13 (.d (.pt (eColltable_table.cells a0))) ?_
 refine sqt (.d (.pt (eColltable_table.cells a0))) rfl (fun hb=>by subst hb;exact zGS (lq rfl) rfl) ?_
 refine q54 (.ip (eColltable_table.cells a0) (0+8)) z0Y ?_
 refine q62 (.d (di a0.top)) O3 ?_
 refine q73 (.d (db (decide (v10 < a0.top)))) ?_
 refine Q36 ?_
 refine z1 p2 (fun p2=>?_) (fun p2=>?_)
 refine Q5 ?_
 have ⟨y3,hy3,p2⟩:=bE p2
 refine zR y3 (.exit 2) (fun y3=>⟨[(0,.d (.pt (eColltable_table.cells a0))),(1,.row 3001),(7,.d (di v7))],[(3001,.win 3 eI.size 0 (eI.all r3001))]⟩) .normal (fun y3=>⟨[(0,.d (.pt (eColltable_table.cells a0))),(1,.row 3001),(7,.d (di y3.1)),(10,.d (di y3.2.1)),(11,.d (di v11))],[(3001,.win 3 eI.size 0 (eI.all y3.2.2))]⟩) ?_ ?_ ?_
 refine zYW ?_
 refine Q18 ?_
 have ⟨t62,ht62,hy3⟩:=bE hy3
 refine z9 (zFF (en:=eI) (l:=r3001) (lq rfl) yD rfl rfl rfl ht62) ?_
 refine z9 (zI6 (en:=eI) (l:=r3001) (i:=v11) (v:=t62) (lq rfl) O3 rfl rfl ht62 rfl) ?_
 refine Q1 ?_
 refine Q15 ?_
 have ⟨t66,ht66,hy3⟩:=bE hy3
 refine q8 (zIO ht66) ?_
 refine Q1 ?_
 refine Q4 ?_
 refine Q87 ?_
 refine z1 hy3 (fun hy3=>?_) (fun hy3=>?_)
 refine zF ?_
 cases hy3
 exact ⟨rfl,wc⟩
 refine zL<|Q12 ?_
 refine q70 ?_
 refine zK ?_
 refine z1 hy3 (fun hy3=>?_) (fun hy3=>?_)
 refine zF ?_
 cases hy3
 exact ⟨rfl,wc⟩
 refine Q95 ?_
 refine Q34 ?_
 have ⟨t77,ht77,hy3⟩:=bE hy3
 refine z9 (z45 (en:=eI) (l:=r3001) (lq rfl) yD rfl rfl rfl rfl ht77) ?_
 refine q0 ?_
 refine q24 yD ?_
 have ⟨r80_4,hr80_4,hy3⟩:=bE hy3
 refine yF rfl (z46 (en:=eI) (l:=r3001) (b:=v7) (lq rfl) yD rfl rfl ht77 rfl (by simp) hr80_4 (by decide) rfl) ?_
 have ⟨t81,ht81,hy3⟩:=bE hy3
 refine yIR (zBU ht81) ?_
 refine Q78 ?_
 refine z1L ?_
 refine Q42 ?_
 refine z1 hy3 (fun hy3=>?_) (fun hy3=>?_)
 refine Q35 ?_
 refine zF ?_
 cases hy3
 exact ⟨rfl,wc⟩
 refine Q5 ?_
 refine zFE 10 MX rfl ?_
 refine zYY ?_
 refine z80 ?_
 refine q7 ?_
 refine z80 ?_
 have ⟨t92,ht92,hy3⟩:=bE hy3
 refine vO (zX8 (en:=eI) (l:=r3001) (lq rfl) yD rfl rfl rfl rfl ht92) ?_
 refine q88 ?_
 refine Q27 ?_
 have ⟨t96,ht96,hy3⟩:=bE hy3
 refine vO (zX8 (en:=eI) (l:=r3001) (lq rfl) yD rfl rfl rfl rfl ht96) ?_
 refine xZ ?_
 refine yF rfl (yB5 (en:=eI) (l:=r3001) (a1:=(wi (v7+1))) (b1:=(wi (v11+1))) (a2:=v7) (b2:=v11) (lq rfl) yD rfl rfl rfl ht92 ht96 rfl) ?_
 refine Q52 ?_
 refine Q34 ?_
 have ⟨t101,ht101,hy3⟩:=bE hy3
 refine z9 (zFF (en:=eI) (l:=(cpM r3001 (wi (v7+1)) (wi (v11+1)) v7 v11)) (lq rfl) yD rfl rfl rfl ht101) ?_
 have ⟨r3001_5,hr3001_5,hy3⟩:=bE hy3
 refine yF rfl (zX9 (en:=eI) (l:=(cpM r3001 (wi (v7+1)) (wi (v11+1)) v7 v11)) (i:=v7) (v:=t62) O3 rfl rfl rfl ht101 hr3001_5 rfl rfl rfl rfl) ?_
 refine zK<|Q11 ?_
 cases hy3
 exact ⟨rfl,wc⟩
 rintro y3 rfl
 replace p2:=eL p2
 cases p2
 intro q;cases q
 exact zH (wc)
 rintro y3 rfl
 replace p2:=eR p2
 refine Q11 ?_
 cases p2
 exact wc
 refine zF ?_
 cases p2
 intro q;cases q
 exact zH (wc)
 refine Q2 ?_
 refine Q18 ?_
 have ⟨t108,ht108,h⟩:=bE h
 refine z9 (zUA (en:=eI) (l:=y2.2) (lq rfl) yD rfl rfl rfl ht108) ?_
 refine zHK (z0P (tm:=108) (en:=eI) (l:=y2.2) (b:=y2.1) (lq rfl) rfl rfl ht108) ?_ (by simp)
 have ⟨t109,ht109,h⟩:=bE h
 refine yF rfl ((wD (lq rfl) rfl (zBU ht109)).step) ?_
 refine Q78 ?_
 refine Q46 ?_
 refine Q15 ?_
 refine q1 ?_
 refine Q46 ?_
 cases h
 refine zB ?_
 exact ⟨⟨_,_,rfl,rfl,⟨_,_,rfl,rfl,⟨_,_,rfl,rfl,rfl⟩⟩⟩,⟨rfl,trivial⟩⟩
theorem zJV {a0 a1 r} (h:zB5 a0 a1=some r):zG Tryz.prog 42 [(zS eI a0),(zS eI a1)] [(di r)]:=by
 refine co Tryz.func42 ?_;intro _ _ _ _
 unfold zB5 at h
 refine Q74 ?_
 have ⟨y1,hy1,h⟩:=bE h
 refine zR y1 (.exit 0) (fun y1=>⟨[(0,.d (zS eI a0)),(1,.d (zS eI a1))],[]⟩) .ret (fun y1=>⟨[(4,.d (di y1))],[]⟩) ?_ ?_ ?_
 refine zD (fun x=>⟨[(0,.d (zS eI a0)),(1,.d (zS eI a1)),(5,.d (di x))],[]⟩) hy1 (wc) ?_
 rintro v5 sy1 p1
 replace p1:uI a0 a1 v5=some sy1:=p1
 unfold uI at p1
 refine Q12 ?_
 refine q4 yD ?_
 refine q3 ?_
 have ⟨b10,hb10,p1⟩:=bE p1
 refine z9 ((zC (lq rfl) rfl).bool (oi hb10)) ?_
 refine q13 (.d (di v5)) ?_
 refine q13 (.d (zS eI a1)) ?_
 refine z8P (.d (di (a1.length:Int))) yD ?_
 refine q73 (.d (db (decide (v5 < (a1.length:Int))))) ?_
 refine Q36 ?_
 refine z1 p1 (fun p1=>?_) (fun p1=>?_)
 refine Q65 ?_
 refine kF ?_
 refine z3 MX rfl ?_
 refine Q27 ?_
 have ⟨t20,ht20,p1⟩:=bE p1
 refine q23 yD ht20 ?_
 refine q67 O3 ht20 ?_
 refine Q27 ?_
 have ⟨t24,ht24,p1⟩:=bE p1
 refine q23 yD ht24 ?_
 refine q67 O3 ht24 ?_
 refine z5N ?_
 refine xZ ?_
 refine z1 p1 (fun p1=>?_) (fun p1=>?_)
 refine Q17 ?_
 cases p1
 intro q;cases q
 exact ⟨rfl,wc⟩
 refine Q5 ?_
 refine z3 MX rfl ?_
 refine Q27 ?_
 have ⟨t29,ht29,p1⟩:=bE p1
 refine q23 yD ht29 ?_
 refine q67 O3 ht29 ?_
 refine Q27 ?_
 have ⟨t33,ht33,p1⟩:=bE p1
 refine q23 yD ht33 ?_
 refine q67 O3 ht33 ?_
 refine z02 ?_
 refine xZ ?_
 refine z1 p1 (fun p1=>?_) (fun p1=>?_)
 refine Q17 ?_
 cases p1
 intro q;cases q
 exact ⟨rfl,wc⟩
 refine Q28 ?_
 cases p1
 exact wc
 refine zF ?_
 cases p1
 intro q;cases q
 exact ⟨rfl,wc⟩
 rintro y1 rfl
 replace h:=eL h
 refine Q4 ?_
 refine q4 yD ?_
 refine q0 ?_
 refine Q83 ?_
 refine z1 h (fun h=>?_) (fun h=>?_)
 refine Q3 ?_
 cases h
 refine zB ?_
 exact zI rfl
 refine Q95 ?_
 refine q4 yD ?_
 refine q0 ?_
 refine q4 yD ?_
 refine Q54 ?_
 refine z1 h (fun h=>?_) (fun h=>?_)
 refine Q3 ?_
 cases h
 refine zB ?_
 exact zI rfl
 refine Q58 ?_
 cases h
 refine zB ?_
 exact zI rfl
 rintro y1 rfl
 replace h:=eR h
 cases h
 exact zI rfl
theorem zFB {a0 a1 r} (h:zAM a0 a1=some r):zG Tryz.prog 17 [(zS eI a0),(zS eI a1)] [(db r)]:=by
 refine co Tryz.func17 ?_;intro _ _ _ _
 unfold zAM at h
 refine Q3 ?_
 refine Q15 ?_
 have ⟨t7,ht7,h⟩:=bE h
 refine q8 (zJV ht7) ?_
 refine Q88 ?_
 cases h
 refine zB ?_
 exact zI rfl
theorem zKW {a0 r} (h:zD7 a0=some r):zG Tryz.prog 58 [(di a0)] [(db r)]:=by
 refine co Tryz.func58 ?_;intro _ _ _ _
 unfold zD7 at h
 refine Q59 ?_
 refine q44 ?_
 have ⟨b5,hb5,h⟩:=bE h
 refine z9 ((zC (lq rfl) rfl).bool (oi hb5)) ?_
 refine q13 (.d (di a0)) ?_
 refine q55 (.d (db (decide (a0≤65535)))) ?_
 refine Q41 ?_
 cases h
 refine zB ?_
 exact zI rfl
theorem zNG {a0 r} (h:zEQ a0=some r):zG Tryz.prog 88 [(ds a0)] [(db r)]:=by
 refine co Tryz.func88 ?_;intro _ _ _ _
 unfold zEQ at h
 refine Q74 ?_
 have ⟨y1,hy1,h⟩:=bE h
 refine zR y1 (.exit 0) (fun y1=>⟨[(0,.d (ds a0))],[]⟩) .ret (fun y1=>⟨[(2,.d (db y1))],[]⟩) ?_ ?_ ?_
 refine zD (fun x=>⟨[(0,.d (ds a0)),(3,.d (di x))],[]⟩) hy1 (wc) ?_
 rintro v3 sy1 p1
 replace p1:zE7 a0 v3=some sy1:=p1
 unfold zE7 at p1
 refine Q12 ?_
 refine z8Q Tryz.underlying9 ?_
 refine Q6 ?_
 refine z1 p1 (fun p1=>?_) (fun p1=>?_)
 refine Q69 ?_
 have ⟨t13,ht13,p1⟩:=bE p1
 refine yCL Tryz.underlying9 ht13 ?_
 refine Q19 ?_
 refine q44 ?_
 have ⟨b16,hb16,p1⟩:=bE p1
 refine z9 ((zC (lq rfl) rfl).bool (oi hb16)) ?_
 refine q13 (.d (dby t13)) ?_
 refine q55 (.d (db (decide (t13≤90)))) ?_
 refine q14 ?_
 have ⟨b20,hb20,p1⟩:=bE p1
 refine z9 ((zC (lq rfl) rfl).bool (oi hb20)) ?_
 refine q38 (.d (dby t13)) ?_
 refine z01 (.d (db (decide (97≤t13)))) ?_
 have ⟨b23,hb23,p1⟩:=bE p1
 refine sqf (.d (db b23)) rfl (fun hb=>by subst hb;exact (zC (lq rfl) rfl).bool (oi hb23)) ?_
 refine jW (x:= .d (dby t13)) rfl rfl rfl (lq rfl) (lq rfl) rfl (fun hb=>by obtain ⟨hb,hb1⟩:=zQ hb;obtain rfl:=gF hb;obtain rfl:b23=true:=hb1;exact zC (lq rfl) rfl) ?_
 refine jW (x:= .d (db (decide (t13≤122)))) rfl rfl rfl (lq rfl) (lq rfl) rfl (fun hb=>by obtain ⟨hb,hb1⟩:=zQ hb;obtain rfl:=gF hb;obtain rfl:b23=true:=hb1;exact zID (lq rfl) rfl rfl) ?_
 refine q86 (.d (db (b23&&(decide (t13≤122))))) ?_
 refine q18 ?_
 have ⟨b28,hb28,p1⟩:=bE p1
 refine z9 ((zC (lq rfl) rfl).bool (oi hb28)) ?_
 refine q38 (.d (dby t13)) ?_
 refine z01 (.d (db (decide (48≤t13)))) ?_
 have ⟨b31,hb31,p1⟩:=bE p1
 refine sqf (.d (db b31)) rfl (fun hb=>by subst hb;exact (zC (lq rfl) rfl).bool (oi hb31)) ?_
 refine jW (x:= .d (dby t13)) rfl rfl rfl (lq rfl) (lq rfl) rfl (fun hb=>by obtain ⟨hb,hb1⟩:=zQ hb;obtain rfl:=gF hb;obtain rfl:b31=true:=hb1;exact zC (lq rfl) rfl) ?_
 refine jW (x:= .d (db (decide (t13≤57)))) rfl rfl rfl (lq rfl) (lq rfl) rfl (fun hb=>by obtain ⟨hb,hb1⟩:=zQ hb;obtain rfl:=gF hb;obtain rfl:b31=true:=hb1;exact zID (lq rfl) rfl rfl) ?_
 refine q86 (.d (db (b31&&(decide (t13≤57))))) ?_
 refine q18 ?_
 have ⟨b36,hb36,p1⟩:=bE p1
 refine z9 ((zC (lq rfl) rfl).bool (oi hb36)) ?_
 refine q38 (.d (dby t13)) ?_
 refine z5D (.d (db (decide (t13=95)))) ?_
 refine q18 ?_
 refine Q42 ?_
 refine z1 p1 (fun p1=>?_) (fun p1=>?_)
 refine Q17 ?_
 cases p1
 intro q;cases q
 exact ⟨rfl,wc⟩
 refine Q28 ?_
 cases p1
 exact wc
 refine zF ?_
 cases p1
 intro q;cases q
 exact ⟨rfl,wc⟩
 rintro y1 rfl
 replace h:=eL h
 refine Q2 ?_
 refine z8Q Tryz.underlying9 ?_
 refine q44 ?_
 have ⟨b44,hb44,h⟩:=bE h
 refine z9 ((zC (lq rfl) rfl).bool (oi hb44)) ?_
 refine q13 (.d (ds a0)) ?_
 refine sqt (.d (di (a0.length:Int))) rfl (fun hb=>by subst hb;exact zQ9 (s:=a0) (lq rfl) Tryz.underlying9 rfl) ?_
 refine q55 (.d (db (decide ((a0.length:Int)≤32)))) ?_
 refine Q41 ?_
 cases h
 refine zB ?_
 exact zI rfl
 rintro y1 rfl
 replace h:=eR h
 cases h
 exact zI rfl
theorem zRO {a0 r} (h:zD8 a0=some r):zG Tryz.prog 59 [(eCollation.dv a0)] [(di r)]:=by
 refine co Tryz.func59 ?_;intro _ _ _ _
 unfold zD8 at h
 refine Q84 ?_
 refine Q39 ?_
 refine z1D ?_
 refine Q96 ?_
 have ⟨y1,hy1,h⟩:=bE h
 refine zR y1 (.exit 0) (fun y1=>⟨[(1,.d (.pt (eCollation.cells a0))),(3,.d (zS eGroup a0.Groups))],[]⟩) .ret (fun y1=>⟨[(2,.d (di y1))],[]⟩) ?_ ?_ ?_
 refine zD (fun x=>⟨[(1,.d (.pt (eCollation.cells a0))),(3,.d (zS eGroup a0.Groups)),(4,.d (di x))],[]⟩) hy1 (wc) ?_
 rintro v4 sy1 p1
 replace p1:u9 a0 v4=some sy1:=p1
 unfold u9 at p1
 refine Q12 ?_
 refine q4 S30 ?_
 refine Q6 ?_
 refine z1 p1 (fun p1=>?_) (fun p1=>?_)
 refine Q69 ?_
 have ⟨t19,ht19,p1⟩:=bE p1
 refine q11 S30 ht19 ?_
 refine q46 zMD ?_
 refine z9 (zZ (en:=eGroup) (l:=a0.Groups) (i:=v4) (v:=t19) (off:=0) (lq rfl) O9 rfl ht19 rfl) ?_
 have ⟨t22,ht22,p1⟩:=bE p1
 refine q8 (zNG ht22) ?_
 refine Q42 ?_
 refine z1 p1 (fun p1=>?_) (fun p1=>?_)
 refine Q17 ?_
 cases p1
 intro q;cases q
 exact ⟨rfl,wc⟩
 refine Q28 ?_
 cases p1
 exact wc
 refine zF ?_
 cases p1
 intro q;cases q
 exact ⟨rfl,wc⟩
 rintro y1 rfl
 replace h:=eL h
 refine Q32 ?_
 have ⟨y2,hy2,h⟩:=bE h
 refine zR y2 (.exit 2) (fun y2=>⟨[(1,.d (.pt (eCollation.cells a0))),(3,.d (zS eGroup a0.Groups))],[]⟩) .ret (fun y2=>⟨[(2,.d (di y2))],[]⟩) ?_ ?_ ?_
 refine zD (fun x=>⟨[(1,.d (.pt (eCollation.cells a0))),(3,.d (zS eGroup a0.Groups)),(5,.d (di x))],[]⟩) hy2 (wc) ?_
 rintro v5 sy2 p2
 replace p2:zAB a0 v5=some sy2:=p2
 unfold zAB at p2
 refine Q12 ?_
 refine q4 S30 ?_
 refine Q6 ?_
 refine z1 p2 (fun p2=>?_) (fun p2=>?_)
 refine Q8 ?_
 refine Q14 ?_
 have ⟨y3,hy3,p2⟩:=bE p2
 refine zR y3 (.exit 4) (fun y3=>⟨[(1,.d (.pt (eCollation.cells a0))),(3,.d (zS eGroup a0.Groups)),(5,.d (di v5))],[]⟩) .ret (fun y3=>⟨[(2,.d (di y3))],[]⟩) ?_ ?_ ?_
 refine zD (fun x=>⟨[(1,.d (.pt (eCollation.cells a0))),(3,.d (zS eGroup a0.Groups)),(5,.d (di v5)),(6,.d (di x))],[]⟩) hy3 (wc) ?_
 rintro v6 sy3 p3
 replace p3:zAA v5 a0 v6=some sy3:=p3
 unfold zAA at p3
 refine Q72 ?_
 refine z1 p3 (fun p3=>?_) (fun p3=>?_)
 refine Q65 ?_
 refine z3 MX rfl ?_
 refine Q27 ?_
 have ⟨t37,ht37,p3⟩:=bE p3
 refine q23 S30 ht37 ?_
 refine q52 zMD ?_
 refine vO (zZ (en:=eGroup) (l:=a0.Groups) (i:=v6) (v:=t37) (off:=0) (lq rfl) O9 rfl ht37 rfl) ?_
 refine Q27 ?_
 have ⟨t42,ht42,p3⟩:=bE p3
 refine q23 S30 ht42 ?_
 refine q52 zMD ?_
 refine vO (zZ (en:=eGroup) (l:=a0.Groups) (i:=v5) (v:=t42) (off:=0) (lq rfl) O9 rfl ht42 rfl) ?_
 refine vO (zKK (a:=t37.Name) (b:=t42.Name) (lq rfl) rfl rfl) ?_
 refine xZ ?_
 refine z1 p3 (fun p3=>?_) (fun p3=>?_)
 refine Q17 ?_
 cases p3
 intro q;cases q
 exact ⟨rfl,wc⟩
 refine Q28 ?_
 cases p3
 exact wc
 refine zF ?_
 cases p3
 intro q;cases q
 exact ⟨rfl,wc⟩
 rintro y3 rfl
 replace p2:=eL p2
 refine Q11 ?_
 cases p2
 exact wc
 rintro y3 rfl
 replace p2:=eR p2
 cases p2
 intro q;cases q
 exact ⟨rfl,wc⟩
 refine zF ?_
 cases p2
 intro q;cases q
 exact ⟨rfl,wc⟩
 rintro y2 rfl
 replace h:=eL h
 refine Q32 ?_
 have ⟨y4,hy4,h⟩:=bE h
 refine zR y4 (.exit 6) (fun y4=>⟨[(3,.d (zS eGroup a0.Groups))],[]⟩) .ret (fun y4=>⟨[(2,.d (di y4))],[]⟩) ?_ ?_ ?_
 refine zD (fun x=>⟨[(1,.d (.pt (eCollation.cells a0))),(3,.d (zS eGroup a0.Groups)),(7,.d (di x))],[]⟩) hy4 (wc) ?_
 rintro v7 sy4 p4
 replace p4:zAC a0 v7=some sy4:=p4
 unfold zAC at p4
 refine Q12 ?_
 refine q4 S30 ?_
 refine Q6 ?_
 refine z1 p4 (fun p4=>?_) (fun p4=>?_)
 refine Q65 ?_
 refine z3 MX rfl ?_
 refine Q27 ?_
 have ⟨t54,ht54,p4⟩:=bE p4
 refine q23 S30 ht54 ?_
 refine q52 zOF ?_
 refine vO (zZ (en:=eGroup) (l:=a0.Groups) (i:=v7) (v:=t54) (off:=1) (lq rfl) O3 rfl ht54 rfl) ?_
 refine z5N ?_
 have ⟨b58,hb58,p4⟩:=bE p4
 refine vO ((zC (lq rfl) rfl).bool (oi hb58)) ?_
 refine q50 (.d (zS eGroup a0.Groups)) ?_
 refine q50 (.d (di v7)) ?_
 have ⟨t61,ht61,p4⟩:=bE p4
 refine daf (.ip (eGroup.all a0.Groups) (v7.toNat*eGroup.size)) rfl (fun hb=>by subst hb;exact kN (en:=eGroup) (lq rfl) S30 rfl rfl ht61) ?_
 refine q82 (.ip (eGroup.all a0.Groups) (v7.toNat*eGroup.size+2)) zOG ?_
 refine daf (.d (di t61.Hi)) rfl (fun hb=>by subst hb;exact zZ (en:=eGroup) (l:=a0.Groups) (i:=v7) (v:=t61) (off:=2) (lq rfl) O3 rfl ht61 rfl) ?_
 refine q50 (.d (zS eGroup a0.Groups)) ?_
 refine q50 (.d (di v7)) ?_
 have ⟨t66,ht66,p4⟩:=bE p4
 refine daf (.ip (eGroup.all a0.Groups) (v7.toNat*eGroup.size)) rfl (fun hb=>by subst hb;exact kN (en:=eGroup) (lq rfl) S30 rfl rfl ht66) ?_
 refine q82 (.ip (eGroup.all a0.Groups) (v7.toNat*eGroup.size+1)) zOF ?_
 refine daf (.d (di t66.Lo)) rfl (fun hb=>by subst hb;exact zZ (en:=eGroup) (l:=a0.Groups) (i:=v7) (v:=t66) (off:=1) (lq rfl) O3 rfl ht66 rfl) ?_
 refine daf (.d (db (decide (t61.Hi < t66.Lo)))) rfl (fun hb=>by subst hb;exact zMW (lq rfl) rfl rfl) ?_
 refine q95 ?_
 have ⟨b71,hb71,p4⟩:=bE p4
 refine vO ((zC (lq rfl) rfl).bool (oi hb71)) ?_
 refine q50 (.d (zS eGroup a0.Groups)) ?_
 refine q50 (.d (di v7)) ?_
 have ⟨t74,ht74,p4⟩:=bE p4
 refine daf (.ip (eGroup.all a0.Groups) (v7.toNat*eGroup.size)) rfl (fun hb=>by subst hb;exact kN (en:=eGroup) (lq rfl) S30 rfl rfl ht74) ?_
 refine q82 (.ip (eGroup.all a0.Groups) (v7.toNat*eGroup.size+2)) zOG ?_
 refine daf (.d (di t74.Hi)) rfl (fun hb=>by subst hb;exact zZ (en:=eGroup) (l:=a0.Groups) (i:=v7) (v:=t74) (off:=2) (lq rfl) O3 rfl ht74 rfl) ?_
 refine daf (.ip (eCollation.cells a0) (0+2)) rfl (fun hb=>by subst hb;exact wF (lq rfl) zLZ rfl) ?_
 refine daf (.d (di a0.Base)) rfl (fun hb=>by subst hb;exact xI (lq rfl) O3 rfl rfl) ?_
 refine daf (.d (db (decide (a0.Base≤t74.Hi)))) rfl (fun hb=>by subst hb;exact zKC (lq rfl) rfl rfl) ?_
 refine q95 ?_
 refine xZ ?_
 refine z1 p4 (fun p4=>?_) (fun p4=>?_)
 refine Q17 ?_
 cases p4
 intro q;cases q
 exact ⟨rfl,wc⟩
 refine Q28 ?_
 cases p4
 exact wc
 refine zF ?_
 cases p4
 intro q;cases q
 exact ⟨rfl,wc⟩
 rintro y4 rfl
 replace h:=eL h
 refine Q32 ?_
 have ⟨y5,hy5,h⟩:=bE h
 refine zR y5 (.exit 8) (fun y5=>⟨[],[]⟩) .ret (fun y5=>⟨[(2,.d (di y5))],[]⟩) ?_ ?_ ?_
 refine zD (fun x=>⟨[(3,.d (zS eGroup a0.Groups)),(8,.d (di x))],[]⟩) hy5 (wc) ?_
 rintro v8 sy5 p5
 replace p5:vQ a0 v8=some sy5:=p5
 unfold vQ at p5
 refine Q12 ?_
 refine q4 S30 ?_
 refine Q6 ?_
 refine z1 p5 (fun p5=>?_) (fun p5=>?_)
 refine Q65 ?_
 refine z3 MX rfl ?_
 refine Q27 ?_
 have ⟨t89,ht89,p5⟩:=bE p5
 refine q23 S30 ht89 ?_
 refine q52 zOF ?_
 refine vO (zZ (en:=eGroup) (l:=a0.Groups) (i:=v8) (v:=t89) (off:=1) (lq rfl) O3 rfl ht89 rfl) ?_
 refine Q27 ?_
 refine zYQ ?_
 have ⟨t95,ht95,p5⟩:=bE p5
 refine q23 S30 ht95 ?_
 refine q52 zOG ?_
 refine vO (zZ (en:=eGroup) (l:=a0.Groups) (i:=(wi (v8 - 1))) (v:=t95) (off:=2) (lq rfl) O3 rfl ht95 rfl) ?_
 refine z80 ?_
 refine vO (zMX (lq rfl) rfl rfl) ?_
 refine xZ ?_
 refine z1 p5 (fun p5=>?_) (fun p5=>?_)
 refine Q17 ?_
 cases p5
 intro q;cases q
 exact ⟨rfl,wc⟩
 refine Q28 ?_
 cases p5
 exact wc
 refine zF ?_
 cases p5
 intro q;cases q
 exact ⟨rfl,wc⟩
 rintro y5 rfl
 replace h:=eL h
 refine Q3 ?_
 cases h
 refine zB ?_
 exact zI rfl
 rintro y5 rfl
 replace h:=eR h
 cases h
 exact zI rfl
 rintro y4 rfl
 replace h:=eR h
 cases h
 exact zI rfl
 rintro y2 rfl
 replace h:=eR h
 cases h
 exact zI rfl
 rintro y1 rfl
 replace h:=eR h
 cases h
 exact zI rfl
theorem wV {a0 r} (h:xM a0=some r):zG Tryz.prog 48 [(di a0)] [(db r)]:=by
 refine co Tryz.func48 ?_;intro _ _ _ _
 unfold xM at h
 refine Q59 ?_
 refine q44 ?_
 have ⟨b5,hb5,h⟩:=bE h
 refine z9 ((zC (lq rfl) rfl).bool (oi hb5)) ?_
 refine q13 (.d (di a0)) ?_
 refine q55 (.d (db (decide (a0≤1114111)))) ?_
 refine Q41 ?_
 cases h
 refine zB ?_
 exact zI rfl
theorem zG5 {a0 r} (h:zC1 a0=some r):zG Tryz.prog 117 [(di a0)] [(db r)]:=by
 refine co Tryz.func117 ?_;intro _ _ _ _
 unfold zC1 at h
 refine Q59 ?_
 refine q44 ?_
 have ⟨b5,hb5,h⟩:=bE h
 refine z9 ((zC (lq rfl) rfl).bool (oi hb5)) ?_
 refine q13 (.d (di a0)) ?_
 refine q55 (.d (db (decide (a0≤65535)))) ?_
 refine Q41 ?_
 cases h
 refine zB ?_
 exact zI rfl
theorem zSV {a0 r} (h:zFN a0=some r):zG Tryz.prog 89 [(eElement.dv a0)] [(di r)]:=by
 refine co Tryz.func89 ?_;intro _ _ _ _
 unfold zFN at h
 refine z1F ?_
 refine Q53 ?_
 refine Q85 ?_
 have ⟨t5,ht5,h⟩:=bE h
 refine q8 (zG5 ht5) ?_
 refine q32 ?_
 have ⟨b7,hb7,h⟩:=bE h
 refine z9 ((zC (lq rfl) rfl).bool (oi hb7)) ?_
 refine q25 (.ip (eElement.cells a0) (0+1)) zM9 ?_
 refine q26 (.d (di a0.Secondary)) O3 ?_
 have ⟨t10,ht10,h⟩:=bE h
 refine sqf (.d (db t10)) rfl (fun hb=>by subst hb;exact wD (lq rfl) rfl (zG5 ht10)) ?_
 refine z03 (.d (db (!t10))) ?_
 refine q18 ?_
 have ⟨b13,hb13,h⟩:=bE h
 refine z9 ((zC (lq rfl) rfl).bool (oi hb13)) ?_
 refine q25 (.ip (eElement.cells a0) (0+2)) zNA ?_
 refine q26 (.d (di a0.Tertiary)) O3 ?_
 have ⟨t16,ht16,h⟩:=bE h
 refine sqf (.d (db t16)) rfl (fun hb=>by subst hb;exact wD (lq rfl) rfl (zG5 ht16)) ?_
 refine z03 (.d (db (!t16))) ?_
 refine Q37 ?_
 refine z1 h (fun h=>?_) (fun h=>?_)
 refine Q3 ?_
 cases h
 refine zB ?_
 exact zI rfl
 refine Q71 ?_
 refine Q85 ?_
 refine q29 ?_
 have ⟨b22,hb22,h⟩:=bE h
 refine z9 ((zC (lq rfl) rfl).bool (oi hb22)) ?_
 refine q54 (.ip (eElement.cells a0) (0+1)) zM9 ?_
 refine q62 (.d (di a0.Secondary)) O3 ?_
 refine q79 (.d (db (decide (a0.Secondary=0)))) ?_
 have ⟨b26,hb26,h⟩:=bE h
 refine sqt (.d (db b26)) rfl (fun hb=>by subst hb;exact (zC (lq rfl) rfl).bool (oi hb26)) ?_
 refine jW (x:= .ip (eElement.cells a0) (0+2)) rfl rfl rfl (lq rfl) (lq rfl) rfl (fun hb=>by obtain ⟨hb,hb1⟩:=zQ hb;obtain rfl:b22=true:=hb;obtain rfl:=gF hb1;exact wF (lq rfl) zNA rfl) ?_
 refine jW (x:= .d (di a0.Tertiary)) rfl rfl rfl (lq rfl) (lq rfl) rfl (fun hb=>by obtain ⟨hb,hb1⟩:=zQ hb;obtain rfl:b22=true:=hb;obtain rfl:=gF hb1;exact xI (lq rfl) O3 rfl rfl) ?_
 refine jW (x:= .d (db (decide (a0.Tertiary=0)))) rfl rfl rfl (lq rfl) (lq rfl) rfl (fun hb=>by obtain ⟨hb,hb1⟩:=zQ hb;obtain rfl:b22=true:=hb;obtain rfl:=gF hb1;exact zJL (lq rfl) rfl rfl) ?_
 refine yCP (.d (db (b26 ||(decide (a0.Tertiary=0))))) ?_
 refine q14 ?_
 have ⟨b32,hb32,h⟩:=bE h
 refine z9 ((zC (lq rfl) rfl).bool (oi hb32)) ?_
 refine q25 (.ip (eElement.cells a0) (0+1)) zM9 ?_
 refine q26 (.d (di a0.Secondary)) O3 ?_
 refine sqf (.d (db (!decide (a0.Secondary=0)))) rfl (fun hb=>by subst hb;exact zMX (lq rfl) rfl rfl) ?_
 have ⟨b36,hb36,h⟩:=bE h
 refine sqf (.d (db b36)) rfl (fun hb=>by subst hb;exact (zC (lq rfl) rfl).bool (oi hb36)) ?_
 refine jW (x:= .ip (eElement.cells a0) (0+2)) rfl rfl rfl (lq rfl) (lq rfl) rfl (fun hb=>by obtain ⟨hb,hb1⟩:=zQ hb;obtain rfl:=gF hb;obtain rfl:b36=true:=hb1;exact wF (lq rfl) zNA rfl) ?_
 refine jW (x:= .d (di a0.Tertiary)) rfl rfl rfl (lq rfl) (lq rfl) rfl (fun hb=>by obtain ⟨hb,hb1⟩:=zQ hb;obtain rfl:=gF hb;obtain rfl:b36=true:=hb1;exact xI (lq rfl) O3 rfl rfl) ?_
 refine jW (x:= .d (db (decide (a0.Tertiary=0)))) rfl rfl rfl (lq rfl) (lq rfl) rfl (fun hb=>by obtain ⟨hb,hb1⟩:=zQ hb;obtain rfl:=gF hb;obtain rfl:b36=true:=hb1;exact zJL (lq rfl) rfl rfl) ?_
 refine q86 (.d (db (b36&&(decide (a0.Tertiary=0))))) ?_
 refine q18 ?_
 have ⟨b42,hb42,h⟩:=bE h
 refine z9 ((zC (lq rfl) rfl).bool (oi hb42)) ?_
 refine q25 (.ip (eElement.cells a0) (0+3)) zUI ?_
 refine q26 (.d (db a0.Variable)) O4 ?_
 have ⟨b45,hb45,h⟩:=bE h
 refine sqf (.d (db b45)) rfl (fun hb=>by subst hb;exact (zC (lq rfl) rfl).bool (oi hb45)) ?_
 refine jW (x:= .ip (eElement.cells a0) (0+0)) rfl rfl rfl (lq rfl) (lq rfl) rfl (fun hb=>by obtain ⟨hb,hb1⟩:=zQ hb;obtain rfl:=gF hb;obtain rfl:b45=true:=hb1;exact wF (lq rfl) zYM rfl) ?_
 refine jW (x:= .d (di a0.Primary)) rfl rfl rfl (lq rfl) (lq rfl) rfl (fun hb=>by obtain ⟨hb,hb1⟩:=zQ hb;obtain rfl:=gF hb;obtain rfl:b45=true:=hb1;exact xI (lq rfl) O3 rfl rfl) ?_
 refine jW (x:= .d (db (decide (a0.Primary=0)))) rfl rfl rfl (lq rfl) (lq rfl) rfl (fun hb=>by obtain ⟨hb,hb1⟩:=zQ hb;obtain rfl:=gF hb;obtain rfl:b45=true:=hb1;exact zJL (lq rfl) rfl rfl) ?_
 refine q86 (.d (db (b45&&(decide (a0.Primary=0))))) ?_
 refine Q37 ?_
 refine z1 h (fun h=>?_) (fun h=>?_)
 refine Q3 ?_
 cases h
 refine zB ?_
 exact zI rfl
 refine Q58 ?_
 cases h
 refine zB ?_
 exact zI rfl
theorem zSW {a0 a1 r} (h:zFO a0 a1=some r):zG Tryz.prog 60 [(eCollation.dv a0),(di a1)] [(di r)]:=by
 refine co Tryz.func60 ?_;intro _ _ _ _
 unfold zFO at h
 refine Q84 ?_
 refine Q39 ?_
 refine Q70 ?_
 refine q0 ?_
 have ⟨t13,ht13,h⟩:=bE h
 refine q11 S29 ht13 ?_
 refine z9 (wX (en:=eEntry) (l:=a0.Entries) (i:=a1) (v:=t13) (off:=0) (lq rfl) G41 rfl ht13 rfl rfl (by decide)) ?_
 refine yF rfl (yP (zs:=[(.slice none 0 0),(.slice none 0 0)]) (lq rfl) (by kernel_rfl) rfl rfl) ?_
 refine q16 G41 ?_
 refine zK ?_
 refine zO (z2 (t:=5) (lq rfl) rfl rfl rfl) ?_
 refine Q31 ?_
 refine q5 zG1 ?_
 refine q6 O33 ?_
 refine q4 yD ?_
 refine q3 ?_
 have ⟨b19,hb19,h⟩:=bE h
 refine z9 ((zC (lq rfl) rfl).bool (oi hb19)) ?_
 refine q25 (.ip (eEntry.cells t13) (0+0)) zG1 ?_
 refine q26 (.d (zS eI t13.Codes)) O33 ?_
 refine q64 (.d (di (t13.Codes.length:Int))) yD ?_
 refine q43 (.d (db (decide (8 < (t13.Codes.length:Int))))) ?_
 refine q18 ?_
 have ⟨b25,hb25,h⟩:=bE h
 refine z9 ((zC (lq rfl) rfl).bool (oi hb25)) ?_
 refine q25 (.ip (eEntry.cells t13) (0+1)) zKU ?_
 refine q26 (.d (zS eElement t13.Elements)) O39 ?_
 refine q64 (.d (di (t13.Elements.length:Int))) S39 ?_
 refine q43 (.d (db (decide (16 < (t13.Elements.length:Int))))) ?_
 refine Q37 ?_
 refine z1 h (fun h=>?_) (fun h=>?_)
 refine Q3 ?_
 cases h
 refine zB ?_
 exact zI rfl
 refine Q93 ?_
 have ⟨y1,hy1,h⟩:=bE h
 refine zR y1 (.exit 0) (fun y1=>⟨[(1,.d (di a1)),(2,.d (.pt (eCollation.cells a0))),(5,.d (.pt (eEntry.cells t13)))],[]⟩) .ret (fun y1=>⟨[(4,.d (di y1))],[]⟩) ?_ ?_ ?_
 refine zD (fun x=>⟨[(1,.d (di a1)),(2,.d (.pt (eCollation.cells a0))),(5,.d (.pt (eEntry.cells t13))),(6,.d (di x))],[]⟩) hy1 (wc) ?_
 rintro v6 sy1 p1
 replace p1:zD9 t13 v6=some sy1:=p1
 unfold zD9 at p1
 refine Q4 ?_
 refine q5 zG1 ?_
 refine q6 O33 ?_
 refine Q83 ?_
 refine z1 p1 (fun p1=>?_) (fun p1=>?_)
 refine Q29 ?_
 refine q5 zG1 ?_
 refine q6 O33 ?_
 refine q0 ?_
 have ⟨t41,ht41,p1⟩:=bE p1
 refine q11 yD ht41 ?_
 refine q35 O3 ht41 ?_
 have ⟨t43,ht43,p1⟩:=bE p1
 refine q8 (wV ht43) ?_
 refine Q42 ?_
 refine z1 p1 (fun p1=>?_) (fun p1=>?_)
 refine Q17 ?_
 cases p1
 intro q;cases q
 exact ⟨rfl,wc⟩
 refine Q28 ?_
 cases p1
 exact wc
 refine zF ?_
 cases p1
 intro q;cases q
 exact ⟨rfl,wc⟩
 rintro y1 rfl
 replace h:=eL h
 refine Q32 ?_
 have ⟨y2,hy2,h⟩:=bE h
 refine zR y2 (.exit 2) (fun y2=>⟨[(1,.d (di a1)),(2,.d (.pt (eCollation.cells a0))),(5,.d (.pt (eEntry.cells t13)))],[]⟩) .ret (fun y2=>⟨[(4,.d (di y2))],[]⟩) ?_ ?_ ?_
 refine zD (fun x=>⟨[(1,.d (di a1)),(2,.d (.pt (eCollation.cells a0))),(5,.d (.pt (eEntry.cells t13))),(7,.d (di x))],[]⟩) hy2 (wc) ?_
 rintro v7 sy2 p2
 replace p2:zBL t13 v7=some sy2:=p2
 unfold zBL at p2
 refine Q4 ?_
 refine q5 zKU ?_
 refine q6 O39 ?_
 refine q4 S39 ?_
 refine Q6 ?_
 refine z1 p2 (fun p2=>?_) (fun p2=>?_)
 refine Q29 ?_
 refine q5 zKU ?_
 refine q6 O39 ?_
 refine q0 ?_
 have ⟨t55,ht55,p2⟩:=bE p2
 refine q11 S39 ht55 ?_
 refine z8S G64 ht55 ?_
 have ⟨t57,ht57,p2⟩:=bE p2
 refine q8 (zSV ht57) ?_
 refine Q62 ?_
 refine z1 p2 (fun p2=>?_) (fun p2=>?_)
 refine Q35 ?_
 refine zB ?_
 cases p2
 intro q;cases q
 exact ⟨rfl,wc⟩
 refine Q28 ?_
 cases p2
 exact wc
 refine zF ?_
 cases p2
 intro q;cases q
 exact ⟨rfl,wc⟩
 rintro y2 rfl
 replace h:=eL h
 refine Q32 ?_
 have ⟨y3,hy3,h⟩:=bE h
 refine zR y3 (.exit 4) (fun y3=>⟨[(1,.d (di a1)),(2,.d (.pt (eCollation.cells a0))),(5,.d (.pt (eEntry.cells t13)))],[]⟩) .ret (fun y3=>⟨[(4,.d (di y3))],[]⟩) ?_ ?_ ?_
 refine zD (fun x=>⟨[(1,.d (di a1)),(2,.d (.pt (eCollation.cells a0))),(5,.d (.pt (eEntry.cells t13))),(9,.d (di x))],[]⟩) hy3 (wc) ?_
 rintro v9 sy3 p3
 replace p3:zEA t13 a0 v9=some sy3:=p3
 unfold zEA at p3
 refine Q4 ?_
 refine q5 zKU ?_
 refine q6 O39 ?_
 refine q4 S39 ?_
 refine Q6 ?_
 refine z1 p3 (fun p3=>?_) (fun p3=>?_)
 refine Q65 ?_
 refine z3 MX rfl ?_
 refine q19 zKU ?_
 refine q33 O39 ?_
 refine q7 ?_
 have ⟨t71,ht71,p3⟩:=bE p3
 refine q23 S39 ht71 ?_
 refine q52 zYM ?_
 refine vO (zZ (en:=eElement) (l:=t13.Elements) (i:=v9) (v:=t71) (off:=0) (lq rfl) O3 rfl ht71 rfl) ?_
 refine q19 zLZ ?_
 refine q33 O3 ?_
 refine vO (zKC (lq rfl) rfl rfl) ?_
 refine xZ ?_
 refine z1 p3 (fun p3=>?_) (fun p3=>?_)
 refine Q17 ?_
 cases p3
 intro q;cases q
 exact ⟨rfl,wc⟩
 refine Q28 ?_
 cases p3
 exact wc
 refine zF ?_
 cases p3
 intro q;cases q
 exact ⟨rfl,wc⟩
 rintro y3 rfl
 replace h:=eL h
 refine kF<|kF ?_
 refine z3 MX rfl ?_
 refine q7 ?_
 refine z02 ?_
 have ⟨b79,hb79,h⟩:=bE h
 refine vO ((zC (lq rfl) rfl).bool (oi hb79)) ?_
 refine q97 (.ip (eCollation.cells a0) (0+0)) zYI ?_
 refine q98 (.d (zS eEntry a0.Entries)) O29 ?_
 refine q59 (.d (di a1)) ?_
 refine z5F (.d (di (wi (a1 - 1)))) ?_
 have ⟨t84,ht84,h⟩:=bE h
 refine dat (.ip (eEntry.all a0.Entries) ((wi (a1 - 1)).toNat*eEntry.size)) rfl (fun hb=>by subst hb;exact kN (en:=eEntry) (lq rfl) S29 rfl rfl ht84) ?_
 refine q99 (.ip (eEntry.all a0.Entries) ((wi (a1 - 1)).toNat*eEntry.size+0)) zG1 ?_
 refine dat (.d (zS eI t84.Codes)) rfl (fun hb=>by subst hb;exact zZ (en:=eEntry) (l:=a0.Entries) (i:=(wi (a1 - 1))) (v:=t84) (off:=0) (lq rfl) O33 rfl ht84 rfl) ?_
 refine q97 (.ip (eEntry.cells t13) (0+0)) zG1 ?_
 refine q98 (.d (zS eI t13.Codes)) O33 ?_
 have ⟨t89,ht89,h⟩:=bE h
 refine dat (.d (di t89)) rfl (fun hb=>by subst hb;exact wD (lq rfl) rfl (zJV ht89)) ?_
 refine dat (.d (db (decide (0≤t89)))) rfl (fun hb=>by subst hb;exact zKC (lq rfl) rfl rfl) ?_
 refine Q98 ?_
 refine z1 h (fun h=>?_) (fun h=>?_)
 refine Q3 ?_
 cases h
 refine zB ?_
 exact zI rfl
 refine Q58 ?_
 cases h
 refine zB ?_
 exact zI rfl
 rintro y3 rfl
 replace h:=eR h
 cases h
 exact zI rfl
 rintro y2 rfl
 replace h:=eR h
 cases h
 exact zI rfl
 rintro y1 rfl
 replace h:=eR h
 cases h
 exact zI rfl
theorem zSX {a0 r} (h:zFP a0=some r):zG Tryz.prog 26 [(eCollation.dv a0)] [(di r)]:=by
 refine co Tryz.func26 ?_;intro _ _ _ _
 unfold zFP at h
 refine Q84 ?_
 refine Q53 ?_
 refine q5 zLZ ?_
 refine z1E ?_
 have ⟨b9,hb9,h⟩:=bE h
 refine z9 ((zC (lq rfl) rfl).bool (oi hb9)) ?_
 refine q25 (.ip (eCollation.cells a0) (0+2)) zLZ ?_
 refine q26 (.d (di a0.Base)) O3 ?_
 refine q43 (.d (db (decide (65502 < a0.Base)))) ?_
 refine q18 ?_
 have ⟨b14,hb14,h⟩:=bE h
 refine z9 ((zC (lq rfl) rfl).bool (oi hb14)) ?_
 refine q25 (.ip (eCollation.cells a0) (0+3)) z2U ?_
 refine q26 (.d (di a0.Second)) O3 ?_
 have ⟨t17,ht17,h⟩:=bE h
 refine sqf (.d (db t17)) rfl (fun hb=>by subst hb;exact wD (lq rfl) rfl (zKW ht17)) ?_
 refine z03 (.d (db (!t17))) ?_
 refine q18 ?_
 have ⟨b20,hb20,h⟩:=bE h
 refine z9 ((zC (lq rfl) rfl).bool (oi hb20)) ?_
 refine q25 (.ip (eCollation.cells a0) (0+4)) z2V ?_
 refine q26 (.d (di a0.Third)) O3 ?_
 have ⟨t23,ht23,h⟩:=bE h
 refine sqf (.d (db t23)) rfl (fun hb=>by subst hb;exact wD (lq rfl) rfl (zKW ht23)) ?_
 refine z03 (.d (db (!t23))) ?_
 refine Q37 ?_
 refine z1 h (fun h=>?_) (fun h=>?_)
 refine Q3 ?_
 cases h
 refine zB ?_
 exact zI rfl
 refine Q71 ?_
 refine q21 G32 ?_
 have ⟨t27,ht27,h⟩:=bE h
 refine q8 (zRO ht27) ?_
 refine Q62 ?_
 refine z1 h (fun h=>?_) (fun h=>?_)
 refine Q35 ?_
 cases h
 refine zB ?_
 exact zI rfl
 refine Q93 ?_
 have ⟨y1,hy1,h⟩:=bE h
 refine zR y1 (.exit 0) (fun y1=>⟨[],[]⟩) .ret (fun y1=>⟨[(2,.d (di y1))],[]⟩) ?_ ?_ ?_
 refine zD (fun x=>⟨[(1,.d (.pt (eCollation.cells a0))),(4,.d (di x))],[]⟩) hy1 (wc) ?_
 rintro v4 sy1 p1
 replace p1:zBM a0 v4=some sy1:=p1
 unfold zBM at p1
 refine Q4 ?_
 refine z88 ?_
 refine Q6 ?_
 refine z1 p1 (fun p1=>?_) (fun p1=>?_)
 refine Q29 ?_
 refine q21 G32 ?_
 refine q0 ?_
 have ⟨t40,ht40,p1⟩:=bE p1
 refine q8 (zSW ht40) ?_
 refine Q62 ?_
 refine z1 p1 (fun p1=>?_) (fun p1=>?_)
 refine Q35 ?_
 refine zB ?_
 cases p1
 intro q;cases q
 exact ⟨rfl,wc⟩
 refine Q28 ?_
 cases p1
 exact wc
 refine zF ?_
 cases p1
 intro q;cases q
 exact ⟨rfl,wc⟩
 rintro y1 rfl
 replace h:=eL h
 refine Q3 ?_
 cases h
 refine zB ?_
 exact zI rfl
 rintro y1 rfl
 replace h:=eR h
 cases h
 exact zI rfl
theorem zT {a0 r} (h:zEV a0=some r):zG Tryz.prog 8 [(eCollation.dv a0)] [(eCollation.dv r)]:=by
 refine co Tryz.func8 ?_;intro _ _ _ _
 unfold zEV at h
 refine Q84 ?_
 refine yIS ?_
 refine zVT ?_
 refine q21 G32 ?_
 have ⟨t4,ht4,h⟩:=bE h
 refine q8 (zSX ht4) ?_
 refine Q33 ?_
 refine z1 h (fun h=>?_) (fun h=>?_)
 refine Q0 ?_
 refine z9 ((zDR (lq rfl) B32 rfl rfl).nils (bs:=eCollation.cells ({Entries:=[],Groups:=[],Base:=64448,Second:=32,Third:=2}:Collation)) (nlN (nlN (nlE (nlE (nlE nl0)))))) ?_
 refine q16 G32 ?_
 refine zK ?_
 cases h
 refine zB ?_
 exact xJ rfl rfl G32 rfl
 refine Q50 ?_
 refine q21 G32 ?_
 refine q16 G32 ?_
 refine zK ?_
 cases h
 refine zB ?_
 exact xJ rfl rfl G32 rfl
theorem zG6 {a0 r} (h:uH a0=some r):zG Tryz.prog 28 [(eNorm.dv a0)] [(eNorm.dv r)]:=by
 refine co Tryz.func28 ?_;intro _ _ _ _
 unfold uH at h
 refine Q40 ?_
 refine yGJ ?_
 refine zVT ?_
 refine q21 G28 ?_
 have ⟨t4,ht4,h⟩:=bE h
 refine q8 (zHX ht4) ?_
 refine Q33 ?_
 refine z1 h (fun h=>?_) (fun h=>?_)
 refine Q0 ?_
 refine z9 ((zDR (lq rfl) B28 rfl rfl).nils (bs:=eNorm.cells ({Classes:=[],Decomp:=[],Excluded:=(({Ranges:=[]}):Set)}:Norm)) (nlN (nlN (nlN nl0)))) ?_
 refine q16 G28 ?_
 refine zK ?_
 cases h
 refine zB ?_
 exact xJ rfl rfl G28 rfl
 refine Q50 ?_
 refine q21 G28 ?_
 refine q16 G28 ?_
 refine zK ?_
 cases h
 refine zB ?_
 exact xJ rfl rfl G28 rfl
end Go.Proofs.YtjcbhabmkcdcnaaGreatDoor.Walk


/- Each function of the program answers as its plain counterpart does, where that answers. Conditions: none. -/
import Derived.Test.YtjcbhabmkcdcnaaGreatDoorMir
import Derived.Test.YtjcbhabmkcdcnaaGreatDoorLa3
import Derived.Test.YtjcbhabmkcdcnaaGreatDoorProg
set_option linter.unusedSimpArgs false
set_option linter.unusedVariables false
set_option linter.unnecessarySimpa false
namespace Go.Proofs.YtjcbhabmkcdcnaaGreatDoor.Walk
open Go.AV Go.M Go.RowKit Go.Proofs
theorem z73:ArTy Tryz.prog 110 9 1 3 [(.int IntKind.i64 (0)),(.int IntKind.i64 (0)),(.int IntKind.i64 (0)),(.int IntKind.i64 (0)),(.int IntKind.i64 (0)),(.int IntKind.i64 (0)),(.int IntKind.i64 (0)),(.int IntKind.i64 (0)),(.int IntKind.i64 (0))]:=ArTy.of Tryz.underlying110 (by kernel_rfl) (by decide) (by kernel_rfl) rfl
theorem zL4:ArTy Tryz.prog 157 3 1 3 [(.int IntKind.i64 (0)),(.int IntKind.i64 (0)),(.int IntKind.i64 (0))]:=ArTy.of Tryz.underlying157 (by kernel_rfl) (by decide) (by kernel_rfl) rfl
theorem yF3:ArTy Tryz.prog 159 4 2 143 [(.int IntKind.i64 (0)),(.int IntKind.i64 (0)),(.int IntKind.i64 (0)),(.int IntKind.i64 (0)),(.int IntKind.i64 (0)),(.int IntKind.i64 (0)),(.int IntKind.i64 (0)),(.int IntKind.i64 (0))]:=ArTy.of Tryz.underlying159 (by kernel_rfl) (by decide) (by kernel_rfl) rfl
theorem yF4:StTy Tryz.prog 108 [(0,5),(5,1),(6,1),(7,1),(8,1)] [(.slice none 0 0),(.slice none 0 0),(.int IntKind.i64 (0)),(.int IntKind.i64 (0)),(.int IntKind.i64 (0)),(.map none),(.int IntKind.i64 (0)),(.slice none 0 0),(.int IntKind.i64 (0))]:=fx Tryz.underlying108
theorem zU5:StTy Tryz.prog 143 [(0,1),(1,1)] [(.int IntKind.i64 (0)),(.int IntKind.i64 (0))]:=fx Tryz.underlying143
theorem yF5:StTy Tryz.prog 163 [(0,1),(1,1)] [(.int IntKind.i64 (0)),(.string ⟨#[]⟩)]:=fx Tryz.underlying163
theorem B26:StTy Tryz.prog 26 [(0,1)] [(.slice none 0 0)]:=fx Tryz.underlying26
theorem B28:StTy Tryz.prog 28 [(0,1),(1,1),(2,1)] [(.slice none 0 0),(.slice none 0 0),(.slice none 0 0)]:=fx Tryz.underlying28
theorem B32:StTy Tryz.prog 32 [(0,1),(1,1),(2,1),(3,1),(4,1)] [(.slice none 0 0),(.slice none 0 0),(.int IntKind.i64 (0)),(.int IntKind.i64 (0)),(.int IntKind.i64 (0))]:=fx Tryz.underlying32
theorem B41:StTy Tryz.prog 41 [(0,1),(1,1)] [(.slice none 0 0),(.slice none 0 0)]:=fx Tryz.underlying41
theorem B62:StTy Tryz.prog 62 [(0,1),(1,1),(2,1)] [(.int IntKind.i64 (0)),(.int IntKind.i64 (0)),(.int IntKind.i64 (0))]:=fx Tryz.underlying62
theorem B64:StTy Tryz.prog 64 [(0,1),(1,1),(2,1),(3,1)] [(.int IntKind.i64 (0)),(.int IntKind.i64 (0)),(.int IntKind.i64 (0)),(.bool false)]:=fx Tryz.underlying64
theorem zIJ:AggTy Tryz.prog 101 3:=fx Tryz.underlying101
theorem z74:AggTy Tryz.prog 110 9:=fx Tryz.underlying110
theorem zU6:AggTy Tryz.prog 117 3:=fx Tryz.underlying117
theorem zA5:AggTy Tryz.prog 143 2:=fx Tryz.underlying143
theorem zU7:AggTy Tryz.prog 157 3:=fx Tryz.underlying157
theorem yF9:AggTy Tryz.prog 159 8:=fx Tryz.underlying159
theorem yD8:AggTy Tryz.prog 163 2:=fx Tryz.underlying163
theorem G26:AggTy Tryz.prog 26 1:=fx Tryz.underlying26
theorem G28:AggTy Tryz.prog 28 3:=fx Tryz.underlying28
theorem G32:AggTy Tryz.prog 32 5:=fx Tryz.underlying32
theorem G35:AggTy Tryz.prog 35 9:=fx Tryz.underlying35
theorem G41:AggTy Tryz.prog 41 2:=fx Tryz.underlying41
theorem G62:AggTy Tryz.prog 62 3:=fx Tryz.underlying62
theorem G64:AggTy Tryz.prog 64 4:=fx Tryz.underlying64
theorem K3:KeyTy Tryz.prog 3 kI:=yBL Tryz.underlying3
theorem K9:KeyTy Tryz.prog 9 kS:=yBM Tryz.underlying9
theorem zDJ:FldTy Tryz.prog 101 0 0 1 3:=fx Tryz.underlying101
theorem zBZ:FldTy Tryz.prog 101 1 1 1 33:=fx Tryz.underlying101
theorem zAX:FldTy Tryz.prog 101 2 2 1 9:=fx Tryz.underlying101
theorem zXO:FldTy Tryz.prog 108 0 0 5 32:=fx Tryz.underlying108
theorem z4N:FldTy Tryz.prog 108 1 5 1 106:=fx Tryz.underlying108
theorem zSG:FldTy Tryz.prog 108 2 6 1 3:=fx Tryz.underlying108
theorem zJ0:FldTy Tryz.prog 108 3 7 1 22:=fx Tryz.underlying108
theorem zXP:FldTy Tryz.prog 108 4 8 1 3:=fx Tryz.underlying108
theorem zL5:FldTy Tryz.prog 117 0 0 1 9:=fx Tryz.underlying117
theorem zL6:FldTy Tryz.prog 117 1 1 1 3:=fx Tryz.underlying117
theorem zL7:FldTy Tryz.prog 117 2 2 1 3:=fx Tryz.underlying117
theorem zGK:FldTy Tryz.prog 143 0 0 1 3:=fx Tryz.underlying143
theorem zC3:FldTy Tryz.prog 143 1 1 1 3:=fx Tryz.underlying143
theorem zGT:FldTy Tryz.prog 26 0 0 1 24:=fx Tryz.underlying26
theorem zMX:FldTy Tryz.prog 28 0 0 1 22:=fx Tryz.underlying28
theorem zU8:FldTy Tryz.prog 28 1 1 1 23:=fx Tryz.underlying28
theorem z4O:FldTy Tryz.prog 28 2 2 1 26:=fx Tryz.underlying28
theorem zU9:FldTy Tryz.prog 32 0 0 1 29:=fx Tryz.underlying32
theorem z4P:FldTy Tryz.prog 32 1 1 1 30:=fx Tryz.underlying32
theorem zK3:FldTy Tryz.prog 32 2 2 1 3:=fx Tryz.underlying32
theorem z4Q:FldTy Tryz.prog 32 3 3 1 3:=fx Tryz.underlying32
theorem z4R:FldTy Tryz.prog 32 4 4 1 3:=fx Tryz.underlying32
theorem zRJ:FldTy Tryz.prog 35 0 0 3 28:=fx Tryz.underlying35
theorem zVA:FldTy Tryz.prog 35 1 3 5 32:=fx Tryz.underlying35
theorem z4S:FldTy Tryz.prog 35 2 8 1 33:=fx Tryz.underlying35
theorem zFP:FldTy Tryz.prog 41 0 0 1 33:=fx Tryz.underlying41
theorem zJO:FldTy Tryz.prog 41 1 1 1 39:=fx Tryz.underlying41
theorem zGU:FldTy Tryz.prog 62 0 0 1 3:=fx Tryz.underlying62
theorem zGV:FldTy Tryz.prog 62 1 1 1 3:=fx Tryz.underlying62
theorem zHP:FldTy Tryz.prog 62 2 2 1 3:=fx Tryz.underlying62
theorem zY4:FldTy Tryz.prog 64 0 0 1 3:=fx Tryz.underlying64
theorem zRK:FldTy Tryz.prog 64 1 1 1 3:=fx Tryz.underlying64
theorem zRL:FldTy Tryz.prog 64 2 2 1 3:=fx Tryz.underlying64
theorem yAB:FldTy Tryz.prog 64 3 3 1 4:=fx Tryz.underlying64
theorem yD9:MapTy Tryz.prog 106 110 39 (.slice none 0 0):=MapTy.of Tryz.underlying106 (by kernel_rfl)
theorem yEA:MapTy Tryz.prog 132 9 4 (.bool false):=MapTy.of Tryz.underlying132 (by kernel_rfl)
theorem yEB:MapTy Tryz.prog 161 163 4 (.bool false):=MapTy.of Tryz.underlying161 (by kernel_rfl)
theorem yBW:MapTy Tryz.prog 166 3 3 (.int IntKind.i64 (0)):=MapTy.of Tryz.underlying166 (by kernel_rfl)
theorem M94:MapTy Tryz.prog 94 3 33 (.slice none 0 0):=MapTy.of Tryz.underlying94 (by kernel_rfl)
theorem yBX:OneTy Tryz.prog 102:=fx Tryz.underlying102
theorem yEC:OneTy Tryz.prog 106:=fx Tryz.underlying106
theorem z75:OneTy Tryz.prog 166:=fx Tryz.underlying166
theorem O22:OneTy Tryz.prog 22:=fx Tryz.underlying22
theorem O23:OneTy Tryz.prog 23:=fx Tryz.underlying23
theorem O24:OneTy Tryz.prog 24:=fx Tryz.underlying24
theorem O29:OneTy Tryz.prog 29:=fx Tryz.underlying29
theorem O3:OneTy Tryz.prog 3:=fx Tryz.underlying3
theorem O30:OneTy Tryz.prog 30:=fx Tryz.underlying30
theorem O33:OneTy Tryz.prog 33:=fx Tryz.underlying33
theorem O39:OneTy Tryz.prog 39:=fx Tryz.underlying39
theorem O4:OneTy Tryz.prog 4:=fx Tryz.underlying4
theorem O69:OneTy Tryz.prog 69:=fx Tryz.underlying69
theorem O73:OneTy Tryz.prog 73:=fx Tryz.underlying73
theorem O9:OneTy Tryz.prog 9:=fx Tryz.underlying9
theorem O94:OneTy Tryz.prog 94:=fx Tryz.underlying94
theorem z76:SlTy Tryz.prog 103 4 1 1 (.bool false):=fx Tryz.underlying103
theorem S22:SlTy Tryz.prog 22 62 3 24 (.agg #[(.int IntKind.i64 (0)),(.int IntKind.i64 (0)),(.int IntKind.i64 (0))]):=fx Tryz.underlying22
theorem S23:SlTy Tryz.prog 23 101 3 48 (.agg #[(.int IntKind.i64 (0)),(.slice none 0 0),(.string ⟨#[]⟩)]):=fx Tryz.underlying23
theorem S24:SlTy Tryz.prog 24 143 2 16 (.agg #[(.int IntKind.i64 (0)),(.int IntKind.i64 (0))]):=fx Tryz.underlying24
theorem S29:SlTy Tryz.prog 29 41 2 48 (.agg #[(.slice none 0 0),(.slice none 0 0)]):=fx Tryz.underlying29
theorem S30:SlTy Tryz.prog 30 117 3 32 (.agg #[(.string ⟨#[]⟩),(.int IntKind.i64 (0)),(.int IntKind.i64 (0))]):=fx Tryz.underlying30
theorem yU:SlTy Tryz.prog 33 3 1 8 (.int IntKind.i64 (0)):=fx Tryz.underlying33
theorem S39:SlTy Tryz.prog 39 64 4 32 (.agg #[(.int IntKind.i64 (0)),(.int IntKind.i64 (0)),(.int IntKind.i64 (0)),(.bool false)]):=fx Tryz.underlying39
theorem Z0:zAS Tryz.prog 0=some [.int .i64 4352,.int .i64 4370,.int .i64 4449,.int .i64 4469,.int .i64 4520,.int .i64 4546,.int .i64 44032,.int .i64 55203]:=by kernel_rfl
theorem yGD:EqTy Tryz.prog 110 eA9Int:=EqTy.ofA (vals:=fun (x:A9Int)=>[.int IntKind.i64 x.x0,.int IntKind.i64 x.x1,.int IntKind.i64 x.x2,.int IntKind.i64 x.x3,.int IntKind.i64 x.x4,.int IntKind.i64 x.x5,.int IntKind.i64 x.x6,.int IntKind.i64 x.x7,.int IntKind.i64 x.x8]) (cs:=fun (a b:A9Int)=>[decide (a.x0=b.x0),decide (a.x1=b.x1),decide (a.x2=b.x2),decide (a.x3=b.x3),decide (a.x4=b.x4),decide (a.x5=b.x5),decide (a.x6=b.x6),decide (a.x7=b.x7),decide (a.x8=b.x8)]) z73 O3 (by kernel_rfl) (fun _=>rfl) (fun a b w=>(Pw.cons ⟨_,_,rfl,rfl,Go.AV.run_equalIn_int Tryz.underlying3 _ _ _ _⟩ (Pw.cons ⟨_,_,rfl,rfl,Go.AV.run_equalIn_int Tryz.underlying3 _ _ _ _⟩ (Pw.cons ⟨_,_,rfl,rfl,Go.AV.run_equalIn_int Tryz.underlying3 _ _ _ _⟩ (Pw.cons ⟨_,_,rfl,rfl,Go.AV.run_equalIn_int Tryz.underlying3 _ _ _ _⟩ (Pw.cons ⟨_,_,rfl,rfl,Go.AV.run_equalIn_int Tryz.underlying3 _ _ _ _⟩ (Pw.cons ⟨_,_,rfl,rfl,Go.AV.run_equalIn_int Tryz.underlying3 _ _ _ _⟩ (Pw.cons ⟨_,_,rfl,rfl,Go.AV.run_equalIn_int Tryz.underlying3 _ _ _ _⟩ (Pw.cons ⟨_,_,rfl,rfl,Go.AV.run_equalIn_int Tryz.underlying3 _ _ _ _⟩ (Pw.cons ⟨_,_,rfl,rfl,Go.AV.run_equalIn_int Tryz.underlying3 _ _ _ _⟩ Pw.nil)))))))))) (fun a b=>by cases a;cases b;simp)
set_option maxRecDepth 10000 in
theorem yEG:EqTy Tryz.prog 143 eRange:=EqTy.of (vals:=fun (x:Range)=>[.int IntKind.i64 x.Lo,.int IntKind.i64 x.Hi]) (cs:=fun (a b:Range)=>[decide (a.Lo=b.Lo),decide (a.Hi=b.Hi)]) Tryz.underlying143 (by kernel_rfl) (by kernel_rfl) (fun _=>rfl) (fun a b w=>(zIY (d:=9998) rfl O3 (zIY (d:=9998) rfl O3 zR9 Tryz.underlying3 rfl rfl) Tryz.underlying3 rfl rfl)) (fun a b=>by cases a;cases b;simp)
theorem yGE:EqTy Tryz.prog 157 eA3Int:=EqTy.ofA (vals:=fun (x:A3Int)=>[.int IntKind.i64 x.x0,.int IntKind.i64 x.x1,.int IntKind.i64 x.x2]) (cs:=fun (a b:A3Int)=>[decide (a.x0=b.x0),decide (a.x1=b.x1),decide (a.x2=b.x2)]) zL4 O3 (by kernel_rfl) (fun _=>rfl) (fun a b w=>(Pw.cons ⟨_,_,rfl,rfl,Go.AV.run_equalIn_int Tryz.underlying3 _ _ _ _⟩ (Pw.cons ⟨_,_,rfl,rfl,Go.AV.run_equalIn_int Tryz.underlying3 _ _ _ _⟩ (Pw.cons ⟨_,_,rfl,rfl,Go.AV.run_equalIn_int Tryz.underlying3 _ _ _ _⟩ Pw.nil)))) (fun a b=>by cases a;cases b;simp)
set_option maxRecDepth 10000 in
theorem yGF:EqTy Tryz.prog 163 eMapping_key:=EqTy.of (vals:=fun (x:Mapping_key)=>[.int IntKind.i64 x.from_,.string ⟨x.tag.toArray⟩]) (cs:=fun (a b:Mapping_key)=>[decide (a.from_=b.from_),decide (a.tag=b.tag)]) Tryz.underlying163 (by kernel_rfl) (by kernel_rfl) (fun _=>rfl) (fun a b w=>(zIY (d:=9998) rfl O3 (z7Q (d:=9998) rfl O9 zR9 Tryz.underlying9 rfl rfl) Tryz.underlying3 rfl rfl)) (fun a b=>by cases a;cases b;simp)
set_option maxRecDepth 10000 in
theorem E64:EqTy Tryz.prog 64 eElement:=EqTy.of (vals:=fun (x:Element)=>[.int IntKind.i64 x.Primary,.int IntKind.i64 x.Secondary,.int IntKind.i64 x.Tertiary,.bool x.Variable]) (cs:=fun (a b:Element)=>[decide (a.Primary=b.Primary),decide (a.Secondary=b.Secondary),decide (a.Tertiary=b.Tertiary),decide (a.Variable=b.Variable)]) Tryz.underlying64 (by kernel_rfl) (by kernel_rfl) (fun _=>rfl) (fun a b w=>(zIY (d:=9998) rfl O3 (zIY (d:=9998) rfl O3 (zIY (d:=9998) rfl O3 (z32 (d:=9998) rfl O4 zR9 Tryz.underlying4 rfl rfl) Tryz.underlying3 rfl rfl) Tryz.underlying3 rfl rfl) Tryz.underlying3 rfl rfl)) (fun a b=>by cases a;cases b;simp)
theorem yEH:KeyTy Tryz.prog 110 zDD:=z36 (vals:=fun (x:A9Int)=>[.int IntKind.i64 x.x0,.int IntKind.i64 x.x1,.int IntKind.i64 x.x2,.int IntKind.i64 x.x3,.int IntKind.i64 x.x4,.int IntKind.i64 x.x5,.int IntKind.i64 x.x6,.int IntKind.i64 x.x7,.int IntKind.i64 x.x8]) Tryz.underlying110 yGD (fun _=>rfl) (fun _=>rfl) (fun _=>rfl) (fun _=>by simp [Instr.sameBits,zOJ]) (fun a b w=>z1C z73 O3 Tryz.underlying3 rfl rfl b w)
theorem yEI:KeyTy Tryz.prog 163 zEX:=z36 (vals:=fun (x:Mapping_key)=>[.int IntKind.i64 x.from_,.string ⟨x.tag.toArray⟩]) Tryz.underlying163 yGF (fun _=>rfl) (fun _=>rfl) (fun _=>rfl) (fun _=>by simp [Instr.sameBits,zOJ]) (fun a b w=>zXH Tryz.underlying163 (List.forall_mem_cons.2 ⟨⟨O3,⟨_,Tryz.underlying3,rfl⟩,lq rfl⟩,(List.forall_mem_cons.2 ⟨⟨O9,⟨_,Tryz.underlying9,rfl⟩,lq rfl⟩,(fun _ h=>by cases h)⟩)⟩) b w)
theorem MX:Tryz.prog.follows .mixedOrders=true:=by kernel_rfl
section
variable {P:Program} {r:Option Nat} {E:Env} {S S':AState} {ops:Array Oper} {o:Oper} {rest:List Oper} {J:AState→Prop} {d j t:Nat} {x:AV} {b:Bool} {G H I:Prop}
theorem q0 (k:H) (h:H→G:=by exact fun k=>yH (zC (lq rfl) rfl) k):G:=h k
theorem q1 (k:H) (h:H→G:=by exact fun k=>yH (zJU (lq rfl) rfl) k):G:=h k
theorem q2 (k:H) (h:H→G:=by exact fun k=>yH (zQ6 (lq rfl) rfl rfl) k):G:=h k
theorem q3 (k:H) (h:H→G:=by exact fun k=>yH (zKJ (lq rfl) rfl rfl) k):G:=h k
theorem q4 {F0:Prop} (f0:F0) (k:H) (h:F0→H→G:=by exact fun f0 k=>yH (zQ7 (lq rfl) f0 rfl) k):G:=h f0 k
theorem q5 {F0:Prop} (f0:F0) (k:H) (h:F0→H→G:=by exact fun f0 k=>yH (xM (lq rfl) f0 rfl) k):G:=h f0 k
theorem q6 {F0:Prop} (f0:F0) (k:H) (h:F0→H→G:=by exact fun f0 k=>yH (kD (lq rfl) f0 rfl rfl) k):G:=h f0 k
theorem q7 (k:H) (h:H→G:=by exact fun k=>vB (zC (lq rfl) rfl) k):G:=h k
theorem q8 {F0:Prop} (f0:F0) (k:H) (h:F0→H→G:=by exact fun f0 k=>yH (xV (lq rfl) rfl f0) k):G:=h f0 k
theorem q9 {F0:Prop} (f0:F0) (k:H) (h:F0→H→G:=by exact fun f0 k=>xd rfl (zKU f0 rfl rfl rfl rfl rfl rfl) k):G:=h f0 k
theorem q10 (k:H) (h:H→G:=by exact fun k=>yH (zG6 (lq rfl) rfl) k):G:=h k
theorem q11 {F0:Prop} (f0:F0) {F1:Prop} (f1:F1) (k:H) (h:F0→F1→H→G:=by exact fun f0 f1 k=>yH (kM (lq rfl) f0 rfl rfl f1) k):G:=h f0 f1 k
theorem q12 (k:H) (h:H→G:=by exact fun k=>xc rfl (zJU (lq rfl) rfl) k):G:=h k
theorem q13 (x:AV) (k:Sq P r E ops rest (S.put d (.cond (gd true b) x)) J) (ha:GdO o ops S E j t d b true:=by exact rfl) (h:b=true→AOp P r E S o d x:=by exact fun hb=>by subst hb;exact zC (lq rfl) rfl):Sq P r E ops (o::rest) S J:=sqt x ha h k
theorem q14 (k:H) (h:H→G:=by exact fun k=>yH (zDB (lq rfl) rfl rfl) k):G:=h k
theorem q15 (k:H) (h:H→G:=by exact fun k=>yH (zEP (lq rfl) rfl) k):G:=h k
theorem q16 {F0:Prop} (f0:F0) (k:H) (h:F0→H→G:=by exact fun f0 k=>kP rfl (zKU f0 rfl rfl rfl rfl rfl rfl) k):G:=h f0 k
theorem q17 {F0:Prop} (f0:F0) {F1:Prop} (f1:F1) (k:H) (h:F0→F1→H→G:=by exact fun f0 f1 k=>xc rfl (zDY (lq rfl) f0 rfl rfl rfl f1) k):G:=h f0 f1 k
theorem q18 (k:H) (h:H→G:=by exact fun k=>yH (zLW (lq rfl) rfl rfl) k):G:=h k
theorem q19 {F0:Prop} (f0:F0) (k:H) (h:F0→H→G:=by exact fun f0 k=>vB (xM (lq rfl) f0 rfl) k):G:=h f0 k
theorem q20 {F0:Prop} (f0:F0) {F1:Prop} (f1:F1) {F2:Prop} (f2:F2) (k:H) (h:F0→F1→F2→H→G:=by exact fun f0 f1 f2 k=>xd rfl (zUZ f0 rfl rfl rfl f1 f2 rfl rfl rfl rfl) k):G:=h f0 f1 f2 k
theorem q21 {F0:Prop} (f0:F0) (k:H) (h:F0→H→G:=by exact fun f0 k=>yH (zKP (lq rfl) f0 rfl rfl) k):G:=h f0 k
theorem q22 {F0:Prop} (f0:F0) (k:H) (h:F0→H→G:=by exact fun f0 k=>vB (xV (lq rfl) rfl f0) k):G:=h f0 k
theorem q23 {F0:Prop} (f0:F0) {F1:Prop} (f1:F1) (k:H) (h:F0→F1→H→G:=by exact fun f0 f1 k=>vB (kM (lq rfl) f0 rfl rfl f1) k):G:=h f0 f1 k
theorem q24 {F0:Prop} (f0:F0) (k:H) (h:F0→H→G:=by exact fun f0 k=>yH (z3M (lq rfl) f0 rfl rfl rfl rfl (by decide) rfl) k):G:=h f0 k
theorem q25 (x:AV) {F0:Prop} (f0:F0) (k:Sq P r E ops rest (S.put d (.cond (gd false b) x)) J) (ha:GdO o ops S E j t d b false:=by exact rfl) (h:F0→b=false→AOp P r E S o d x:=by exact fun f0 hb=>by subst hb;exact xM (lq rfl) f0 rfl):Sq P r E ops (o::rest) S J:=sqf x ha (h f0) k
theorem q26 (x:AV) {F0:Prop} (f0:F0) (k:Sq P r E ops rest (S.put d (.cond (gd false b) x)) J) (ha:GdO o ops S E j t d b false:=by exact rfl) (h:F0→b=false→AOp P r E S o d x:=by exact fun f0 hb=>by subst hb;exact kD (lq rfl) f0 rfl rfl):Sq P r E ops (o::rest) S J:=sqf x ha (h f0) k
theorem q28 {F0:Prop} (f0:F0) (k:H) (h:F0→H→G:=by exact fun f0 k=>yH (zCH (lq rfl) f0 rfl rfl rfl) k):G:=h f0 k
theorem q29 (k:H) (h:H→G:=by exact fun k=>yH (zMQ (lq rfl) rfl rfl) k):G:=h k
theorem q30 {F0:Prop} (f0:F0) {F1:Prop} (f1:F1) (k:H) (h:F0→F1→H→G:=by exact fun f0 f1 k=>xc rfl (zHG (lq rfl) f0 rfl rfl f1 rfl) k):G:=h f0 f1 k
theorem q31 (k:H) (h:H→G:=by exact fun k=>yH (zUJ (lq rfl) rfl rfl) k):G:=h k
theorem q32 (k:H) (h:H→G:=by exact fun k=>yH (zN9 (lq rfl) rfl) k):G:=h k
theorem q33 {F0:Prop} (f0:F0) (k:H) (h:F0→H→G:=by exact fun f0 k=>vB (kD (lq rfl) f0 rfl rfl) k):G:=h f0 k
theorem q34 {F0:Prop} (f0:F0) {F1:Prop} (f1:F1) (k:H) (h:F0→F1→H→G:=by exact fun f0 f1 k=>xc rfl (zCV (lq rfl) f0 rfl rfl rfl f1) k):G:=h f0 f1 k
theorem q35 {F0:Prop} (f0:F0) {F1:Prop} (f1:F1) (k:H) (h:F0→F1→H→G:=by exact fun f0 f1 k=>yH (zZ (en:=eI) (off:=0) (lq rfl) f0 rfl f1 rfl) k):G:=h f0 f1 k
theorem q37 (k:H) (h:H→G:=by exact fun k=>yH (zTU (lq rfl) rfl rfl) k):G:=h k
theorem q38 (x:AV) (k:Sq P r E ops rest (S.put d (.cond (gd false b) x)) J) (ha:GdO o ops S E j t d b false:=by exact rfl) (h:b=false→AOp P r E S o d x:=by exact fun hb=>by subst hb;exact zC (lq rfl) rfl):Sq P r E ops (o::rest) S J:=sqf x ha h k
theorem q39 (k:H) (h:H→G:=by exact fun k=>yH (zGQ (lq rfl) rfl rfl) k):G:=h k
theorem q40 (k:H) (h:H→G:=by exact fun k=>yH (zKQ (size:=3) (lq rfl) rfl rfl) k):G:=h k
theorem q41 (k:H) (h:H→G:=by exact fun k=>vB (zJU (lq rfl) rfl) k):G:=h k
theorem q42 (k:H) (h:H→G:=by exact fun k=>yH (zQU (lq rfl) rfl rfl) k):G:=h k
theorem q43 (x:AV) (k:Sq P r E ops rest (S.put d (.cond (gd false b) x)) J) (ha:GdO o ops S E j t d b false:=by exact rfl) (h:b=false→AOp P r E S o d x:=by exact fun hb=>by subst hb;exact zTU (lq rfl) rfl rfl):Sq P r E ops (o::rest) S J:=sqf x ha h k
theorem q44 (k:H) (h:H→G:=by exact fun k=>yH (zH6 (lq rfl) rfl rfl) k):G:=h k
theorem q45 (k:H) (h:H→G:=by exact fun k=>xd rfl (kX (zs:=[(.int IntKind.i64 (0)),(.int IntKind.i64 (0)),(.int IntKind.i64 (0))]) (lq rfl) (by kernel_rfl) rfl rfl) k):G:=h k
theorem q46 {F0:Prop} (f0:F0) (k:H) (h:F0→H→G:=by exact fun f0 k=>yH (j9 (lq rfl) f0 rfl) k):G:=h f0 k
theorem q47 {F0:Prop} (f0:F0) {F1:Prop} (f1:F1) (k:H) (m:I) (h:F0→F1→H→I→G:=by exact fun f0 f1 k m=>xa rfl (xH (en:=eSpan) (off:=0) (lq rfl) f0 rfl f1 rfl rfl (by decide)) k m):G:=h f0 f1 k m
theorem q48 {F0:Prop} (f0:F0) (k:H) (h:F0→H→G:=by exact fun f0 k=>yH (zCW (lq rfl) f0 rfl rfl) k):G:=h f0 k
theorem q49 {F0:Prop} (f0:F0) {F1:Prop} (f1:F1) (k:H) (h:F0→F1→H→G:=by exact fun f0 f1 k=>yH (yBI (lq rfl) f0 f1 rfl) k):G:=h f0 f1 k
theorem q50 (x:AV) (k:DA P r E ops rest (S.put d (.cond (gd false b) x)) J) (ha:GdO o ops S E j t d b false:=by exact rfl) (h:b=false→AOp P r E S o d x:=by exact fun hb=>by subst hb;exact zC (lq rfl) rfl):DA P r E ops (o::rest) S J:=daf x ha h k
theorem q51 {F0:Prop} (f0:F0) (k:H) (h:F0→H→G:=by exact fun f0 k=>yH (zEK (lq rfl) f0 rfl) k):G:=h f0 k
theorem q52 {F0:Prop} (f0:F0) (k:H) (h:F0→H→G:=by exact fun f0 k=>vB (j9 (lq rfl) f0 rfl) k):G:=h f0 k
theorem q54 (x:AV) {F0:Prop} (f0:F0) (k:Sq P r E ops rest (S.put d (.cond (gd true b) x)) J) (ha:GdO o ops S E j t d b true:=by exact rfl) (h:F0→b=true→AOp P r E S o d x:=by exact fun f0 hb=>by subst hb;exact xM (lq rfl) f0 rfl):Sq P r E ops (o::rest) S J:=sqt x ha (h f0) k
theorem q55 (x:AV) (k:Sq P r E ops rest (S.put d (.cond (gd true b) x)) J) (ha:GdO o ops S E j t d b true:=by exact rfl) (h:b=true→AOp P r E S o d x:=by exact fun hb=>by subst hb;exact zGP (lq rfl) rfl rfl):Sq P r E ops (o::rest) S J:=sqt x ha h k
theorem q56 {F0:Prop} (f0:F0) (k:H) (h:F0→H→G:=by exact fun f0 k=>xc rfl (zKP (lq rfl) f0 rfl rfl) k):G:=h f0 k
theorem q57 (k:H) (h:H→G:=by exact fun k=>xc rfl (zEP (lq rfl) rfl) k):G:=h k
theorem q58 (k:H) (h:H→G:=by exact fun k=>yH (zKQ (size:=5) (lq rfl) rfl rfl) k):G:=h k
theorem q59 (x:AV) (k:DA P r E ops rest (S.put d (.cond (gd true b) x)) J) (ha:GdO o ops S E j t d b true:=by exact rfl) (h:b=true→AOp P r E S o d x:=by exact fun hb=>by subst hb;exact zC (lq rfl) rfl):DA P r E ops (o::rest) S J:=dat x ha h k
theorem q60 {F0:Prop} (f0:F0) (k:H) (h:F0→H→G:=by exact fun f0 k=>kP rfl (zJJ f0 rfl rfl (lq rfl) rfl rfl rfl) k):G:=h f0 k
theorem q61 {F0:Prop} (f0:F0) (k:H) (h:F0→H→G:=by exact fun f0 k=>vB (zJ (lq rfl) f0 rfl rfl rfl) k):G:=h f0 k
theorem q62 (x:AV) {F0:Prop} (f0:F0) (k:Sq P r E ops rest (S.put d (.cond (gd true b) x)) J) (ha:GdO o ops S E j t d b true:=by exact rfl) (h:F0→b=true→AOp P r E S o d x:=by exact fun f0 hb=>by subst hb;exact kD (lq rfl) f0 rfl rfl):Sq P r E ops (o::rest) S J:=sqt x ha (h f0) k
theorem q63 (k:H) (h:H→G:=by exact fun k=>yH (zKQ (size:=1) (lq rfl) rfl rfl) k):G:=h k
theorem q64 (x:AV) {F0:Prop} (f0:F0) (k:Sq P r E ops rest (S.put d (.cond (gd false b) x)) J) (ha:GdO o ops S E j t d b false:=by exact rfl) (h:F0→b=false→AOp P r E S o d x:=by exact fun f0 hb=>by subst hb;exact zQ7 (lq rfl) f0 rfl):Sq P r E ops (o::rest) S J:=sqf x ha (h f0) k
theorem q65 {F0:Prop} (f0:F0) (k:H) (h:F0→H→G:=by exact fun f0 k=>yH (zM7 (lq rfl) f0 rfl rfl (by decide)) k):G:=h f0 k
theorem q67 {F0:Prop} (f0:F0) {F1:Prop} (f1:F1) (k:H) (h:F0→F1→H→G:=by exact fun f0 f1 k=>vB (zZ (en:=eI) (off:=0) (lq rfl) f0 rfl f1 rfl) k):G:=h f0 f1 k
theorem q68 {F0:Prop} (f0:F0) {F1:Prop} (f1:F1) (k:H) (h:F0→F1→H→G:=by exact fun f0 f1 k=>xc rfl (xH (en:=eSpan) (off:=0) (lq rfl) f0 rfl f1 rfl rfl (by decide)) k):G:=h f0 f1 k
theorem q69 {F0:Prop} (f0:F0) (k:H) (h:F0→H→G:=by exact fun f0 k=>vB (zKP (lq rfl) f0 rfl rfl) k):G:=h f0 k
theorem q70 (k:H) (h:H→G:=by exact fun k=>yH (zGP (lq rfl) rfl rfl) k):G:=h k
theorem q71 (k:H) (h:H→G:=by exact fun k=>yH (yDW (lq rfl) rfl rfl (by decide)) k):G:=h k
theorem q72 (k:H) (h:H→G:=by exact fun k=>yH (zOD (lq rfl) rfl) k):G:=h k
theorem q73 (x:AV) (k:Sq P r E ops rest (S.put d (.cond (gd true b) x)) J) (ha:GdO o ops S E j t d b true:=by exact rfl) (h:b=true→AOp P r E S o d x:=by exact fun hb=>by subst hb;exact zKJ (lq rfl) rfl rfl):Sq P r E ops (o::rest) S J:=sqt x ha h k
theorem q74 {F0:Prop} (f0:F0) {F1:Prop} (f1:F1) (k:H) (h:F0→F1→H→G:=by exact fun f0 f1 k=>xd rfl (z4E f0 rfl rfl rfl rfl f1 rfl) k):G:=h f0 f1 k
theorem q75 {F0:Prop} (f0:F0) {F1:Prop} (f1:F1) (k:H) (h:F0→F1→H→G:=by exact fun f0 f1 k=>xc rfl (zUY (lq rfl) f0 rfl rfl rfl rfl f1) k):G:=h f0 f1 k
theorem q76 {F0:Prop} (f0:F0) {F1:Prop} (f1:F1) (k:H) (m:I) (h:F0→F1→H→I→G:=by exact fun f0 f1 k m=>xa rfl (zHG (lq rfl) f0 rfl rfl f1 rfl) k m):G:=h f0 f1 k m
theorem q78 {F0:Prop} (f0:F0) (k:H) (h:F0→H→G:=by exact fun f0 k=>yH (z34 (lq rfl) f0 rfl rfl) k):G:=h f0 k
theorem q79 (x:AV) (k:Sq P r E ops rest (S.put d (.cond (gd true b) x)) J) (ha:GdO o ops S E j t d b true:=by exact rfl) (h:b=true→AOp P r E S o d x:=by exact fun hb=>by subst hb;exact zGQ (lq rfl) rfl rfl):Sq P r E ops (o::rest) S J:=sqt x ha h k
theorem q80 {F0:Prop} (f0:F0) {F1:Prop} (f1:F1) (k:H) (h:F0→F1→H→G:=by exact fun f0 f1 k=>yH (zCV (lq rfl) f0 rfl rfl rfl f1) k):G:=h f0 f1 k
theorem q81 {F0:Prop} (f0:F0) (k:H) (m:I) (h:F0→H→I→G:=by exact fun f0 k m=>xa rfl (zQ7 (lq rfl) f0 rfl) k m):G:=h f0 k m
theorem q82 (x:AV) {F0:Prop} (f0:F0) (k:DA P r E ops rest (S.put d (.cond (gd false b) x)) J) (ha:GdO o ops S E j t d b false:=by exact rfl) (h:F0→b=false→AOp P r E S o d x:=by exact fun f0 hb=>by subst hb;exact j9 (lq rfl) f0 rfl):DA P r E ops (o::rest) S J:=daf x ha (h f0) k
theorem q84 {F0:Prop} (f0:F0) {F1:Prop} (f1:F1) (k:H) (h:F0→F1→H→G:=by exact fun f0 f1 k=>yH (zZ (en:=eMapping) (off:=1) (lq rfl) f0 rfl f1 rfl) k):G:=h f0 f1 k
theorem q85 {F0:Prop} (f0:F0) (k:H) (h:F0→H→G:=by exact fun f0 k=>kP rfl (zEJ (lq rfl) f0 rfl rfl rfl rfl (by decide) rfl) k):G:=h f0 k
theorem q86 (x:AV) (k:Sq P r E ops rest (S.put d (.cond (gd false b) x)) J) (ha:GdO o ops S E j t d b false:=by exact rfl) (h:b=false→AOp P r E S o d x:=by exact fun hb=>by subst hb;exact zDB (lq rfl) rfl rfl):Sq P r E ops (o::rest) S J:=sqf x ha h k
theorem q87 (k:H) (h:H→G:=by exact fun k=>vB (zDB (lq rfl) rfl rfl) k):G:=h k
theorem q88 (k:H) (h:H→G:=by exact fun k=>vB (zG6 (lq rfl) rfl) k):G:=h k
theorem q89 (k:H) (h:H→G:=by exact fun k=>kP rfl (z0U (lq rfl) rfl rfl) k):G:=h k
theorem q90 {F0:Prop} (f0:F0) {F1:Prop} (f1:F1) (k:H) (h:F0→F1→H→G:=by exact fun f0 f1 k=>yH (xH (en:=eMapping) (off:=0) (lq rfl) f0 rfl f1 rfl rfl (by decide)) k):G:=h f0 f1 k
theorem q91 {F0:Prop} (f0:F0) (k:H) (h:F0→H→G:=by exact fun f0 k=>yH (z95 (lq rfl) rfl rfl f0) k):G:=h f0 k
theorem q92 {F0:Prop} (f0:F0) (k:H) (h:F0→H→G:=by exact fun f0 k=>yH (zIU (lq rfl) f0 rfl) k):G:=h f0 k
theorem q93 {F0:Prop} (f0:F0) (k:H) (h:F0→H→G:=by exact fun f0 k=>kP rfl (zM5 f0 rfl rfl (lq rfl) rfl rfl rfl) k):G:=h f0 k
theorem q94 {F0:Prop} (f0:F0) (k:H) (m:I) (h:F0→H→I→G:=by exact fun f0 k m=>xa rfl (zKP (lq rfl) f0 rfl rfl) k m):G:=h f0 k m
theorem q95 (k:H) (h:H→G:=by exact fun k=>vB (zLW (lq rfl) rfl rfl) k):G:=h k
theorem q96 {F0:Prop} (f0:F0) (k:H) (h:F0→H→G:=by exact fun f0 k=>yH (zJ (lq rfl) f0 rfl rfl rfl) k):G:=h f0 k
theorem q97 (x:AV) {F0:Prop} (f0:F0) (k:DA P r E ops rest (S.put d (.cond (gd true b) x)) J) (ha:GdO o ops S E j t d b true:=by exact rfl) (h:F0→b=true→AOp P r E S o d x:=by exact fun f0 hb=>by subst hb;exact xM (lq rfl) f0 rfl):DA P r E ops (o::rest) S J:=dat x ha (h f0) k
theorem q98 (x:AV) {F0:Prop} (f0:F0) (k:DA P r E ops rest (S.put d (.cond (gd true b) x)) J) (ha:GdO o ops S E j t d b true:=by exact rfl) (h:F0→b=true→AOp P r E S o d x:=by exact fun f0 hb=>by subst hb;exact kD (lq rfl) f0 rfl rfl):DA P r E ops (o::rest) S J:=dat x ha (h f0) k
theorem q99 (x:AV) {F0:Prop} (f0:F0) (k:DA P r E ops rest (S.put d (.cond (gd true b) x)) J) (ha:GdO o ops S E j t d b true:=by exact rfl) (h:F0→b=true→AOp P r E S o d x:=by exact fun f0 hb=>by subst hb;exact j9 (lq rfl) f0 rfl):DA P r E ops (o::rest) S J:=dat x ha (h f0) k
theorem zVC {F0:Prop} (f0:F0) (k:H) (h:F0→H→G:=by exact fun f0 k=>vB (zEK (lq rfl) f0 rfl) k):G:=h f0 k
theorem z1I (x:AV) (k:Sq P r E ops rest (S.put d (.cond (gd true b) x)) J) (ha:GdO o ops S E j t d b true:=by exact rfl) (h:b=true→AOp P r E S o d x:=by exact fun hb=>by subst hb;exact zN9 (lq rfl) rfl):Sq P r E ops (o::rest) S J:=sqt x ha h k
theorem zVD (k:H) (h:H→G:=by exact fun k=>vB (zUJ (lq rfl) rfl rfl) k):G:=h k
theorem zVE {F0:Prop} (f0:F0) {F1:Prop} (f1:F1) (k:H) (m:I) (h:F0→F1→H→I→G:=by exact fun f0 f1 k m=>xa rfl (zUY (lq rfl) f0 rfl rfl rfl rfl f1) k m):G:=h f0 f1 k m
theorem zVF {F0:Prop} (f0:F0) {F1:Prop} (f1:F1) (k:H) (m:I) (h:F0→F1→H→I→G:=by exact fun f0 f1 k m=>xa rfl (zDY (lq rfl) f0 rfl rfl rfl f1) k m):G:=h f0 f1 k m
theorem yB1 (x:AV) {F0:Prop} (f0:F0) (k:Sq P r E ops rest (S.put d (.cond (gd false b) x)) J) (ha:GdO o ops S E j t d b false:=by exact rfl) (h:F0→b=false→AOp P r E S o d x:=by exact fun f0 hb=>by subst hb;exact j9 (lq rfl) f0 rfl):Sq P r E ops (o::rest) S J:=sqf x ha (h f0) k
theorem zXQ (x:AV) (k:Sq P r E ops rest (S.put d (.cond (gd false b) x)) J) (ha:GdO o ops S E j t d b false:=by exact rfl) (h:b=false→AOp P r E S o d x:=by exact fun hb=>by subst hb;exact zH6 (lq rfl) rfl rfl):Sq P r E ops (o::rest) S J:=sqf x ha h k
theorem zXR (x:AV) (k:Sq P r E ops rest (S.put d (.cond (gd false b) x)) J) (ha:GdO o ops S E j t d b false:=by exact rfl) (h:b=false→AOp P r E S o d x:=by exact fun hb=>by subst hb;exact zGQ (lq rfl) rfl rfl):Sq P r E ops (o::rest) S J:=sqf x ha h k
theorem zXS (k:H) (h:H→G:=by exact fun k=>vB (zTU (lq rfl) rfl rfl) k):G:=h k
theorem yGJ (k:H) (h:H→G:=by exact fun k=>yH (zKQ (size:=4) (lq rfl) rfl rfl) k):G:=h k
theorem z1J (x:AV) (k:Sq P r E ops rest (S.put d (.cond (gd false b) x)) J) (ha:GdO o ops S E j t d b false:=by exact rfl) (h:b=false→AOp P r E S o d x:=by exact fun hb=>by subst hb;exact zN9 (lq rfl) rfl):Sq P r E ops (o::rest) S J:=sqf x ha h k
theorem zXT (k:H) (h:H→G:=by exact fun k=>kP rfl (kX (zs:=[(.int IntKind.i64 (0)),(.int IntKind.i64 (0))]) (lq rfl) (by kernel_rfl) rfl rfl) k):G:=h k
theorem yGK (k:H) (h:H→G:=by exact fun k=>kP rfl (kX (zs:=[(.int IntKind.i64 (0)),(.slice none 0 0),(.string ⟨#[]⟩)]) (lq rfl) (by kernel_rfl) rfl rfl) k):G:=h k
theorem z1K {F0:Prop} (f0:F0) (k:H) (h:F0→H→G:=by exact fun f0 k=>yH (z94 (lq rfl) rfl rfl f0) k):G:=h f0 k
theorem zXU {F0:Prop} (f0:F0) (k:H) (h:F0→H→G:=by exact fun f0 k=>xc rfl (zQ7 (lq rfl) f0 rfl) k):G:=h f0 k
theorem z1L (x:AV) {F0:Prop} (f0:F0) (k:Sq P r E ops rest (S.put d (.cond (gd true b) x)) J) (ha:GdO o ops S E j t d b true:=by exact rfl) (h:F0→b=true→AOp P r E S o d x:=by exact fun f0 hb=>by subst hb;exact zQ7 (lq rfl) f0 rfl):Sq P r E ops (o::rest) S J:=sqt x ha (h f0) k
theorem z1M (k:H) (h:H→G:=by exact fun k=>yH (zW5 (lq rfl) rfl rfl) k):G:=h k
theorem z1N (x:AV) (k:DA P r E ops rest (S.put d (.cond (gd true b) x)) J) (ha:GdO o ops S E j t d b true:=by exact rfl) (h:b=true→AOp P r E S o d x:=by exact fun hb=>by subst hb;exact zUJ (lq rfl) rfl rfl):DA P r E ops (o::rest) S J:=dat x ha h k
theorem z1O (k:H) (h:H→G:=by exact fun k=>kP rfl (kX (zs:=[(.int IntKind.i64 (0)),(.int IntKind.i64 (0)),(.int IntKind.i64 (0))]) (lq rfl) (by kernel_rfl) rfl rfl) k):G:=h k
theorem z79 {F0:Prop} (f0:F0) (k:H) (h:F0→H→G:=by exact fun f0 k=>yH (yBK (lq rfl) f0 rfl rfl) k):G:=h f0 k
theorem z1P (k:H) (h:H→G:=by exact fun k=>kP rfl (kX (zs:=[(.slice none 0 0)]) (lq rfl) (by kernel_rfl) rfl rfl) k):G:=h k
theorem z1Q {F0:Prop} (f0:F0) (k:H) (h:F0→H→G:=by exact fun f0 k=>yH (z04 (lq rfl) f0 rfl rfl (by decide)) k):G:=h f0 k
theorem z1R {F0:Prop} (f0:F0) (k:H) (h:F0→H→G:=by exact fun f0 k=>xd rfl (zJJ f0 rfl rfl (lq rfl) rfl rfl rfl) k):G:=h f0 k
theorem z1S (k:H) (h:H→G:=by exact fun k=>vB (zFI (lq rfl) rfl) k):G:=h k
theorem yEO (k:H) (h:H→G:=by exact fun k=>vB (zQU (lq rfl) rfl rfl) k):G:=h k
theorem z1T (k:H) (h:H→G:=by exact fun k=>vB (zKJ (lq rfl) rfl rfl) k):G:=h k
theorem z1U (x:AV) {F0:Prop} (f0:F0) (k:Sq P r E ops rest (S.put d (.cond (gd true b) x)) J) (ha:GdO o ops S E j t d b true:=by exact rfl) (h:F0→b=true→AOp P r E S o d x:=by exact fun f0 hb=>by subst hb;exact j9 (lq rfl) f0 rfl):Sq P r E ops (o::rest) S J:=sqt x ha (h f0) k
theorem z1V {F0:Prop} (f0:F0) {F1:Prop} (f1:F1) (k:H) (h:F0→F1→H→G:=by exact fun f0 f1 k=>vB (zDY (lq rfl) f0 rfl rfl rfl f1) k):G:=h f0 f1 k
theorem z1W {F0:Prop} (f0:F0) {F1:Prop} (f1:F1) (k:H) (h:F0→F1→H→G:=by exact fun f0 f1 k=>vB (zHG (lq rfl) f0 rfl rfl f1 rfl) k):G:=h f0 f1 k
theorem z8A {F0:Prop} (f0:F0) (k:H) (h:F0→H→G:=by exact fun f0 k=>yH (zOH (lq rfl) f0 rfl) k):G:=h f0 k
theorem z4Y (k:H) (h:H→G:=by exact fun k=>kP rfl (z01 (lq rfl) rfl) k):G:=h k
theorem yB2 {F0:Prop} (f0:F0) {F1:Prop} (f1:F1) (k:H) (h:F0→F1→H→G:=by exact fun f0 f1 k=>yH (xH (en:=eElement) (off:=0) (lq rfl) f0 rfl f1 rfl rfl (by decide)) k):G:=h f0 f1 k
theorem z4Z (k:H) (h:H→G:=by exact fun k=>yH (yD0 (lq rfl) rfl rfl) k):G:=h k
theorem z40 (k:H) (h:H→G:=by exact fun k=>vB (zOC (lq rfl) rfl) k):G:=h k
theorem z41 (k:H) (h:H→G:=by exact fun k=>vB (zL3 (lq rfl) rfl) k):G:=h k
theorem z42 (k:H) (m:I) (h:H→I→G:=by exact fun k m=>xb rfl (kX (zs:=[(.int IntKind.i64 (0)),(.int IntKind.i64 (0)),(.int IntKind.i64 (0))]) (lq rfl) (by kernel_rfl) rfl rfl) k m):G:=h k m
theorem z43 (x:AV) (k:Sq P r E ops rest (S.put d (.cond (gd true b) x)) J) (ha:GdO o ops S E j t d b true:=by exact rfl) (h:b=true→AOp P r E S o d x:=by exact fun hb=>by subst hb;exact zMQ (lq rfl) rfl rfl):Sq P r E ops (o::rest) S J:=sqt x ha h k
theorem z44 (x:AV) (k:DA P r E ops rest (S.put d (.cond (gd true b) x)) J) (ha:GdO o ops S E j t d b true:=by exact rfl) (h:b=true→AOp P r E S o d x:=by exact fun hb=>by subst hb;exact zG6 (lq rfl) rfl):DA P r E ops (o::rest) S J:=dat x ha h k
theorem z45 {F0:Prop} (f0:F0) {F1:Prop} (f1:F1) (k:H) (h:F0→F1→H→G:=by exact fun f0 f1 k=>vB (zZ (en:=eMapping) (off:=0) (lq rfl) f0 rfl f1 rfl) k):G:=h f0 f1 k
theorem z46 (k:H) (h:H→G:=by exact fun k=>vB (zQ6 (lq rfl) rfl rfl) k):G:=h k
theorem z47 {F0:Prop} (f0:F0) (k:H) (h:F0→H→G:=by exact fun f0 k=>vB (zIU (lq rfl) f0 rfl) k):G:=h f0 k
theorem z48 (k:H) (h:H→G:=by exact fun k=>yH (zW6 (lq rfl) rfl rfl) k):G:=h k
theorem yEP (k:H) (h:H→G:=by exact fun k=>yH (zF4 (lq rfl) rfl) k):G:=h k
theorem yEQ {F0:Prop} (f0:F0) {F1:Prop} (f1:F1) (k:H) (h:F0→F1→H→G:=by exact fun f0 f1 k=>yH (zZ (en:=eEntry) (off:=0) (lq rfl) f0 rfl f1 rfl) k):G:=h f0 f1 k
theorem z8B {F0:Prop} (f0:F0) {F1:Prop} (f1:F1) (k:H) (h:F0→F1→H→G:=by exact fun f0 f1 k=>yH (z3Y (lq rfl) f0 rfl rfl f1) k):G:=h f0 f1 k
theorem z8C {F0:Prop} (f0:F0) {F1:Prop} (f1:F1) (k:H) (h:F0→F1→H→G:=by exact fun f0 f1 k=>yH (xH (en:=eGroup) (off:=0) (lq rfl) f0 rfl f1 rfl rfl (by decide)) k):G:=h f0 f1 k
theorem z8D (k:H) (h:H→G:=by exact fun k=>kP rfl (kX (zs:=[(.string ⟨#[]⟩),(.int IntKind.i64 (0)),(.int IntKind.i64 (0))]) (lq rfl) (by kernel_rfl) rfl rfl) k):G:=h k
theorem z8E {F0:Prop} (f0:F0) {F1:Prop} (f1:F1) (k:H) (h:F0→F1→H→G:=by exact fun f0 f1 k=>kP rfl (zUM f0 f1 rfl rfl rfl rfl rfl rfl) k):G:=h f0 f1 k
theorem z8F (x:AV) (k:Sq P r E ops rest (S.put d (.cond (gd true b) x)) J) (ha:GdO o ops S E j t d b true:=by exact rfl) (h:b=true→AOp P r E S o d x:=by exact fun hb=>by subst hb;exact zLW (lq rfl) rfl rfl):Sq P r E ops (o::rest) S J:=sqt x ha h k
theorem yER (k:H) (h:H→G:=by exact fun k=>kP rfl (kX (zs:=[(.int IntKind.i64 (0)),(.int IntKind.i64 (0)),(.int IntKind.i64 (0)),(.bool false)]) (lq rfl) (by kernel_rfl) rfl rfl) k):G:=h k
theorem z8G {F0:Prop} (f0:F0) (k:H) (h:F0→H→G:=by exact fun f0 k=>vB (zCH (lq rfl) f0 rfl rfl rfl) k):G:=h f0 k
theorem yB3 {F0:Prop} (f0:F0) (k:H) (h:F0→H→G:=by exact fun f0 k=>vB (zQ7 (lq rfl) f0 rfl) k):G:=h f0 k
theorem z8H (k:H) (h:H→G:=by exact fun k=>yH (zOC (lq rfl) rfl) k):G:=h k
theorem z8I {F0:Prop} (f0:F0) {F1:Prop} (f1:F1) (k:H) (h:F0→F1→H→G:=by exact fun f0 f1 k=>yH (xH (en:=eSpan) (off:=0) (lq rfl) f0 rfl f1 rfl rfl (by decide)) k):G:=h f0 f1 k
theorem z8J {F0:Prop} (f0:F0) (k:H) (h:F0→H→G:=by exact fun f0 k=>vB (z3M (lq rfl) f0 rfl rfl rfl rfl (by decide) rfl) k):G:=h f0 k
theorem z8K {F0:Prop} (f0:F0) {F1:Prop} (f1:F1) (k:H) (h:F0→F1→H→G:=by exact fun f0 f1 k=>vB (xH (en:=eMapping) (off:=0) (lq rfl) f0 rfl f1 rfl rfl (by decide)) k):G:=h f0 f1 k
theorem yES {F0:Prop} (f0:F0) {F1:Prop} (f1:F1) (k:H) (m:I) (h:F0→F1→H→I→G:=by exact fun f0 f1 k m=>xa rfl (zCV (lq rfl) f0 rfl rfl rfl f1) k m):G:=h f0 f1 k m
theorem yB4 (k:H) (h:H→G:=by exact fun k=>yH (zYP (lq rfl) rfl rfl) k):G:=h k
theorem z8L {F0:Prop} (f0:F0) (k:H) (h:F0→H→G:=by exact fun f0 k=>kP rfl (yBC (lq rfl) rfl rfl f0) k):G:=h f0 k
theorem z8M {F0:Prop} (f0:F0) (k:H) (h:F0→H→G:=by exact fun f0 k=>yH (yBP (lq rfl) f0 rfl rfl) k):G:=h f0 k
theorem yB5 (k:H) (h:H→G:=by exact fun k=>kP rfl (kX (zs:=[(.slice none 0 0),(.slice none 0 0),(.slice none 0 0)]) (lq rfl) (by kernel_rfl) rfl rfl) k):G:=h k
theorem yB6 (k:H) (h:H→G:=by exact fun k=>kP rfl (kX (zs:=[(.slice none 0 0),(.slice none 0 0),(.int IntKind.i64 (0)),(.int IntKind.i64 (0)),(.int IntKind.i64 (0))]) (lq rfl) (by kernel_rfl) rfl rfl) k):G:=h k
theorem z8N (k:H) (h:H→G:=by exact fun k=>vB (zN9 (lq rfl) rfl) k):G:=h k
end
section
variable {G H:Prop}
theorem Q0 (k:H) (h:H→G:=by intro k;refine kL ?_;exact zBD k):G:=h k
theorem Q1 (k:H) (h:H→G:=by intro k;refine q1 ?_;exact zL k):G:=h k
theorem Q2 (k:H) (h:H→G:=by intro k;refine Q0 ?_;exact q0 k):G:=h k
theorem Q3 (k:H) (h:H→G:=by intro k;refine Q0 ?_;exact Q1 k):G:=h k
theorem Q4 (k:H) (h:H→G:=by intro k;refine kL ?_;exact Q2 k):G:=h k
theorem Q5 (k:H) (h:H→G:=by intro k;refine zP ?_;exact kL k):G:=h k
theorem Q6 (k:H) (h:H→G:=by intro k;refine q3 ?_;exact zL k):G:=h k
theorem Q7 (k:H) (h:H→G:=by intro k;refine zBD ?_;exact q0 k):G:=h k
theorem Q8 (k:H) (h:H→G:=by intro k;refine Q5 ?_;exact kT k):G:=h k
theorem Q9 (k:H) (h:H→G:=by intro k;refine q2 ?_;exact Q1 k):G:=h k
theorem Q10 (k:H) (h:H→G:=by intro k;refine q0 ?_;exact zL k):G:=h k
theorem Q11 (k:H) (h:H→G:=by intro k;refine Q7 ?_;exact Q9 k):G:=h k
theorem Q12 (k:H) (h:H→G:=by intro k;refine Q4 ?_;exact q0 k):G:=h k
theorem Q13 (k:H) (h:H→G:=by intro k;refine q15 ?_;exact zL k):G:=h k
theorem Q14 (k:H) (h:H→G:=by intro k;refine Q3 ?_;exact kT k):G:=h k
theorem Q15 (k:H) (h:H→G:=by intro k;refine Q2 ?_;exact q0 k):G:=h k
theorem Q16 (k:H) (h:H→G:=by intro k;refine Q1 ?_;exact kL k):G:=h k
theorem Q17 (k:H) (h:H→G:=by intro k;refine Q3 ?_;exact zB k):G:=h k
theorem Q18 (k:H) (h:H→G:=by intro k;refine q10 ?_;exact q0 k):G:=h k
theorem Q19 (k:H) (h:H→G:=by intro k;refine Q1 ?_;exact Q2 k):G:=h k
theorem Q20 (k:H) (h:H→G:=by intro k;refine q12 ?_;exact xn [7] k):G:=h k
theorem Q21 (k:H) (h:H→G:=by intro k;refine Q0 ?_;exact Q6 k):G:=h k
theorem Q22 (k:H) (h:H→G:=by intro k;refine Q21 ?_;exact kL k):G:=h k
theorem Q23 (k:H) (h:H→G:=by intro k;refine zBD ?_;exact q2 k):G:=h k
theorem Q24 (k:H) (h:H→G:=by intro k;refine Q23 ?_;exact Q10 k):G:=h k
theorem Q27 (k:H) (h:H→G:=by intro k;refine q7 ?_;exact q7 k):G:=h k
theorem Q28 (k:H) (h:H→G:=by intro k;refine zP ?_;exact Q11 k):G:=h k
theorem Q29 (k:H) (h:H→G:=by intro k;refine Q8 ?_;exact Q0 k):G:=h k
theorem Q30 (k:H) (h:H→G:=by intro k;refine Q10 ?_;exact kT k):G:=h k
theorem Q31 (k:H) (h:H→G:=by intro k;refine kL ?_;exact Q0 k):G:=h k
theorem Q32 (k:H) (h:H→G:=by intro k;refine kL ?_;exact Q14 k):G:=h k
theorem Q33 (k:H) (h:H→G:=by intro k;refine q29 ?_;exact zL k):G:=h k
theorem Q34 (k:H) (h:H→G:=by intro k;refine Q18 ?_;exact q0 k):G:=h k
theorem Q35 (k:H) (h:H→G:=by intro k;refine Q2 ?_;exact Q1 k):G:=h k
theorem Q36 (k:H) (h:H→G:=by intro k;refine q14 ?_;exact zL k):G:=h k
theorem Q37 (k:H) (h:H→G:=by intro k;refine q18 ?_;exact zL k):G:=h k
theorem Q38 (k:H) (h:H→G:=by intro k;refine xn [12] ?_;exact q9 G62 k):G:=h k
theorem Q39 (k:H) (h:H→G:=by intro k;refine Q1 ?_;exact Q0 k):G:=h k
theorem Q40 (k:H) (h:H→G:=by intro k;refine Q0 ?_;exact q40 k):G:=h k
theorem Q41 (k:H) (h:H→G:=by intro k;refine q14 ?_;exact Q1 k):G:=h k
theorem Q42 (k:H) (h:H→G:=by intro k;refine q32 ?_;exact zL k):G:=h k
theorem Q43 (k:H) (h:H→G:=by intro k;refine Q0 ?_;exact q10 k):G:=h k
theorem Q44 (k:H) (h:H→G:=by intro k;refine xn [11] ?_;exact q9 G62 k):G:=h k
theorem Q45 (k:H) (h:H→G:=by intro k;refine Q44 ?_;exact Q38 k):G:=h k
theorem Q46 (k:H) (h:H→G:=by intro k;refine q1 ?_;exact Q1 k):G:=h k
theorem Q47 (k:H) (h:H→G:=by intro k;refine Q3 ?_;exact Q4 k):G:=h k
theorem Q48 (k:H) (h:H→G:=by intro k;refine xn [11] ?_;exact q12 k):G:=h k
theorem Q49 (k:H) (h:H→G:=by intro k;refine Q48 ?_;exact xn [12] k):G:=h k
theorem Q50 (k:H) (h:H→G:=by intro k;refine zP ?_;exact Q0 k):G:=h k
theorem Q51 (k:H) (h:H→G:=by intro k;refine q41 ?_;exact xQ k):G:=h k
theorem Q52 (k:H) (h:H→G:=by intro k;refine zL ?_;exact Q0 k):G:=h k
theorem Q53 (k:H) (h:H→G:=by intro k;refine Q16 ?_;exact Q0 k):G:=h k
theorem Q54 (k:H) (h:H→G:=by intro k;refine q37 ?_;exact zL k):G:=h k
theorem Q55 (k:H) (h:H→G:=by intro k;refine q4 S23 ?_;exact Q6 k):G:=h k
theorem Q56 (k:H) (h:H→G:=by intro k;refine Q49 ?_;exact q57 k):G:=h k
theorem Q57 (k:H) (h:H→G:=by intro k;refine zP ?_;exact Q24 k):G:=h k
theorem Q58 (k:H) (h:H→G:=by intro k;refine zP ?_;exact Q3 k):G:=h k
theorem Q59 (k:H) (h:H→G:=by intro k;refine Q3 ?_;exact Q2 k):G:=h k
theorem Q60 (k:H) (h:H→G:=by intro k;refine Q12 ?_;exact Q55 k):G:=h k
theorem Q61 (k:H) (h:H→G:=by intro k;refine Q43 ?_;exact Q13 k):G:=h k
theorem Q62 (k:H) (h:H→G:=by intro k;refine Q19 ?_;exact Q33 k):G:=h k
theorem Q63 (k:H) (h:H→G:=by intro k;refine zBD ?_;exact Q34 k):G:=h k
theorem Q64 (k:H) (h:H→G:=by intro k;refine zBD ?_;exact q10 k):G:=h k
theorem Q65 (k:H) (h:H→G:=by intro k;refine Q8 ?_;exact kL k):G:=h k
theorem Q66 (k:H) (h:H→G:=by intro k;refine Q7 ?_;exact q0 k):G:=h k
theorem Q69 (k:H) (h:H→G:=by intro k;refine Q8 ?_;exact Q15 k):G:=h k
theorem Q70 (k:H) (h:H→G:=by intro k;refine q5 zU9 ?_;exact q6 O29 k):G:=h k
theorem Q71 (k:H) (h:H→G:=by intro k;refine Q5 ?_;exact Q0 k):G:=h k
theorem Q72 (k:H) (h:H→G:=by intro k;refine Q12 ?_;exact Q6 k):G:=h k
theorem Q73 (k:H) (h:H→G:=by intro k;refine q31 ?_;exact Q1 k):G:=h k
theorem Q74 (k:H) (h:H→G:=by intro k;refine Q3 ?_;exact Q32 k):G:=h k
theorem Q75 (k:H) (h:H→G:=by intro k;refine kT ?_;exact Q15 k):G:=h k
theorem Q76 (k:H) (h:H→G:=by intro k;refine Q16 ?_;exact kT k):G:=h k
theorem Q77 (k:H) (h:H→G:=by intro k;refine q72 ?_;exact q42 k):G:=h k
theorem Q78 (k:H) (h:H→G:=by intro k;refine Q77 ?_;exact q42 k):G:=h k
theorem Q79 (k:H) (h:H→G:=by intro k;refine q45 ?_;exact Q45 k):G:=h k
theorem Q80 (k:H) (h:H→G:=by intro k;refine kT ?_;exact Q2 k):G:=h k
theorem Q81 (k:H) (h:H→G:=by intro k;refine Q7 ?_;exact Q1 k):G:=h k
theorem Q82 (k:H) (h:H→G:=by intro k;refine q0 ?_;exact q0 k):G:=h k
theorem Q83 (k:H) (h:H→G:=by intro k;refine q4 yU ?_;exact Q6 k):G:=h k
theorem Q84 (k:H) (h:H→G:=by intro k;refine Q0 ?_;exact q58 k):G:=h k
theorem Q85 (k:H) (h:H→G:=by intro k;refine q5 zY4 ?_;exact q6 O3 k):G:=h k
theorem Q86 (k:H) (h:H→G:=by intro k;refine Q0 ?_;exact Q34 k):G:=h k
theorem Q87 (k:H) (h:H→G:=by intro k;refine q39 ?_;exact zL k):G:=h k
theorem Q88 (k:H) (h:H→G:=by intro k;refine q39 ?_;exact Q1 k):G:=h k
theorem Q89 (k:H) (h:H→G:=by intro k;refine q5 zU8 ?_;exact q6 O23 k):G:=h k
theorem Q90 (k:H) (h:H→G:=by intro k;refine xn [10] ?_;exact q12 k):G:=h k
theorem Q91 (k:H) (h:H→G:=by intro k;refine Q0 ?_;exact q63 k):G:=h k
theorem Q92 (k:H) (h:H→G:=by intro k;refine q5 zGT ?_;exact q6 O24 k):G:=h k
theorem Q93 (k:H) (h:H→G:=by intro k;refine Q5 ?_;exact Q14 k):G:=h k
theorem Q94 (k:H) (h:H→G:=by intro k;refine q4 yU ?_;exact Q30 k):G:=h k
theorem Q95 (k:H) (h:H→G:=by intro k;refine zP ?_;exact Q4 k):G:=h k
theorem Q96 (k:H) (h:H→G:=by intro k;refine Q16 ?_;exact Q14 k):G:=h k
theorem Q97 (k:H) (h:H→G:=by intro k;refine Q92 ?_;exact q4 S24 k):G:=h k
theorem Q98 (k:H) (h:H→G:=by intro k;refine q87 ?_;exact xQ k):G:=h k
theorem Q99 (k:H) (h:H→G:=by intro k;refine q44 ?_;exact zL k):G:=h k
theorem z15 (k:H) (h:H→G:=by intro k;refine zL ?_;exact Q31 k):G:=h k
theorem zSN (k:H) (h:H→G:=by intro k;refine q5 zDJ ?_;exact q6 O3 k):G:=h k
theorem z5D (k:H) (h:H→G:=by intro k;refine zBD ?_;exact Q18 k):G:=h k
theorem z5E (k:H) (h:H→G:=by intro k;refine Q70 ?_;exact q4 S29 k):G:=h k
theorem zXY (k:H) (h:H→G:=by intro k;refine kT ?_;exact Q0 k):G:=h k
theorem yCD (k:H) (h:H→G:=by intro k;refine q60 O3 ?_;exact zL k):G:=h k
theorem yEV (k:H) (h:H→G:=by intro k;refine xm 0 ?_;exact xm 1 k):G:=h k
theorem zVJ (k:H) (h:H→G:=by intro k;refine q88 ?_;exact q7 k):G:=h k
theorem zXZ (k:H) (h:H→G:=by intro k;refine Q46 ?_;exact Q4 k):G:=h k
theorem yEW (k:H) (h:H→G:=by intro k;refine Q40 ?_;exact q58 k):G:=h k
theorem zVK (k:H) (h:H→G:=by intro k;refine Q90 ?_;exact Q56 k):G:=h k
theorem yGL (k:H) (h:H→G:=by intro k;refine Q3 ?_;exact Q3 k):G:=h k
theorem z5F (k:H) (h:H→G:=by intro k;refine q5 z4P ?_;exact q6 O30 k):G:=h k
theorem z8U (k:H) (h:H→G:=by intro k;refine q6 O3 ?_;exact q3 k):G:=h k
theorem yEX (k:H) (h:H→G:=by intro k;refine Q0 ?_;exact yGJ k):G:=h k
theorem z16 (k:H) (h:H→G:=by intro k;refine Q4 ?_;exact zL k):G:=h k
theorem zX0 (k:H) (h:H→G:=by intro k;refine q16 zA5 ?_;exact zL k):G:=h k
theorem zX1 (k:H) (h:H→G:=by intro k;refine q4 S23 ?_;exact Q30 k):G:=h k
theorem yGM (k:H) (h:H→G:=by intro k;refine yGK ?_;exact q16 zIJ k):G:=h k
theorem zX2 (k:H) (h:H→G:=by intro k;refine yGM ?_;exact zL k):G:=h k
theorem z17 (k:H) (h:H→G:=by intro k;refine yEV ?_;exact xm 2 k):G:=h k
theorem zX3 (k:H) (h:H→G:=by intro k;refine Q86 ?_;exact q0 k):G:=h k
theorem z18 (k:H) (h:H→G:=by intro k;refine q1 ?_;exact Q19 k):G:=h k
theorem yGN (k:H) (h:H→G:=by intro k;refine q2 ?_;exact q49 Tryz.underlying3 Tryz.underlying125 k):G:=h k
theorem yGO (k:H) (h:H→G:=by intro k;refine yGN ?_;exact q71 k):G:=h k
theorem zX4 (k:H) (h:H→G:=by intro k;refine yGO ?_;exact q49 Tryz.underlying125 Tryz.underlying3 k):G:=h k
theorem yEY (k:H) (h:H→G:=by intro k;refine q41 ?_;exact Q51 k):G:=h k
end
theorem zP2 {a0 r} (h:zF9 a0=some r):zF Tryz.prog 49 [(zW eSpan a0)] [(db r)]:=by
 refine co Tryz.func49 ?_;intro _ _ _ _
 unfold zF9 at h
 refine Q59 ?_
 refine q4 S22 ?_
 refine q70 ?_
 refine Q1 ?_
 cases h
 refine zB ?_
 exact zH rfl
theorem zP3 {a0 r} (h:zD1 a0=some r):zF Tryz.prog 50 [(zW eMapping a0)] [(db r)]:=by
 refine co Tryz.func50 ?_;intro _ _ _ _
 unfold zD1 at h
 refine Q74 ?_
 have ⟨y1,hy1,h⟩:=bE h
 refine zK y1 (.exit 0) (fun y1=>⟨[(0,.d (zW eMapping a0))],[]⟩) .ret (fun y1=>⟨[(2,.d (db y1))],[]⟩) ?_ ?_ ?_
 refine zD (fun x=>⟨[(0,.d (zW eMapping a0)),(3,.d (di x))],[]⟩) hy1 (wc) ?_
 rintro v3 sy1 p1
 replace p1:u2 a0 v3=some sy1:=p1
 unfold u2 at p1
 refine Q12 ?_
 refine q4 S23 ?_
 refine q3 ?_
 have ⟨b8,hb8,p1⟩:=bE p1
 refine yH ((zC (lq rfl) rfl).bool (oi hb8)) ?_
 refine q13 (.d (di v3)) ?_
 refine q73 (.d (db (decide (v3 < 30)))) ?_
 refine Q36 ?_
 refine yB p1 (fun p1=>?_) (fun p1=>?_)
 refine Q69 ?_
 have ⟨t16,ht16,p1⟩:=bE p1
 refine q11 S23 ht16 ?_
 refine q46 zBZ ?_
 refine q84 O33 ht16 ?_
 refine q4 yU ?_
 refine q37 ?_
 have ⟨b21,hb21,p1⟩:=bE p1
 refine yH ((zC (lq rfl) rfl).bool (oi hb21)) ?_
 refine q38 (.d (zW eMapping a0)) ?_
 refine q38 (.d (di v3)) ?_
 have ⟨t24,ht24,p1⟩:=bE p1
 refine sqf (.ip (eMapping.all a0) (v3.toNat*eMapping.size)) rfl (fun hb=>by subst hb;exact kM (en:=eMapping) (lq rfl) S23 rfl rfl ht24) ?_
 refine yB1 (.ip (eMapping.all a0) (v3.toNat*eMapping.size+2)) zAX ?_
 refine sqf (.d (ds t24.Tag)) rfl (fun hb=>by subst hb;exact zZ (en:=eMapping) (l:=a0) (i:=v3) (v:=t24) (off:=2) (lq rfl) O9 rfl ht24 rfl) ?_
 refine sqf (.d (di (t24.Tag.length:Int))) rfl (fun hb=>by subst hb;exact zOH (s:=t24.Tag) (lq rfl) Tryz.underlying9 rfl) ?_
 refine q43 (.d (db (decide (40 < (t24.Tag.length:Int))))) ?_
 refine Q37 ?_
 refine yB p1 (fun p1=>?_) (fun p1=>?_)
 refine Q17 ?_
 cases p1
 intro q;cases q
 exact ⟨rfl,wc⟩
 refine Q28 ?_
 cases p1
 exact wc
 refine zG ?_
 cases p1
 intro q;cases q
 exact ⟨rfl,wc⟩
 rintro y1 rfl
 replace h:=eL h
 refine Q2 ?_
 refine q4 S23 ?_
 refine q70 ?_
 refine Q1 ?_
 cases h
 refine zB ?_
 exact zH rfl
 rintro y1 rfl
 replace h:=eR h
 cases h
 exact zH rfl
theorem zP4 {a0 r} (h:zGA a0=some r):zF Tryz.prog 51 [(eSet.dv a0)] [(db r)]:=by
 refine co Tryz.func51 ?_;intro _ _ _ _
 unfold zGA at h
 refine Q91 ?_
 refine Q39 ?_
 refine Q97 ?_
 refine q70 ?_
 refine Q1 ?_
 cases h
 refine zB ?_
 exact zH rfl
theorem zP5 {a0 r} (h:zD2 a0=some r):zF Tryz.prog 22 [(eNorm.dv a0)] [(db r)]:=by
 refine co Tryz.func22 ?_;intro _ _ _ _
 unfold zD2 at h
 refine Q40 ?_
 refine Q39 ?_
 refine q5 zMX ?_
 refine q6 O22 ?_
 have ⟨t5,ht5,h⟩:=bE h
 refine q8 (zP2 ht5) ?_
 have ⟨b6,hb6,h⟩:=bE h
 refine yH ((zC (lq rfl) rfl).bool (oi hb6)) ?_
 refine q54 (.ip (eNorm.cells a0) (0+1)) zU8 ?_
 refine q62 (.d (zW eMapping a0.Decomp)) O23 ?_
 have ⟨t9,ht9,h⟩:=bE h
 refine sqt (.d (db t9)) rfl (fun hb=>by subst hb;exact xV (lq rfl) rfl (zP3 ht9)) ?_
 refine q14 ?_
 have ⟨b11,hb11,h⟩:=bE h
 refine yH ((zC (lq rfl) rfl).bool (oi hb11)) ?_
 refine q54 (.ip (eNorm.cells a0) (0+2)) z4O ?_
 refine sqt (.d (eSet.dv a0.Excluded)) rfl (fun hb=>by subst hb;exact zJ (lq rfl) G26 rfl rfl rfl) ?_
 have ⟨t14,ht14,h⟩:=bE h
 refine sqt (.d (db t14)) rfl (fun hb=>by subst hb;exact xV (lq rfl) rfl (zP4 ht14)) ?_
 refine Q41 ?_
 cases h
 refine zB ?_
 exact zH rfl
theorem zP6 {a0 r} (h:zD3 a0=some r):zF Tryz.prog 23 [(eCollation.dv a0)] [(db r)]:=by
 refine co Tryz.func23 ?_;intro _ _ _ _
 unfold zD3 at h
 refine Q84 ?_
 refine Q53 ?_
 refine z5E ?_
 refine q37 ?_
 have ⟨b8,hb8,h⟩:=bE h
 refine yH ((zC (lq rfl) rfl).bool (oi hb8)) ?_
 refine q25 (.ip (eCollation.cells a0) (0+1)) z4P ?_
 refine q26 (.d (zW eGroup a0.Groups)) O30 ?_
 refine q64 (.d (di (a0.Groups.length:Int))) S30 ?_
 refine q43 (.d (db (decide (8 < (a0.Groups.length:Int))))) ?_
 refine Q37 ?_
 refine yB h (fun h=>?_) (fun h=>?_)
 refine Q3 ?_
 cases h
 refine zB ?_
 exact zH rfl
 refine Q93 ?_
 have ⟨y1,hy1,h⟩:=bE h
 refine zK y1 (.exit 0) (fun y1=>⟨[],[]⟩) .ret (fun y1=>⟨[(2,.d (db y1))],[]⟩) ?_ ?_ ?_
 refine zD (fun x=>⟨[(1,.d (.pt (eCollation.cells a0))),(3,.d (di x))],[]⟩) hy1 (wc) ?_
 rintro v3 sy1 p1
 replace p1:u3 a0 v3=some sy1:=p1
 unfold u3 at p1
 refine Q4 ?_
 refine z5E ?_
 refine Q6 ?_
 refine yB p1 (fun p1=>?_) (fun p1=>?_)
 refine Q29 ?_
 refine Q70 ?_
 refine q0 ?_
 have ⟨t24,ht24,p1⟩:=bE p1
 refine q11 S29 ht24 ?_
 refine q46 zFP ?_
 refine yEQ O33 ht24 ?_
 refine q4 yU ?_
 refine q37 ?_
 have ⟨b29,hb29,p1⟩:=bE p1
 refine yH ((zC (lq rfl) rfl).bool (oi hb29)) ?_
 refine q25 (.ip (eCollation.cells a0) (0+0)) zU9 ?_
 refine q26 (.d (zW eEntry a0.Entries)) O29 ?_
 refine q38 (.d (di v3)) ?_
 have ⟨t33,ht33,p1⟩:=bE p1
 refine sqf (.ip (eEntry.all a0.Entries) (v3.toNat*eEntry.size)) rfl (fun hb=>by subst hb;exact kM (en:=eEntry) (lq rfl) S29 rfl rfl ht33) ?_
 refine yB1 (.ip (eEntry.all a0.Entries) (v3.toNat*eEntry.size+1)) zJO ?_
 refine sqf (.d (zW eElement t33.Elements)) rfl (fun hb=>by subst hb;exact zZ (en:=eEntry) (l:=a0.Entries) (i:=v3) (v:=t33) (off:=1) (lq rfl) O39 rfl ht33 rfl) ?_
 refine q64 (.d (di (t33.Elements.length:Int))) S39 ?_
 refine q43 (.d (db (decide (20 < (t33.Elements.length:Int))))) ?_
 refine Q37 ?_
 refine yB p1 (fun p1=>?_) (fun p1=>?_)
 refine Q17 ?_
 cases p1
 intro q;cases q
 exact ⟨rfl,wc⟩
 refine Q28 ?_
 cases p1
 exact wc
 refine zG ?_
 cases p1
 intro q;cases q
 exact ⟨rfl,wc⟩
 rintro y1 rfl
 replace h:=eL h
 refine Q3 ?_
 cases h
 refine zB ?_
 exact zH rfl
 rintro y1 rfl
 replace h:=eR h
 cases h
 exact zH rfl
theorem zVL {a0 r} (h:zGS a0=some r):zF Tryz.prog 6 [(eUnicodetextlaw43_Case.dv a0)] [(db r)]:=by
 refine co Tryz.func6 ?_;intro _ _ _ _
 unfold zGS at h
 refine Q0 ?_
 refine yH (zKQ (size:=9) (lq rfl) rfl rfl) ?_
 refine Q39 ?_
 refine q5 zRJ ?_
 refine q96 G28 ?_
 have ⟨t5,ht5,h⟩:=bE h
 refine q8 (zP5 ht5) ?_
 have ⟨b6,hb6,h⟩:=bE h
 refine yH ((zC (lq rfl) rfl).bool (oi hb6)) ?_
 refine q54 (.ip (eUnicodetextlaw43_Case.cells a0) (0+3)) zVA ?_
 refine sqt (.d (eCollation.dv a0.C)) rfl (fun hb=>by subst hb;exact zJ (lq rfl) G32 rfl rfl rfl) ?_
 have ⟨t9,ht9,h⟩:=bE h
 refine sqt (.d (db t9)) rfl (fun hb=>by subst hb;exact xV (lq rfl) rfl (zP6 ht9)) ?_
 refine q14 ?_
 have ⟨b11,hb11,h⟩:=bE h
 refine yH ((zC (lq rfl) rfl).bool (oi hb11)) ?_
 refine q54 (.ip (eUnicodetextlaw43_Case.cells a0) (0+8)) z4S ?_
 refine q62 (.d (zW eI a0.Text)) O33 ?_
 refine z1L (.d (di (a0.Text.length:Int))) yU ?_
 refine q55 (.d (db (decide ((a0.Text.length:Int)≤12)))) ?_
 refine Q41 ?_
 cases h
 refine zB ?_
 exact zH rfl
theorem zC4 {a0 r:(List Int)} (h:xC a0=some r):GC Tryz.prog 52 [.d (zW eI a0)] [] [] [.row 5] [(5,.row 3 eI.size false (eI.all r))]:=by
 unfold xC at h
 cases a0 with
 | nil=>
  refine zUW (by decide) fun B c=>?_
  refine zCJ Tryz.func52 (by kernel_rfl) rfl (lq rfl) (lq rfl) fun w0 I0 hG0 p0=>?_
  refine Q47 ?_
  refine yH (zRC (lq rfl) Tryz.underlying33 rfl) ?_
  refine zL ?_
  refine zOE rfl ⟨fun c1=>?_,fun c1=>?_⟩
  obtain ⟨rfl,_⟩:=zKS h
  refine Q3 ?_
  refine zV (zCT (t:=2) 5 3 eI.size (lq rfl) (lq rfl) rfl rfl) ?_
  refine zB ?_
  exact ⟨⟨_,_,rfl,rfl,rfl⟩,rfl,trivial⟩
  refine zP ?_
  refine Q0 ?_
  refine q85 yU ?_
  refine q0 ?_
  refine zIT (zKX (t:=6) eI.size (lq rfl) rfl) ?_ (by simp)
  refine kP rfl (jU (en:=eI) (l:=[]) (m:=[]) (lq rfl) yU rfl rfl rfl h (by decide) (by decide) rfl rfl) ?_
  refine Q13 ?_
  refine zB ?_
  exact ⟨⟨_,_,rfl,rfl,rfl⟩,rfl,trivial⟩
 | cons x l=>
  refine zCJ Tryz.func52 (by kernel_rfl) rfl (lq rfl) (lq rfl) fun w0 I0 hG0 p0=>?_
  refine Q47 ?_
  refine yH (zYV (lq rfl) Tryz.underlying33 rfl (z4B (by decide))) ?_
  refine zL ?_
  refine zOE rfl ⟨fun c1=>(by cases c1),fun c1=>?_⟩
  refine Q50 ?_
  refine q85 yU ?_
  refine q0 ?_
  refine kP rfl (jU (en:=eI) (l:=[]) (m:=x::l) (lq rfl) yU rfl rfl rfl h (by decide) (by decide) rfl rfl) ?_
  refine Q13 ?_
  refine zB ?_
  exact ⟨⟨_,_,rfl,rfl,rfl⟩,rfl,trivial⟩
theorem zEE {a0 r} (h:vT a0=some r):zF Tryz.prog 54 [(di a0)] [(db r)]:=by
 refine co Tryz.func54 ?_;intro _ _ _ _
 unfold vT at h
 refine Q59 ?_
 refine q44 ?_
 have ⟨b5,hb5,h⟩:=bE h
 refine yH ((zC (lq rfl) rfl).bool (oi hb5)) ?_
 refine q13 (.d (di a0)) ?_
 refine q55 (.d (db (decide (a0≤65535)))) ?_
 refine Q41 ?_
 cases h
 refine zB ?_
 exact zH rfl
theorem zJ4 {a0 r} (h:u5 a0=some r):zF Tryz.prog 84 [(ds a0)] [(db r)]:=by
 refine co Tryz.func84 ?_;intro _ _ _ _
 unfold u5 at h
 refine Q47 ?_
 refine z8A Tryz.underlying9 ?_
 refine Q30 ?_
 have ⟨y1,hy1,h⟩:=bE h
 refine zK y1 (.exit 0) (fun y1=>⟨[(0,.d (ds a0))],[]⟩) .ret (fun y1=>⟨[(2,.d (db y1))],[]⟩) ?_ ?_ ?_
 refine zD (fun x=>⟨[(0,.d (ds a0)),(6,.d (di (a0.length:Int))),(7,.d (di x))],[]⟩) hy1 (wc) ?_
 rintro v7 sy1 p1
 replace p1:jV a0 v7=some sy1:=p1
 unfold jV at p1
 refine Q22 ?_
 refine yB p1 (fun p1=>?_) (fun p1=>?_)
 refine Q8 ?_
 refine Q35 ?_
 refine Q15 ?_
 have ⟨t12,ht12,p1⟩:=bE p1
 refine z8B Tryz.underlying9 ht12 ?_
 refine Q19 ?_
 refine q44 ?_
 have ⟨b15,hb15,p1⟩:=bE p1
 refine yH ((zC (lq rfl) rfl).bool (oi hb15)) ?_
 refine q13 (.d (dby t12)) ?_
 refine q55 (.d (db (decide (t12≤90)))) ?_
 refine q14 ?_
 have ⟨b19,hb19,p1⟩:=bE p1
 refine yH ((zC (lq rfl) rfl).bool (oi hb19)) ?_
 refine q38 (.d (dby t12)) ?_
 refine zXQ (.d (db (decide (97≤t12)))) ?_
 have ⟨b22,hb22,p1⟩:=bE p1
 refine sqf (.d (db b22)) rfl (fun hb=>by subst hb;exact (zC (lq rfl) rfl).bool (oi hb22)) ?_
 refine jR (x:= .d (dby t12)) rfl rfl rfl (lq rfl) (lq rfl) rfl (fun hb=>by obtain ⟨hb,hb1⟩:=zI hb;obtain rfl:=gF hb;obtain rfl:b22=true:=hb1;exact zC (lq rfl) rfl) ?_
 refine jR (x:= .d (db (decide (t12≤122)))) rfl rfl rfl (lq rfl) (lq rfl) rfl (fun hb=>by obtain ⟨hb,hb1⟩:=zI hb;obtain rfl:=gF hb;obtain rfl:b22=true:=hb1;exact zGP (lq rfl) rfl rfl) ?_
 refine q86 (.d (db (b22&&(decide (t12≤122))))) ?_
 refine q18 ?_
 have ⟨b27,hb27,p1⟩:=bE p1
 refine yH ((zC (lq rfl) rfl).bool (oi hb27)) ?_
 refine q38 (.d (dby t12)) ?_
 refine zXQ (.d (db (decide (48≤t12)))) ?_
 have ⟨b30,hb30,p1⟩:=bE p1
 refine sqf (.d (db b30)) rfl (fun hb=>by subst hb;exact (zC (lq rfl) rfl).bool (oi hb30)) ?_
 refine jR (x:= .d (dby t12)) rfl rfl rfl (lq rfl) (lq rfl) rfl (fun hb=>by obtain ⟨hb,hb1⟩:=zI hb;obtain rfl:=gF hb;obtain rfl:b30=true:=hb1;exact zC (lq rfl) rfl) ?_
 refine jR (x:= .d (db (decide (t12≤57)))) rfl rfl rfl (lq rfl) (lq rfl) rfl (fun hb=>by obtain ⟨hb,hb1⟩:=zI hb;obtain rfl:=gF hb;obtain rfl:b30=true:=hb1;exact zGP (lq rfl) rfl rfl) ?_
 refine q86 (.d (db (b30&&(decide (t12≤57))))) ?_
 refine q18 ?_
 have ⟨b35,hb35,p1⟩:=bE p1
 refine yH ((zC (lq rfl) rfl).bool (oi hb35)) ?_
 refine q38 (.d (dby t12)) ?_
 refine zXR (.d (db (decide (t12=95)))) ?_
 refine q18 ?_
 refine Q42 ?_
 refine yB p1 (fun p1=>?_) (fun p1=>?_)
 refine Q17 ?_
 cases p1
 intro q;cases q
 exact ⟨rfl,wc⟩
 refine Q57 ?_
 cases p1
 exact wc
 refine zG ?_
 cases p1
 intro q;cases q
 exact ⟨rfl,wc⟩
 rintro y1 rfl
 replace h:=eL h
 refine Q2 ?_
 refine z1M ?_
 have ⟨b43,hb43,h⟩:=bE h
 refine yH ((zC (lq rfl) rfl).bool (oi hb43)) ?_
 refine q13 (.d (ds a0)) ?_
 refine sqt (.d (di (a0.length:Int))) rfl (fun hb=>by subst hb;exact zOH (s:=a0) (lq rfl) Tryz.underlying9 rfl) ?_
 refine q55 (.d (db (decide ((a0.length:Int)≤32)))) ?_
 refine Q41 ?_
 cases h
 refine zB ?_
 exact zH rfl
 rintro y1 rfl
 replace h:=eR h
 cases h
 exact zH rfl
theorem zGX {a0 r} (h:xT a0=some r):zF Tryz.prog 55 [(eCollation.dv a0)] [(di r)]:=by
 refine co Tryz.func55 ?_;intro _ _ _ _
 unfold xT at h
 refine Q84 ?_
 refine Q53 ?_
 refine z5F ?_
 refine q4 S30 ?_
 refine Q30 ?_
 have ⟨y1,hy1,h⟩:=bE h
 refine zK y1 (.exit 0) (fun y1=>⟨[(1,.d (.pt (eCollation.cells a0)))],[]⟩) .ret (fun y1=>⟨[(2,.d (di y1))],[]⟩) ?_ ?_ ?_
 refine zD (fun x=>⟨[(1,.d (.pt (eCollation.cells a0))),(13,.d (zW eGroup a0.Groups)),(14,.d (di (a0.Groups.length:Int))),(15,.d (di x))],[]⟩) hy1 (wc) ?_
 rintro v15 sy1 p1
 replace p1:jH a0 v15=some sy1:=p1
 unfold jH at p1
 refine Q22 ?_
 refine yB p1 (fun p1=>?_) (fun p1=>?_)
 refine Q29 ?_
 have ⟨t17,ht17,p1⟩:=bE p1
 refine q11 S30 ht17 ?_
 refine z8C zU6 ht17 ?_
 refine z8D ?_
 refine q16 zU6 ?_
 refine zL ?_
 refine zV (zY (t:=4) (lq rfl) rfl rfl rfl) ?_
 refine Q0 ?_
 refine q5 zL5 ?_
 refine q6 O9 ?_
 have ⟨t21,ht21,p1⟩:=bE p1
 refine q8 (zJ4 ht21) ?_
 refine Q42 ?_
 refine yB p1 (fun p1=>?_) (fun p1=>?_)
 refine Q17 ?_
 cases p1
 intro q;cases q
 exact ⟨rfl,wc⟩
 refine Q57 ?_
 cases p1
 exact wc
 refine zG ?_
 cases p1
 intro q;cases q
 exact ⟨rfl,wc⟩
 rintro y1 rfl
 replace h:=eL h
 refine Q0 ?_
 refine z4Y ?_
 refine Q13 ?_
 refine Q31 ?_
 refine z5F ?_
 refine q4 S30 ?_
 refine Q30 ?_
 have ⟨y2,hy2,h⟩:=bE h
 refine zK y2 (.exit 2) (fun y2=>⟨[(1,.d (.pt (eCollation.cells a0)))],[]⟩) .ret (fun y2=>⟨[(2,.d (di y2))],[]⟩) ?_ ?_ ?_
 refine zD (fun x=>⟨[(1,.d (.pt (eCollation.cells a0))),(5,.row 24),(26,.d (zW eGroup a0.Groups)),(27,.d (di (a0.Groups.length:Int))),(28,.d (di x.1))],[(24,.map (wS kS eB x.2))]⟩) hy2 (wc) ?_
 rintro ⟨v28,r24⟩ sy2 p2
 replace p2:k5 a0 v28 r24=some sy2:=p2
 unfold k5 at p2
 refine Q22 ?_
 refine yB p2 (fun p2=>?_) (fun p2=>?_)
 refine Q29 ?_
 have ⟨t30,ht30,p2⟩:=bE p2
 refine q11 S30 ht30 ?_
 refine z8C zU6 ht30 ?_
 refine z8D ?_
 refine q16 zU6 ?_
 refine zL ?_
 refine zV (zY (t:=7) (lq rfl) rfl rfl rfl) ?_
 refine Q31 ?_
 refine q10 ?_
 refine q5 zL5 ?_
 refine q6 O9 ?_
 refine yH (z31 (kv:=kS) (ev:=eB) (mp:=r24) (k:=t30.Name) (zero:=false) (lq rfl) yEA K9 rfl rfl rfl (fun _ _=> .v _)) ?_
 refine zL ?_
 refine yB p2 (fun p2=>?_) (fun p2=>?_)
 refine Q17 ?_
 cases p2
 intro q;cases q
 exact ⟨rfl,wc⟩
 refine zP<|Q64 ?_
 refine q5 zL5 ?_
 refine q6 O9 ?_
 refine z8E yEA K9 ?_
 refine zL<|Q24 ?_
 cases p2
 exact wc
 refine zG ?_
 cases p2
 intro q;cases q
 exact ⟨rfl,wc⟩
 rintro y2 rfl
 replace h:=eL h
 refine Q31 ?_
 refine z5F ?_
 refine q4 S30 ?_
 refine Q30 ?_
 have ⟨y3,hy3,h⟩:=bE h
 refine zK y3 (.exit 4) (fun y3=>⟨[(1,.d (.pt (eCollation.cells a0)))],[]⟩) .ret (fun y3=>⟨[(2,.d (di y3))],[]⟩) ?_ ?_ ?_
 refine zD (fun x=>⟨[(1,.d (.pt (eCollation.cells a0))),(41,.d (zW eGroup a0.Groups)),(42,.d (di (a0.Groups.length:Int))),(43,.d (di x))],[]⟩) hy3 (wc) ?_
 rintro v43 sy3 p3
 replace p3:jI a0 v43=some sy3:=p3
 unfold jI at p3
 refine Q22 ?_
 refine yB p3 (fun p3=>?_) (fun p3=>?_)
 refine Q29 ?_
 have ⟨t45,ht45,p3⟩:=bE p3
 refine q11 S30 ht45 ?_
 refine z8C zU6 ht45 ?_
 refine z8D ?_
 refine q16 zU6 ?_
 refine zL ?_
 refine zV (zY (t:=9) (lq rfl) rfl rfl rfl) ?_
 refine Q0 ?_
 refine q5 zL6 ?_
 refine z8U ?_
 have ⟨b50,hb50,p3⟩:=bE p3
 refine yH ((zC (lq rfl) rfl).bool (oi hb50)) ?_
 refine q25 (.ip (eGroup.cells t45) (0+2)) zL7 ?_
 refine q26 (.d (di t45.Hi)) O3 ?_
 refine q25 (.ip (eGroup.cells t45) (0+1)) zL6 ?_
 refine q26 (.d (di t45.Lo)) O3 ?_
 refine sqf (.d (db (decide (t45.Hi < t45.Lo)))) rfl (fun hb=>by subst hb;exact zKJ (lq rfl) rfl rfl) ?_
 refine q18 ?_
 have ⟨b57,hb57,p3⟩:=bE p3
 refine yH ((zC (lq rfl) rfl).bool (oi hb57)) ?_
 refine q25 (.ip (eGroup.cells t45) (0+2)) zL7 ?_
 refine q26 (.d (di t45.Hi)) O3 ?_
 refine q25 (.ip (eCollation.cells a0) (0+2)) zK3 ?_
 refine q26 (.d (di a0.Base)) O3 ?_
 refine zXQ (.d (db (decide (a0.Base≤t45.Hi)))) ?_
 refine Q37 ?_
 refine yB p3 (fun p3=>?_) (fun p3=>?_)
 refine Q17 ?_
 cases p3
 intro q;cases q
 exact ⟨rfl,wc⟩
 refine Q57 ?_
 cases p3
 exact wc
 refine zG ?_
 cases p3
 intro q;cases q
 exact ⟨rfl,wc⟩
 rintro y3 rfl
 replace h:=eL h
 refine Q31 ?_
 refine z5F ?_
 refine q4 S30 ?_
 refine Q30 ?_
 have ⟨y4,hy4,h⟩:=bE h
 refine zK y4 (.exit 6) (fun y4=>⟨[],[]⟩) .ret (fun y4=>⟨[(2,.d (di y4))],[]⟩) ?_ ?_ ?_
 refine zD (fun x=>⟨[(1,.d (.pt (eCollation.cells a0))),(66,.d (zW eGroup a0.Groups)),(67,.d (di (a0.Groups.length:Int))),(68,.d (di x))],[]⟩) hy4 (wc) ?_
 rintro v68 sy4 p4
 replace p4:jJ a0 v68=some sy4:=p4
 unfold jJ at p4
 refine Q22 ?_
 refine yB p4 (fun p4=>?_) (fun p4=>?_)
 refine Q8 ?_
 refine Q2 ?_
 have ⟨t71,ht71,p4⟩:=bE p4
 refine q11 S30 ht71 ?_
 refine z8C zU6 ht71 ?_
 refine z8D ?_
 refine q1 ?_
 refine q16 zU6 ?_
 refine zL ?_
 refine zV (zY (t:=11) (lq rfl) rfl rfl rfl) ?_
 refine kL ?_
 refine z7 MX rfl ?_
 refine q7 ?_
 refine zXS ?_
 have ⟨b75,hb75,p4⟩:=bE p4
 refine vB ((zC (lq rfl) rfl).bool (oi hb75)) ?_
 refine q97 (.ip (eGroup.cells t71) (0+1)) zL6 ?_
 refine q98 (.d (di t71.Lo)) O3 ?_
 refine q97 (.ip (eCollation.cells a0) (0+1)) z4P ?_
 refine q98 (.d (zW eGroup a0.Groups)) O30 ?_
 refine q59 (.d (di v68)) ?_
 refine z1N (.d (di (wi (v68 - 1)))) ?_
 have ⟨t82,ht82,p4⟩:=bE p4
 refine dat (.ip (eGroup.all a0.Groups) ((wi (v68 - 1)).toNat*eGroup.size)) rfl (fun hb=>by subst hb;exact kM (en:=eGroup) (lq rfl) S30 rfl rfl ht82) ?_
 refine q99 (.ip (eGroup.all a0.Groups) ((wi (v68 - 1)).toNat*eGroup.size+2)) zL7 ?_
 refine dat (.d (di t82.Hi)) rfl (fun hb=>by subst hb;exact zZ (en:=eGroup) (l:=a0.Groups) (i:=(wi (v68 - 1))) (v:=t82) (off:=2) (lq rfl) O3 rfl ht82 rfl) ?_
 refine dat (.d (di (wi (t82.Hi+1)))) rfl (fun hb=>by subst hb;exact zQ6 (lq rfl) rfl rfl) ?_
 refine dat (.d (db (!decide (t71.Lo=(wi (t82.Hi+1)))))) rfl (fun hb=>by subst hb;exact zMQ (lq rfl) rfl rfl) ?_
 refine Q98 ?_
 refine yB p4 (fun p4=>?_) (fun p4=>?_)
 refine Q17 ?_
 cases p4
 intro q;cases q
 exact ⟨rfl,wc⟩
 refine Q57 ?_
 cases p4
 exact wc
 refine zG ?_
 cases p4
 intro q;cases q
 exact ⟨rfl,wc⟩
 rintro y4 rfl
 replace h:=eL h
 refine Q3 ?_
 cases h
 refine zB ?_
 exact zH rfl
 rintro y4 rfl
 replace h:=eR h
 cases h
 exact zH rfl
 rintro y3 rfl
 replace h:=eR h
 cases h
 exact zH rfl
 rintro y2 rfl
 replace h:=eR h
 cases h
 exact zH rfl
 rintro y1 rfl
 replace h:=eR h
 cases h
 exact zH rfl
theorem zBH {a0 r} (h:w9 a0=some r):zF Tryz.prog 85 [(di a0)] [(db r)]:=by
 refine co Tryz.func85 ?_;intro _ _ _ _
 unfold w9 at h
 refine Q59 ?_
 refine q44 ?_
 have ⟨b5,hb5,h⟩:=bE h
 refine yH ((zC (lq rfl) rfl).bool (oi hb5)) ?_
 refine q13 (.d (di a0)) ?_
 refine q55 (.d (db (decide (a0≤1114111)))) ?_
 refine Q41 ?_
 cases h
 refine zB ?_
 exact zH rfl
theorem zM9 {a0 r} (h:zB4 a0=some r):zF Tryz.prog 86 [(eElement.dv a0)] [(di r)]:=by
 refine co Tryz.func86 ?_;intro _ _ _ _
 unfold zB4 at h
 refine yEX ?_
 refine Q53 ?_
 refine Q85 ?_
 refine q5 zRK ?_
 refine q6 O3 ?_
 refine q5 zRL ?_
 refine q6 O3 ?_
 refine q78 zL4 ?_
 refine Q30 ?_
 have ⟨y1,hy1,h⟩:=bE h
 refine zK y1 (.exit 0) (fun y1=>⟨[(1,.d (.pt (eElement.cells a0)))],[]⟩) .ret (fun y1=>⟨[(2,.d (di y1))],[]⟩) ?_ ?_ ?_
 refine zD (fun x=>⟨[(1,.d (.pt (eElement.cells a0))),(11,.d (eA3Int.dv ({x0:=a0.Primary,x1:=a0.Secondary,x2:=a0.Tertiary}:A3Int))),(12,.d (di x))],[]⟩) hy1 (wc) ?_
 rintro v12 sy1 p1
 replace p1:vI a0 v12=some sy1:=p1
 unfold vI at p1
 refine Q22 ?_
 refine yB p1 (fun p1=>?_) (fun p1=>?_)
 refine Q29 ?_
 have ⟨t14,ht14,p1⟩:=bE p1
 refine yH (z35 (en:=eI) (l:=[({x0:=a0.Primary,x1:=a0.Secondary,x2:=a0.Tertiary}:A3Int).x0,({x0:=a0.Primary,x1:=a0.Secondary,x2:=a0.Tertiary}:A3Int).x1,({x0:=a0.Primary,x1:=a0.Secondary,x2:=a0.Tertiary}:A3Int).x2]) (lq rfl) zL4 O3 (fun _=>rfl) rfl rfl rfl ht14) ?_
 refine Q19 ?_
 refine q3 ?_
 have ⟨b17,hb17,p1⟩:=bE p1
 refine yH ((zC (lq rfl) rfl).bool (oi hb17)) ?_
 refine q38 (.d (di t14)) ?_
 refine q43 (.d (db (decide (65535 < t14)))) ?_
 refine Q37 ?_
 refine yB p1 (fun p1=>?_) (fun p1=>?_)
 refine Q17 ?_
 cases p1
 intro q;cases q
 exact ⟨rfl,wc⟩
 refine Q57 ?_
 cases p1
 exact wc
 refine zG ?_
 cases p1
 intro q;cases q
 exact ⟨rfl,wc⟩
 rintro y1 rfl
 replace h:=eL h
 refine kL<|zXY ?_
 refine Q85 ?_
 refine q29 ?_
 have ⟨b26,hb26,h⟩:=bE h
 refine yH ((zC (lq rfl) rfl).bool (oi hb26)) ?_
 refine q54 (.ip (eElement.cells a0) (0+1)) zRK ?_
 refine q62 (.d (di a0.Secondary)) O3 ?_
 refine q79 (.d (db (decide (a0.Secondary=0)))) ?_
 have ⟨b30,hb30,h⟩:=bE h
 refine sqt (.d (db b30)) rfl (fun hb=>by subst hb;exact (zC (lq rfl) rfl).bool (oi hb30)) ?_
 refine jR (x:= .ip (eElement.cells a0) (0+2)) rfl rfl rfl (lq rfl) (lq rfl) rfl (fun hb=>by obtain ⟨hb,hb1⟩:=zI hb;obtain rfl:b26=true:=hb;obtain rfl:=gF hb1;exact xM (lq rfl) zRL rfl) ?_
 refine jR (x:= .d (di a0.Tertiary)) rfl rfl rfl (lq rfl) (lq rfl) rfl (fun hb=>by obtain ⟨hb,hb1⟩:=zI hb;obtain rfl:b26=true:=hb;obtain rfl:=gF hb1;exact kD (lq rfl) O3 rfl rfl) ?_
 refine jR (x:= .d (db (decide (a0.Tertiary=0)))) rfl rfl rfl (lq rfl) (lq rfl) rfl (fun hb=>by obtain ⟨hb,hb1⟩:=zI hb;obtain rfl:b26=true:=hb;obtain rfl:=gF hb1;exact zGQ (lq rfl) rfl rfl) ?_
 refine z8F (.d (db (b30 ||(decide (a0.Tertiary=0))))) ?_
 refine Q41 ?_
 refine yB h (fun h=>?_) (fun h=>?_)
 refine Q3 ?_
 cases h
 refine zB ?_
 exact zH rfl
 refine Q0 ?_
 refine q5 zRK ?_
 refine q6 O3 ?_
 refine q29 ?_
 have ⟨b40,hb40,h⟩:=bE h
 refine yH ((zC (lq rfl) rfl).bool (oi hb40)) ?_
 refine q54 (.ip (eElement.cells a0) (0+2)) zRL ?_
 refine q62 (.d (di a0.Tertiary)) O3 ?_
 refine q79 (.d (db (decide (a0.Tertiary=0)))) ?_
 refine Q41 ?_
 refine yB h (fun h=>?_) (fun h=>?_)
 refine Q3 ?_
 cases h
 refine zB ?_
 exact zH rfl
 refine Q0 ?_
 refine q5 yAB ?_
 refine q6 O4 ?_
 have ⟨b48,hb48,h⟩:=bE h
 refine yH ((zC (lq rfl) rfl).bool (oi hb48)) ?_
 refine q54 (.ip (eElement.cells a0) (0+0)) zY4 ?_
 refine q62 (.d (di a0.Primary)) O3 ?_
 refine q79 (.d (db (decide (a0.Primary=0)))) ?_
 refine Q41 ?_
 refine yB h (fun h=>?_) (fun h=>?_)
 refine Q3 ?_
 cases h
 refine zB ?_
 exact zH rfl
 refine Q58 ?_
 cases h
 refine zB ?_
 exact zH rfl
 rintro y1 rfl
 replace h:=eR h
 cases h
 exact zH rfl
theorem zHI {a0 a1 r} (h:wL a0 a1=some r):zF Tryz.prog 56 [(eEntry.dv a0),(di a1)] [(di r)]:=by
 refine co Tryz.func56 ?_;intro _ _ _ _
 unfold wL at h
 refine Q0 ?_
 refine yH (zKQ (size:=2) (lq rfl) rfl rfl) ?_
 refine Q53 ?_
 refine q5 zFP ?_
 refine q6 O33 ?_
 refine q4 yU ?_
 refine q3 ?_
 have ⟨b16,hb16,h⟩:=bE h
 refine yH ((zC (lq rfl) rfl).bool (oi hb16)) ?_
 refine q25 (.ip (eEntry.cells a0) (0+0)) zFP ?_
 refine q26 (.d (zW eI a0.Codes)) O33 ?_
 refine q64 (.d (di (a0.Codes.length:Int))) yU ?_
 refine q43 (.d (db (decide (8 < (a0.Codes.length:Int))))) ?_
 refine q18 ?_
 have ⟨b22,hb22,h⟩:=bE h
 refine yH ((zC (lq rfl) rfl).bool (oi hb22)) ?_
 refine q25 (.ip (eEntry.cells a0) (0+1)) zJO ?_
 refine q26 (.d (zW eElement a0.Elements)) O39 ?_
 refine q64 (.d (di (a0.Elements.length:Int))) S39 ?_
 refine q43 (.d (db (decide (16 < (a0.Elements.length:Int))))) ?_
 refine Q37 ?_
 refine yB h (fun h=>?_) (fun h=>?_)
 refine Q3 ?_
 cases h
 refine zB ?_
 exact zH rfl
 refine Q71 ?_
 refine q5 zFP ?_
 refine q6 O33 ?_
 refine Q94 ?_
 have ⟨y1,hy1,h⟩:=bE h
 refine zK y1 (.exit 0) (fun y1=>⟨[(1,.d (di a1)),(2,.d (.pt (eEntry.cells a0)))],[]⟩) .ret (fun y1=>⟨[(4,.d (di y1))],[]⟩) ?_ ?_ ?_
 refine zD (fun x=>⟨[(1,.d (di a1)),(2,.d (.pt (eEntry.cells a0))),(29,.d (zW eI a0.Codes)),(30,.d (di (a0.Codes.length:Int))),(31,.d (di x))],[]⟩) hy1 (wc) ?_
 rintro v31 sy1 p1
 replace p1:k7 a0 v31=some sy1:=p1
 unfold k7 at p1
 refine Q22 ?_
 refine yB p1 (fun p1=>?_) (fun p1=>?_)
 refine Q29 ?_
 have ⟨t33,ht33,p1⟩:=bE p1
 refine q11 yU ht33 ?_
 refine q35 O3 ht33 ?_
 refine Q19 ?_
 have ⟨t36,ht36,p1⟩:=bE p1
 refine q8 (zBH ht36) ?_
 refine Q42 ?_
 refine yB p1 (fun p1=>?_) (fun p1=>?_)
 refine Q17 ?_
 cases p1
 intro q;cases q
 exact ⟨rfl,wc⟩
 refine Q57 ?_
 cases p1
 exact wc
 refine zG ?_
 cases p1
 intro q;cases q
 exact ⟨rfl,wc⟩
 rintro y1 rfl
 replace h:=eL h
 refine Q31 ?_
 refine q5 zJO ?_
 refine q6 O39 ?_
 refine q4 S39 ?_
 refine Q30 ?_
 have ⟨y2,hy2,h⟩:=bE h
 refine zK y2 (.exit 2) (fun y2=>⟨[(1,.d (di a1)),(2,.d (.pt (eEntry.cells a0)))],[]⟩) .ret (fun y2=>⟨[(4,.d (di y2))],[]⟩) ?_ ?_ ?_
 refine zD (fun x=>⟨[(1,.d (di a1)),(2,.d (.pt (eEntry.cells a0))),(40,.d (zW eElement a0.Elements)),(41,.d (di (a0.Elements.length:Int))),(42,.d (di x))],[]⟩) hy2 (wc) ?_
 rintro v42 sy2 p2
 replace p2:jP a0 v42=some sy2:=p2
 unfold jP at p2
 refine Q22 ?_
 refine yB p2 (fun p2=>?_) (fun p2=>?_)
 refine Q29 ?_
 have ⟨t44,ht44,p2⟩:=bE p2
 refine q11 S39 ht44 ?_
 refine yB2 G64 ht44 ?_
 refine yER ?_
 refine q16 G64 ?_
 refine zL ?_
 refine zV (zY (t:=8) (lq rfl) rfl rfl rfl) ?_
 refine Q0 ?_
 refine q21 G64 ?_
 have ⟨t47,ht47,p2⟩:=bE p2
 refine q8 (zM9 ht47) ?_
 refine Q62 ?_
 refine yB p2 (fun p2=>?_) (fun p2=>?_)
 refine Q35 ?_
 refine zB ?_
 cases p2
 intro q;cases q
 exact ⟨rfl,wc⟩
 refine Q57 ?_
 cases p2
 exact wc
 refine zG ?_
 cases p2
 intro q;cases q
 exact ⟨rfl,wc⟩
 rintro y2 rfl
 replace h:=eL h
 refine Q31 ?_
 refine q5 zJO ?_
 refine q6 O39 ?_
 refine q4 S39 ?_
 refine Q30 ?_
 have ⟨y3,hy3,h⟩:=bE h
 refine zK y3 (.exit 4) (fun y3=>⟨[],[]⟩) .ret (fun y3=>⟨[(4,.d (di y3))],[]⟩) ?_ ?_ ?_
 refine zD (fun x=>⟨[(1,.d (di a1)),(53,.d (zW eElement a0.Elements)),(54,.d (di (a0.Elements.length:Int))),(55,.d (di x))],[]⟩) hy3 (wc) ?_
 rintro v55 sy3 p3
 replace p3:k8 a0 a1 v55=some sy3:=p3
 unfold k8 at p3
 refine Q22 ?_
 refine yB p3 (fun p3=>?_) (fun p3=>?_)
 refine Q29 ?_
 have ⟨t57,ht57,p3⟩:=bE p3
 refine q11 S39 ht57 ?_
 refine yB2 G64 ht57 ?_
 refine yER ?_
 refine q16 G64 ?_
 refine zL ?_
 refine zV (zY (t:=11) (lq rfl) rfl rfl rfl) ?_
 refine Q0 ?_
 refine Q85 ?_
 refine q0 ?_
 refine Q99 ?_
 refine yB p3 (fun p3=>?_) (fun p3=>?_)
 refine Q17 ?_
 cases p3
 intro q;cases q
 exact ⟨rfl,wc⟩
 refine Q57 ?_
 cases p3
 exact wc
 refine zG ?_
 cases p3
 intro q;cases q
 exact ⟨rfl,wc⟩
 rintro y3 rfl
 replace h:=eL h
 refine Q3 ?_
 cases h
 refine zB ?_
 exact zH rfl
 rintro y3 rfl
 replace h:=eR h
 cases h
 exact zH rfl
 rintro y2 rfl
 replace h:=eR h
 cases h
 exact zH rfl
 rintro y1 rfl
 replace h:=eR h
 cases h
 exact zH rfl
theorem zHQ {a0 r} (h:zB5 a0=some r):zF Tryz.prog 116 [(di a0)] [(db r)]:=by
 refine co Tryz.func116 ?_;intro _ _ _ _
 unfold zB5 at h
 refine Q3 ?_
 refine Q15 ?_
 refine q29 ?_
 refine Q1 ?_
 cases h
 refine zB ?_
 exact zH rfl
theorem xL {a0 a1 r} (h:jF a0 a1=some r):zF Tryz.prog 87 [(di a0),(di a1)] [(di r)]:=by
 refine co Tryz.func87 ?_;intro _ _ _ _
 unfold jF at h
 refine Q59 ?_
 have ⟨t8,ht8,h⟩:=bE h
 refine q8 (zHQ ht8) ?_
 refine Q19 ?_
 have ⟨t10,ht10,h⟩:=bE h
 refine q8 (zHQ ht10) ?_
 refine Q1 ?_
 refine z16 ?_
 refine yB h (fun h=>?_) (fun h=>?_)
 refine z16 ?_
 refine yB h (fun h=>?_) (fun h=>?_)
 refine Q3 ?_
 cases h
 refine zB ?_
 exact zH rfl
 refine Q58 ?_
 cases h
 refine zB ?_
 exact zH rfl
 refine Q95 ?_
 refine zL ?_
 refine yB h (fun h=>?_) (fun h=>?_)
 refine Q3 ?_
 cases h
 refine zB ?_
 exact zH rfl
 refine zP<|Q72 ?_
 refine yB h (fun h=>?_) (fun h=>?_)
 refine Q3 ?_
 cases h
 refine zB ?_
 exact zH rfl
 refine zP<|Q12 ?_
 refine Q54 ?_
 refine yB h (fun h=>?_) (fun h=>?_)
 refine Q3 ?_
 cases h
 refine zB ?_
 exact zH rfl
 refine Q58 ?_
 cases h
 refine zB ?_
 exact zH rfl
theorem zJF {a0 a1 r} (h:uM a0 a1=some r):zF Tryz.prog 57 [(zW eI a0),(zW eI a1)] [(di r)]:=by
 refine co Tryz.func57 ?_;intro _ _ _ _
 unfold uM at h
 refine Q47 ?_
 refine q4 yU ?_
 refine q0 ?_
 refine q4 yU ?_
 refine z4Z ?_
 refine Q30 ?_
 have ⟨y1,hy1,h⟩:=bE h
 refine zK y1 (.exit 0) (fun y1=>⟨[(0,.d (zW eI a0)),(1,.d (zW eI a1))],[]⟩) .ret (fun y1=>⟨[(4,.d (di y1))],[]⟩) ?_ ?_ ?_
 refine zD (fun x=>⟨[(0,.d (zW eI a0)),(1,.d (zW eI a1)),(10,.d (di (min (a0.length:Int) (a1.length:Int)))),(11,.d (di x))],[]⟩) hy1 (wc) ?_
 rintro v11 sy1 p1
 replace p1:xD a0 a1 v11=some sy1:=p1
 unfold xD at p1
 refine Q22 ?_
 refine yB p1 (fun p1=>?_) (fun p1=>?_)
 refine Q8 ?_
 refine Q2 ?_
 refine Q16 ?_
 refine z7 MX rfl ?_
 refine Q27 ?_
 have ⟨t16,ht16,p1⟩:=bE p1
 refine q23 yU ht16 ?_
 refine q67 O3 ht16 ?_
 refine Q27 ?_
 have ⟨t20,ht20,p1⟩:=bE p1
 refine q23 yU ht20 ?_
 refine q67 O3 ht20 ?_
 refine vB (zMQ (lq rfl) rfl rfl) ?_
 refine xQ ?_
 refine yB p1 (fun p1=>?_) (fun p1=>?_)
 refine kL ?_
 refine z7 MX rfl ?_
 refine Q27 ?_
 have ⟨t25,ht25,p1⟩:=bE p1
 refine q23 yU ht25 ?_
 refine q67 O3 ht25 ?_
 refine Q27 ?_
 have ⟨t29,ht29,p1⟩:=bE p1
 refine q23 yU ht29 ?_
 refine q67 O3 ht29 ?_
 have ⟨t31,ht31,p1⟩:=bE p1
 refine q22 (xL ht31) ?_
 refine Q51 ?_
 refine zB ?_
 cases p1
 intro q;cases q
 exact ⟨rfl,wc⟩
 refine Q57 ?_
 cases p1
 exact wc
 refine zG ?_
 cases p1
 intro q;cases q
 exact ⟨rfl,wc⟩
 rintro y1 rfl
 replace h:=eL h
 refine Q2 ?_
 refine q4 yU ?_
 refine q0 ?_
 refine q4 yU ?_
 have ⟨t37,ht37,h⟩:=bE h
 refine q8 (xL ht37) ?_
 refine Q1 ?_
 cases h
 refine zB ?_
 exact zH rfl
 rintro y1 rfl
 replace h:=eR h
 cases h
 exact zH rfl
theorem zGD {a0 r} (h:xA a0=some r):zF Tryz.prog 25 [(eCollation.dv a0)] [(di r)]:=by
 refine co Tryz.func25 ?_;intro _ _ _ _
 unfold xA at h
 refine Q84 ?_
 refine Q53 ?_
 refine q5 zK3 ?_
 refine z8U ?_
 have ⟨b10,hb10,h⟩:=bE h
 refine yH ((zC (lq rfl) rfl).bool (oi hb10)) ?_
 refine q25 (.ip (eCollation.cells a0) (0+2)) zK3 ?_
 refine q26 (.d (di a0.Base)) O3 ?_
 refine q43 (.d (db (decide (65502 < a0.Base)))) ?_
 refine q18 ?_
 have ⟨b15,hb15,h⟩:=bE h
 refine yH ((zC (lq rfl) rfl).bool (oi hb15)) ?_
 refine q25 (.ip (eCollation.cells a0) (0+3)) z4Q ?_
 refine q26 (.d (di a0.Second)) O3 ?_
 have ⟨t18,ht18,h⟩:=bE h
 refine sqf (.d (db t18)) rfl (fun hb=>by subst hb;exact xV (lq rfl) rfl (zEE ht18)) ?_
 refine z1J (.d (db (!t18))) ?_
 refine q18 ?_
 have ⟨b21,hb21,h⟩:=bE h
 refine yH ((zC (lq rfl) rfl).bool (oi hb21)) ?_
 refine q25 (.ip (eCollation.cells a0) (0+4)) z4R ?_
 refine q26 (.d (di a0.Third)) O3 ?_
 have ⟨t24,ht24,h⟩:=bE h
 refine sqf (.d (db t24)) rfl (fun hb=>by subst hb;exact xV (lq rfl) rfl (zEE ht24)) ?_
 refine z1J (.d (db (!t24))) ?_
 refine Q37 ?_
 refine yB h (fun h=>?_) (fun h=>?_)
 refine Q3 ?_
 cases h
 refine zB ?_
 exact zH rfl
 refine Q71 ?_
 refine q21 G32 ?_
 have ⟨t28,ht28,h⟩:=bE h
 refine q8 (zGX ht28) ?_
 refine Q62 ?_
 refine yB h (fun h=>?_) (fun h=>?_)
 refine Q35 ?_
 cases h
 refine zB ?_
 exact zH rfl
 refine Q71 ?_
 refine z5E ?_
 refine Q30 ?_
 have ⟨y1,hy1,h⟩:=bE h
 refine zK y1 (.exit 0) (fun y1=>⟨[],[]⟩) .ret (fun y1=>⟨[(2,.d (di y1))],[]⟩) ?_ ?_ ?_
 refine zD (fun x=>⟨[(1,.d (.pt (eCollation.cells a0))),(33,.d (zW eEntry a0.Entries)),(34,.d (di (a0.Entries.length:Int))),(35,.d (di x))],[]⟩) hy1 (wc) ?_
 rintro v35 sy1 p1
 replace p1:xX a0 v35=some sy1:=p1
 unfold xX at p1
 refine Q22 ?_
 refine yB p1 (fun p1=>?_) (fun p1=>?_)
 refine Q8 ?_
 refine Q2 ?_
 have ⟨t38,ht38,p1⟩:=bE p1
 refine q11 S29 ht38 ?_
 refine yH (xH (en:=eEntry) (l:=a0.Entries) (i:=v35) (v:=t38) (off:=0) (lq rfl) G41 rfl ht38 rfl rfl (by decide)) ?_
 refine kP rfl (kX (zs:=[(.slice none 0 0),(.slice none 0 0)]) (lq rfl) (by kernel_rfl) rfl rfl) ?_
 refine q1 ?_
 refine q16 G41 ?_
 refine zL ?_
 refine zV (zY (t:=5) (lq rfl) rfl rfl rfl) ?_
 refine Q31 ?_
 refine q21 G41 ?_
 refine q5 zK3 ?_
 refine q6 O3 ?_
 have ⟨t43,ht43,p1⟩:=bE p1
 refine q8 (zHI ht43) ?_
 refine Q62 ?_
 refine yB p1 (fun p1=>?_) (fun p1=>?_)
 refine Q35 ?_
 refine zB ?_
 cases p1
 intro q;cases q
 exact ⟨rfl,wc⟩
 refine Q5 ?_
 refine z7 MX rfl ?_
 refine q7 ?_
 refine zXS ?_
 have ⟨b49,hb49,p1⟩:=bE p1
 refine vB ((zC (lq rfl) rfl).bool (oi hb49)) ?_
 refine q97 (.ip (eCollation.cells a0) (0+0)) zU9 ?_
 refine q98 (.d (zW eEntry a0.Entries)) O29 ?_
 refine q59 (.d (di v35)) ?_
 refine z1N (.d (di (wi (v35 - 1)))) ?_
 have ⟨t54,ht54,p1⟩:=bE p1
 refine dat (.ip (eEntry.all a0.Entries) ((wi (v35 - 1)).toNat*eEntry.size)) rfl (fun hb=>by subst hb;exact kM (en:=eEntry) (lq rfl) S29 rfl rfl ht54) ?_
 refine q99 (.ip (eEntry.all a0.Entries) ((wi (v35 - 1)).toNat*eEntry.size+0)) zFP ?_
 refine dat (.d (zW eI t54.Codes)) rfl (fun hb=>by subst hb;exact zZ (en:=eEntry) (l:=a0.Entries) (i:=(wi (v35 - 1))) (v:=t54) (off:=0) (lq rfl) O33 rfl ht54 rfl) ?_
 refine q97 (.ip (eEntry.cells t38) (0+0)) zFP ?_
 refine q98 (.d (zW eI t38.Codes)) O33 ?_
 have ⟨t59,ht59,p1⟩:=bE p1
 refine dat (.d (di t59)) rfl (fun hb=>by subst hb;exact xV (lq rfl) rfl (zJF ht59)) ?_
 refine dat (.d (db (decide (0≤t59)))) rfl (fun hb=>by subst hb;exact zH6 (lq rfl) rfl rfl) ?_
 refine Q98 ?_
 refine yB p1 (fun p1=>?_) (fun p1=>?_)
 refine Q17 ?_
 cases p1
 intro q;cases q
 exact ⟨rfl,wc⟩
 refine Q57 ?_
 cases p1
 exact wc
 refine zG ?_
 cases p1
 intro q;cases q
 exact ⟨rfl,wc⟩
 rintro y1 rfl
 replace h:=eL h
 refine Q3 ?_
 cases h
 refine zB ?_
 exact zH rfl
 rintro y1 rfl
 replace h:=eR h
 cases h
 exact zH rfl
theorem zGE {a0 r} (h:zA2 a0=some r):zF Tryz.prog 71 [(zW eI a0)] [(eA9Int.dv r)]:=by
 refine co Tryz.func71 ?_;intro _ _ _ _
 unfold zA2 at h
 refine Q0 ?_
 refine kP rfl (kX (zs:=[(.int IntKind.i64 (0)),(.int IntKind.i64 (0)),(.int IntKind.i64 (0)),(.int IntKind.i64 (0)),(.int IntKind.i64 (0)),(.int IntKind.i64 (0)),(.int IntKind.i64 (0)),(.int IntKind.i64 (0)),(.int IntKind.i64 (0))]) (lq rfl) (by kernel_rfl) rfl rfl) ?_
 refine zL<|Q2 ?_
 refine q4 yU ?_
 refine q78 z73 ?_
 refine kP rfl (kX (zs:=[(.int IntKind.i64 (0)),(.int IntKind.i64 (0)),(.int IntKind.i64 (0)),(.int IntKind.i64 (0)),(.int IntKind.i64 (0)),(.int IntKind.i64 (0)),(.int IntKind.i64 (0)),(.int IntKind.i64 (0)),(.int IntKind.i64 (0))]) (lq rfl) (by kernel_rfl) rfl rfl) ?_
 refine q16 z74 ?_
 refine Q52 ?_
 refine yH (zUT 1 (lq rfl) z73 rfl (by decide)) ?_
 refine q0 ?_
 refine kP rfl (z7Y (l:=a0) (lq rfl) yU rfl rfl rfl rfl) ?_
 refine Q52 ?_
 refine yH ((zAT (lq rfl) z74 rfl rfl rfl rfl).data rfl) ?_
 refine q16 z74 ?_
 refine zL ?_
 cases h
 refine zB ?_
 exact vH rfl rfl z74 rfl
theorem vP {a0} {r:Colltable_table} (h:u6 a0=some r):GC Tryz.prog 31 [.d (eCollation.dv a0)] [] [] [.ptr 13 0] [(13,.box 108 [.d (zW eEntry r.c.Entries),.d (zW eGroup r.c.Groups),.d (di r.c.Base),.d (di r.c.Second),.d (di r.c.Third),.row 11,.d (di r.longest),.d (zW eSpan r.classes),.d (di r.top)]),(11,.map (wS zDD (eL eElement) r.entries))]:=by
 refine zCJ Tryz.func31 (by kernel_rfl) rfl (lq rfl) (lq rfl) fun w0 I0 hG0 p0=>?_
 unfold u6 at h
 refine Q0 ?_
 refine q89 ?_
 refine Q53 ?_
 refine yH ((zAT (lq rfl) G32 rfl rfl rfl rfl).data rfl) ?_
 have ⟨t7,ht7,h⟩:=bE h
 refine q8 (zGD ht7) ?_
 refine Q33 ?_
 have ⟨y1,hy1,h⟩:=bE h
 refine tl .normal ⟨[(1,.ptr 1 0)],[(1,.box 32 [.d (zW eEntry y1.1),.d (zW eGroup y1.2.1),.d (di y1.2.2.1),.d (di y1.2.2.2.1),.d (di y1.2.2.2.2)])]⟩ ?_ ?_
 refine yB hy1 (fun hy1=>?_) (fun hy1=>?_)
 refine zBD ?_
 refine yH ((zCW (lq rfl) B32 rfl rfl).nils (bs:=eCollation.cells ({Entries:=[],Groups:=[],Base:=64448,Second:=32,Third:=2}:Collation)) (nlN (nlN (nlE (nlE (nlE nl0)))))) ?_
 refine q16 G32 ?_
 refine zL ?_
 cases hy1
 exact zN (wc)
 refine zP ?_
 cases hy1
 exact zN (wc)
 refine Q0 ?_
 refine yH ((zAT (lq rfl) G32 rfl rfl rfl rfl).data rfl) ?_
 refine z4Y ?_
 refine yH (z38 [(0,.tmp 10)] 1 (.tmp 11) (lq rfl) yF4 rfl rfl rfl rfl rfl rfl) ?_
 refine kP rfl (zW9 (lq rfl) rfl rfl) ?_
 refine yH (zBS (lq rfl) rfl) ?_
 refine z15 ?_
 refine q51 zU9 ?_
 refine q28 O29 ?_
 refine q4 S29 ?_
 refine Q30 ?_
 have ⟨y2,hy2,h⟩:=bE h
 refine tl (.exit 0) ⟨[(3,.ptr 13 0)],[(11,.map (wS zDD (eL eElement) y2.1)),(13,.box 108 [.d (zW eEntry (({Entries:=y1.1,Groups:=y1.2.1,Base:=y1.2.2.1,Second:=y1.2.2.2.1,Third:=y1.2.2.2.2}:Collation).Entries)),.d (zW eGroup (({Entries:=y1.1,Groups:=y1.2.1,Base:=y1.2.2.1,Second:=y1.2.2.2.1,Third:=y1.2.2.2.2}:Collation).Groups)),.d (di (({Entries:=y1.1,Groups:=y1.2.1,Base:=y1.2.2.1,Second:=y1.2.2.2.1,Third:=y1.2.2.2.2}:Collation).Base)),.d (di (({Entries:=y1.1,Groups:=y1.2.1,Base:=y1.2.2.1,Second:=y1.2.2.2.1,Third:=y1.2.2.2.2}:Collation).Second)),.d (di (({Entries:=y1.1,Groups:=y1.2.1,Base:=y1.2.2.1,Second:=y1.2.2.2.1,Third:=y1.2.2.2.2}:Collation).Third)),.row 11,.d (di y2.2),.d (.v (.slice none 0 0)),.d (di 0)])]⟩ ?_ ?_
 refine zD (fun x=>⟨[(3,.ptr 13 0),(15,.d (zW eEntry y1.1)),(16,.d (di (y1.1.length:Int))),(17,.d (di x.1))],[(11,.map (wS zDD (eL eElement) x.2.1)),(13,.box 108 [.d (zW eEntry (({Entries:=y1.1,Groups:=y1.2.1,Base:=y1.2.2.1,Second:=y1.2.2.2.1,Third:=y1.2.2.2.2}:Collation).Entries)),.d (zW eGroup (({Entries:=y1.1,Groups:=y1.2.1,Base:=y1.2.2.1,Second:=y1.2.2.2.1,Third:=y1.2.2.2.2}:Collation).Groups)),.d (di (({Entries:=y1.1,Groups:=y1.2.1,Base:=y1.2.2.1,Second:=y1.2.2.2.1,Third:=y1.2.2.2.2}:Collation).Base)),.d (di (({Entries:=y1.1,Groups:=y1.2.1,Base:=y1.2.2.1,Second:=y1.2.2.2.1,Third:=y1.2.2.2.2}:Collation).Second)),.d (di (({Entries:=y1.1,Groups:=y1.2.1,Base:=y1.2.2.1,Second:=y1.2.2.2.1,Third:=y1.2.2.2.2}:Collation).Third)),.row 11,.d (di x.2.2),.d (.v (.slice none 0 0)),.d (di 0)])]⟩) hy2 (wc) ?_
 rintro ⟨v17,r11,k13_6⟩ sy2 p2
 replace p2:jY y1 v17 r11 k13_6=some sy2:=p2
 unfold jY at p2
 refine Q22 ?_
 refine yB p2 (fun p2=>?_) (fun p2=>?_)
 refine Q29 ?_
 have ⟨t19,ht19,p2⟩:=bE p2
 refine q11 S29 ht19 ?_
 refine yH (xH (en:=eEntry) (l:=y1.1) (i:=v17) (v:=t19) (off:=0) (lq rfl) G41 rfl ht19 rfl rfl (by decide)) ?_
 refine kP rfl (kX (zs:=[(.slice none 0 0),(.slice none 0 0)]) (lq rfl) (by kernel_rfl) rfl rfl) ?_
 refine q16 G41 ?_
 refine zL ?_
 refine zV (zY (t:=5) (lq rfl) rfl rfl rfl) ?_
 refine kL ?_
 refine zFG 9 MX rfl ?_
 refine z40 ?_
 refine z41 ?_
 refine zVC z4N ?_
 refine z8G yEC ?_
 refine q19 zFP ?_
 refine q33 O33 ?_
 have ⟨t27,ht27,p2⟩:=bE p2
 refine q22 (zGE ht27) ?_
 refine q19 zJO ?_
 refine q33 O39 ?_
 refine xQ ?_
 refine kP rfl (zKW (kv:=zDD) (ev:=(eL eElement)) (mp:=r11) (k:=t27) (v:=t19.Elements) yD9 yEH rfl rfl rfl (z7U rfl) rfl rfl rfl) ?_
 refine zL ?_
 refine zFG 11 MX rfl ?_
 refine z40 ?_
 refine z40 ?_
 refine z41 ?_
 refine zVC zSG ?_
 refine z8G O3 ?_
 refine q19 zFP ?_
 refine q33 O33 ?_
 refine yB3 yU ?_
 refine vB (zYP (lq rfl) rfl rfl) ?_
 refine z41 ?_
 refine zVC zSG ?_
 refine xQ<|yCD ?_
 refine Q24 ?_
 cases p2
 exact wc
 refine zG ?_
 cases p2
 intro q;cases q
 exact zN (wc)
 refine Q0 ?_
 refine z8H ?_
 refine yH (zBS (lq rfl) rfl) ?_
 refine zL ?_
 refine zV (zPW (bid:=13) (off:=7) eSpan.size rfl rfl) ?_
 cases h
 refine zB ?_
 exact ⟨⟨_,_,rfl,rfl,rfl⟩,⟨rfl,rfl,trivial⟩⟩
set_option maxHeartbeats 8000000 in
theorem zGY {a0 r} (h:u7 a0=some r):zF Tryz.prog 94 [(zW eSpan a0)] [(di r)]:=by
 refine co Tryz.func94 ?_;intro _ _ _ _
 unfold u7 at h
 refine Q47 ?_
 refine q4 S22 ?_
 refine Q30 ?_
 have ⟨y1,hy1,h⟩:=bE h
 refine zK y1 (.exit 0) (fun y1=>⟨[(0,.d (zW eSpan a0))],[]⟩) .ret (fun y1=>⟨[(2,.d (di y1))],[]⟩) ?_ ?_ ?_
 refine zD (fun x=>⟨[(0,.d (zW eSpan a0)),(12,.d (zW eSpan a0)),(13,.d (di (a0.length:Int))),(14,.d (di x))],[]⟩) hy1 (wc) ?_
 rintro v14 sy1 p1
 replace p1:wU a0 v14=some sy1:=p1
 unfold wU at p1
 refine Q22 ?_
 refine yB p1 (fun p1=>?_) (fun p1=>?_)
 refine Q29 ?_
 have ⟨t16,ht16,p1⟩:=bE p1
 refine q11 S22 ht16 ?_
 refine z8I G62 ht16 ?_
 refine z1O ?_
 refine q16 G62 ?_
 refine zL ?_
 refine zV (zY (t:=4) (lq rfl) rfl rfl rfl) ?_
 refine Q0 ?_
 refine q5 zGU ?_
 refine z8U ?_
 have ⟨b21,hb21,p1⟩:=bE p1
 refine yH ((zC (lq rfl) rfl).bool (oi hb21)) ?_
 refine q25 (.ip (eSpan.cells t16) (0+1)) zGV ?_
 refine q26 (.d (di t16.Hi)) O3 ?_
 refine q43 (.d (db (decide (1114111 < t16.Hi)))) ?_
 refine q18 ?_
 have ⟨b26,hb26,p1⟩:=bE p1
 refine yH ((zC (lq rfl) rfl).bool (oi hb26)) ?_
 refine q25 (.ip (eSpan.cells t16) (0+0)) zGU ?_
 refine q26 (.d (di t16.Lo)) O3 ?_
 refine q25 (.ip (eSpan.cells t16) (0+1)) zGV ?_
 refine q26 (.d (di t16.Hi)) O3 ?_
 refine q43 (.d (db (decide (t16.Hi < t16.Lo)))) ?_
 refine q18 ?_
 have ⟨b33,hb33,p1⟩:=bE p1
 refine yH ((zC (lq rfl) rfl).bool (oi hb33)) ?_
 refine q25 (.ip (eSpan.cells t16) (0+2)) zHP ?_
 refine q26 (.d (di t16.Value)) O3 ?_
 refine sqf (.d (db (decide (t16.Value < 1)))) rfl (fun hb=>by subst hb;exact zKJ (lq rfl) rfl rfl) ?_
 refine q18 ?_
 have ⟨b38,hb38,p1⟩:=bE p1
 refine yH ((zC (lq rfl) rfl).bool (oi hb38)) ?_
 refine q25 (.ip (eSpan.cells t16) (0+2)) zHP ?_
 refine q26 (.d (di t16.Value)) O3 ?_
 refine q43 (.d (db (decide (254 < t16.Value)))) ?_
 refine Q37 ?_
 refine yB p1 (fun p1=>?_) (fun p1=>?_)
 refine Q17 ?_
 cases p1
 intro q;cases q
 exact ⟨rfl,wc⟩
 refine Q57 ?_
 cases p1
 exact wc
 refine zG ?_
 cases p1
 intro q;cases q
 exact ⟨rfl,wc⟩
 rintro y1 rfl
 replace h:=eL h
 refine Q32 ?_
 have ⟨y2,hy2,h⟩:=bE h
 refine zK y2 (.exit 2) (fun y2=>⟨[(0,.d (zW eSpan a0))],[]⟩) .ret (fun y2=>⟨[(2,.d (di y2))],[]⟩) ?_ ?_ ?_
 refine zD (fun x=>⟨[(0,.d (zW eSpan a0)),(5,.d (di x))],[]⟩) hy2 (wc) ?_
 rintro v5 sy2 p2
 replace p2:wV a0 v5=some sy2:=p2
 unfold wV at p2
 refine Q12 ?_
 refine q4 S22 ?_
 refine Q6 ?_
 refine yB p2 (fun p2=>?_) (fun p2=>?_)
 refine Q65 ?_
 have ⟨t53,ht53,p2⟩:=bE p2
 have ⟨t57,ht57,p2⟩:=bE p2
 refine tl .normal ⟨[(0,.d (zW eSpan a0)),(5,.d (di v5)),(6,.ptr 6 0),(7,.ptr 7 0)],[(6,.box 62 [.d (di t53.Lo),.d (di t53.Hi),.d (di t53.Value)]),(7,.box 62 [.d (di t57.Lo),.d (di t57.Hi),.d (di t57.Value)])]⟩ ?_ ?_
 refine zCX MX ?_
 refine yEV ?_
 refine zHH (i:=2) rfl (lq rfl) rfl rfl rfl rfl rfl rfl ?_
 refine zRE (en:=eSpan) (i:=3) rfl (lq rfl) S22 rfl rfl ht53 rfl rfl rfl rfl ?_
 refine xm 5 ?_
 refine xm 6 ?_
 refine zRE (en:=eSpan) (i:=7) rfl (lq rfl) S22 rfl rfl ht57 rfl rfl rfl rfl ?_
 refine xn [4,8,9,10] ?_
 refine q47 G62 ht53 ?_ ?_
 refine xn [8,9,10] ?_
 refine q47 G62 ht57 ?_ ?_
 refine xn [9,10] ?_
 refine z42 ?_ ?_
 refine xn [10] ?_
 refine Q79 ?_
 exact ae
 refine q45 ?_
 refine xn [9] ?_
 refine Q79 ?_
 exact ae
 refine z42 ?_ ?_
 refine xn [8,10] ?_
 refine q47 G62 ht57 ?_ ?_
 refine xn [10] ?_
 refine Q79 ?_
 exact ae
 refine q45 ?_
 refine xn [8,11] ?_
 refine q47 G62 ht57 ?_ ?_
 refine Q45 ?_
 exact ae
 refine q9 G62 ?_
 refine xn [8] ?_
 refine q68 G62 ht57 ?_
 refine Q38 ?_
 exact ae
 refine q45 ?_
 refine xn [8,9] ?_
 refine q47 G62 ht57 ?_ ?_
 refine xn [9] ?_
 refine Q79 ?_
 exact ae
 refine q45 ?_
 refine xn [8,11] ?_
 refine q47 G62 ht57 ?_ ?_
 refine Q45 ?_
 exact ae
 refine q9 G62 ?_
 refine xn [8] ?_
 refine q68 G62 ht57 ?_
 refine Q38 ?_
 exact ae
 refine q47 G62 ht57 ?_ ?_
 refine xn [4,9,10] ?_
 refine q47 G62 ht53 ?_ ?_
 refine xn [9,10] ?_
 refine z42 ?_ ?_
 refine xn [10] ?_
 refine Q79 ?_
 exact ae
 refine q45 ?_
 refine xn [9] ?_
 refine Q79 ?_
 exact ae
 refine z42 ?_ ?_
 refine xn [4,10] ?_
 refine q47 G62 ht53 ?_ ?_
 refine xn [10] ?_
 refine Q79 ?_
 exact ae
 refine q45 ?_
 refine xn [4] ?_
 refine q68 G62 ht53 ?_
 refine Q45 ?_
 exact ae
 refine q45 ?_
 refine xn [4,9] ?_
 refine q47 G62 ht53 ?_ ?_
 refine xn [9] ?_
 refine Q79 ?_
 exact ae
 refine q45 ?_
 refine xn [4] ?_
 refine q68 G62 ht53 ?_
 refine Q45 ?_
 exact ae
 refine z42 ?_ ?_
 refine xn [4,8,10] ?_
 refine q47 G62 ht53 ?_ ?_
 refine xn [8,10] ?_
 refine q47 G62 ht57 ?_ ?_
 refine xn [10] ?_
 refine Q79 ?_
 exact ae
 refine q45 ?_
 refine xn [8,11] ?_
 refine q47 G62 ht57 ?_ ?_
 refine Q45 ?_
 exact ae
 refine q9 G62 ?_
 refine xn [8] ?_
 refine q68 G62 ht57 ?_
 refine Q38 ?_
 exact ae
 refine q47 G62 ht57 ?_ ?_
 refine xn [4,10] ?_
 refine q47 G62 ht53 ?_ ?_
 refine xn [10] ?_
 refine Q79 ?_
 exact ae
 refine q45 ?_
 refine xn [4] ?_
 refine q68 G62 ht53 ?_
 refine Q45 ?_
 exact ae
 refine q45 ?_
 refine xn [4,8] ?_
 refine q47 G62 ht53 ?_ ?_
 refine xn [8,11] ?_
 refine q47 G62 ht57 ?_ ?_
 refine Q45 ?_
 exact ae
 refine q9 G62 ?_
 refine xn [8] ?_
 refine q68 G62 ht57 ?_
 refine Q38 ?_
 exact ae
 refine q68 G62 ht57 ?_
 refine xn [4] ?_
 refine q68 G62 ht53 ?_
 refine Q45 ?_
 exact ae
 refine q45 ?_
 refine xn [4,8,9] ?_
 refine q47 G62 ht53 ?_ ?_
 refine xn [8,9] ?_
 refine q47 G62 ht57 ?_ ?_
 refine xn [9] ?_
 refine Q79 ?_
 exact ae
 refine q45 ?_
 refine xn [8,11] ?_
 refine q47 G62 ht57 ?_ ?_
 refine Q45 ?_
 exact ae
 refine q9 G62 ?_
 refine xn [8] ?_
 refine q68 G62 ht57 ?_
 refine Q38 ?_
 exact ae
 refine q47 G62 ht57 ?_ ?_
 refine xn [4,9] ?_
 refine q47 G62 ht53 ?_ ?_
 refine xn [9] ?_
 refine Q79 ?_
 exact ae
 refine q45 ?_
 refine xn [4] ?_
 refine q68 G62 ht53 ?_
 refine Q45 ?_
 exact ae
 refine q45 ?_
 refine xn [4,8] ?_
 refine q47 G62 ht53 ?_ ?_
 refine xn [8,11] ?_
 refine q47 G62 ht57 ?_ ?_
 refine Q45 ?_
 exact ae
 refine q9 G62 ?_
 refine xn [8] ?_
 refine q68 G62 ht57 ?_
 refine Q38 ?_
 exact ae
 refine q68 G62 ht57 ?_
 refine xn [4] ?_
 refine q68 G62 ht53 ?_
 refine Q45 ?_
 exact ae
 refine zV (zY (t:=6) (lq rfl) rfl rfl rfl) ?_
 refine zV (zY (t:=7) (lq rfl) rfl rfl rfl) ?_
 refine Q0 ?_
 refine q5 zGU ?_
 refine q6 O3 ?_
 refine q5 zGV ?_
 refine q6 O3 ?_
 refine q70 ?_
 have ⟨b64,hb64,p2⟩:=bE p2
 refine yH ((zC (lq rfl) rfl).bool (oi hb64)) ?_
 refine q25 (.ip (eSpan.cells t57) (0+0)) zGU ?_
 refine q26 (.d (di t57.Lo)) O3 ?_
 refine q25 (.ip (eSpan.cells t53) (0+1)) zGV ?_
 refine q26 (.d (di t53.Hi)) O3 ?_
 refine sqf (.d (di (wi (t53.Hi+1)))) rfl (fun hb=>by subst hb;exact zQ6 (lq rfl) rfl rfl) ?_
 refine zXR (.d (db (decide (t57.Lo=(wi (t53.Hi+1)))))) ?_
 have ⟨b71,hb71,p2⟩:=bE p2
 refine sqf (.d (db b71)) rfl (fun hb=>by subst hb;exact (zC (lq rfl) rfl).bool (oi hb71)) ?_
 refine jR (x:= .ip (eSpan.cells t57) (0+2)) rfl rfl rfl (lq rfl) (lq rfl) rfl (fun hb=>by obtain ⟨hb,hb1⟩:=zI hb;obtain rfl:=gF hb;obtain rfl:b71=true:=hb1;exact xM (lq rfl) zHP rfl) ?_
 refine jR (x:= .d (di t57.Value)) rfl rfl rfl (lq rfl) (lq rfl) rfl (fun hb=>by obtain ⟨hb,hb1⟩:=zI hb;obtain rfl:=gF hb;obtain rfl:b71=true:=hb1;exact kD (lq rfl) O3 rfl rfl) ?_
 refine jR (x:= .ip (eSpan.cells t53) (0+2)) rfl rfl rfl (lq rfl) (lq rfl) rfl (fun hb=>by obtain ⟨hb,hb1⟩:=zI hb;obtain rfl:=gF hb;obtain rfl:b71=true:=hb1;exact xM (lq rfl) zHP rfl) ?_
 refine jR (x:= .d (di t53.Value)) rfl rfl rfl (lq rfl) (lq rfl) rfl (fun hb=>by obtain ⟨hb,hb1⟩:=zI hb;obtain rfl:=gF hb;obtain rfl:b71=true:=hb1;exact kD (lq rfl) O3 rfl rfl) ?_
 refine jR (x:= .d (db (decide (t57.Value=t53.Value)))) rfl rfl rfl (lq rfl) (lq rfl) rfl (fun hb=>by obtain ⟨hb,hb1⟩:=zI hb;obtain rfl:=gF hb;obtain rfl:b71=true:=hb1;exact zGQ (lq rfl) rfl rfl) ?_
 refine q86 (.d (db (b71&&(decide (t57.Value=t53.Value))))) ?_
 refine Q37 ?_
 refine yB p2 (fun p2=>?_) (fun p2=>?_)
 refine Q17 ?_
 cases p2
 intro q;cases q
 exact ⟨rfl,wc⟩
 refine Q28 ?_
 cases p2
 exact wc
 refine zG ?_
 cases p2
 intro q;cases q
 exact ⟨rfl,wc⟩
 rintro y2 rfl
 replace h:=eL h
 refine Q4 ?_
 refine q4 S22 ?_
 refine Q30 ?_
 have ⟨y3,hy3,h⟩:=bE h
 refine zK y3 (.exit 4) (fun y3=>⟨[],[]⟩) .ret (fun y3=>⟨[(2,.d (di y3))],[]⟩) ?_ ?_ ?_
 refine zD (fun x=>⟨[(79,.d (zW eSpan a0)),(80,.d (di (a0.length:Int))),(81,.d (di x))],[]⟩) hy3 (wc) ?_
 rintro v81 sy3 p3
 replace p3:wW a0 v81=some sy3:=p3
 unfold wW at p3
 refine Q22 ?_
 refine yB p3 (fun p3=>?_) (fun p3=>?_)
 refine Q29 ?_
 have ⟨t83,ht83,p3⟩:=bE p3
 refine q11 S22 ht83 ?_
 refine z8I G62 ht83 ?_
 refine z1O ?_
 refine q16 G62 ?_
 refine zL ?_
 refine zV (zY (t:=9) (lq rfl) rfl rfl rfl) ?_
 refine Q0 ?_
 have ⟨t85,ht85,p3⟩:=bE p3
 refine yH ((z7T (zs:=[.int .i64 4352,.int .i64 4370,.int .i64 4449,.int .i64 4469,.int .i64 4520,.int .i64 4546,.int .i64 44032,.int .i64 55203]) (lq rfl) yF9 Z0 rfl rfl).data (b:=eA4Range.dv t85) (congrArg eA4Range.dv (oi ht85))) ?_
 refine Q30 ?_
 have ⟨y4,hy4,p3⟩:=bE p3
 refine zK y4 (.exit 6) (fun y4=>⟨[(79,.d (zW eSpan a0)),(80,.d (di (a0.length:Int))),(81,.d (di v81))],[]⟩) .ret (fun y4=>⟨[(2,.d (di y4))],[]⟩) ?_ ?_ ?_
 refine zD (fun x=>⟨[(9,.d (.pt (eSpan.cells t83))),(79,.d (zW eSpan a0)),(80,.d (di (a0.length:Int))),(81,.d (di v81)),(85,.d (eA4Range.dv t85)),(86,.d (di x))],[]⟩) hy4 (wc) ?_
 rintro v86 sy4 p4
 replace p4:jZ t85 t83 v86=some sy4:=p4
 unfold jZ at p4
 refine Q22 ?_
 refine yB p4 (fun p4=>?_) (fun p4=>?_)
 refine Q29 ?_
 have ⟨t88,ht88,p4⟩:=bE p4
 refine yH (z03 (en:=eRange) (l:=[t85.x0,t85.x1,t85.x2,t85.x3]) (lq rfl) yF3 zA5 (fun _=>rfl) rfl rfl rfl ht88) ?_
 refine zXT ?_
 refine zX0 ?_
 refine zV (zY (t:=11) (lq rfl) rfl rfl rfl) ?_
 refine Q0 ?_
 refine q5 zGU ?_
 refine q6 O3 ?_
 refine q5 zC3 ?_
 refine q6 O3 ?_
 refine q70 ?_
 have ⟨b94,hb94,p4⟩:=bE p4
 refine yH ((zC (lq rfl) rfl).bool (oi hb94)) ?_
 refine q54 (.ip (eRange.cells t88) (0+0)) zGK ?_
 refine q62 (.d (di t88.Lo)) O3 ?_
 refine q54 (.ip (eSpan.cells t83) (0+1)) zGV ?_
 refine q62 (.d (di t83.Hi)) O3 ?_
 refine q55 (.d (db (decide (t88.Lo≤t83.Hi)))) ?_
 refine Q36 ?_
 refine yB p4 (fun p4=>?_) (fun p4=>?_)
 refine Q17 ?_
 cases p4
 intro q;cases q
 exact ⟨rfl,wc⟩
 refine Q57 ?_
 cases p4
 exact wc
 refine zG ?_
 cases p4
 intro q;cases q
 exact ⟨rfl,wc⟩
 rintro y4 rfl
 replace p3:=eL p3
 refine Q24 ?_
 cases p3
 exact wc
 rintro y4 rfl
 replace p3:=eR p3
 cases p3
 intro q;cases q
 exact ⟨rfl,wc⟩
 refine zG ?_
 cases p3
 intro q;cases q
 exact ⟨rfl,wc⟩
 rintro y3 rfl
 replace h:=eL h
 refine Q3 ?_
 cases h
 refine zB ?_
 exact zH rfl
 rintro y3 rfl
 replace h:=eR h
 cases h
 exact zH rfl
 rintro y2 rfl
 replace h:=eR h
 cases h
 exact zH rfl
 rintro y1 rfl
 replace h:=eR h
 cases h
 exact zH rfl
theorem zL8 {a0 r} (h:zBM a0=some r):zF Tryz.prog 133 [(ds a0)] [(db r)]:=by
 refine co Tryz.func133 ?_;intro _ _ _ _
 unfold zBM at h
 refine Q47 ?_
 refine yH (zL0 (a:=a0) (b:=[]) (lq rfl) rfl rfl) ?_
 have ⟨b8,hb8,h⟩:=bE h
 refine yH ((zC (lq rfl) rfl).bool (oi hb8)) ?_
 refine q38 (.d (ds a0)) ?_
 refine sqf (.d (di (a0.length:Int))) rfl (fun hb=>by subst hb;exact zOH (s:=a0) (lq rfl) Tryz.underlying9 rfl) ?_
 refine q43 (.d (db (decide (32 < (a0.length:Int))))) ?_
 refine Q37 ?_
 refine yB h (fun h=>?_) (fun h=>?_)
 refine Q3 ?_
 cases h
 refine zB ?_
 exact zH rfl
 refine Q95 ?_
 refine z8A Tryz.underlying9 ?_
 refine Q30 ?_
 have ⟨y1,hy1,h⟩:=bE h
 refine zK y1 (.exit 0) (fun y1=>⟨[],[]⟩) .ret (fun y1=>⟨[(2,.d (db y1))],[]⟩) ?_ ?_ ?_
 refine zD (fun x=>⟨[(0,.d (ds a0)),(14,.d (di (a0.length:Int))),(15,.d (di x))],[]⟩) hy1 (wc) ?_
 rintro v15 sy1 p1
 replace p1:wX a0 v15=some sy1:=p1
 unfold wX at p1
 refine Q22 ?_
 refine yB p1 (fun p1=>?_) (fun p1=>?_)
 refine Q8 ?_
 refine Q35 ?_
 refine Q15 ?_
 have ⟨t20,ht20,p1⟩:=bE p1
 refine z8B Tryz.underlying9 ht20 ?_
 refine Q19 ?_
 refine q44 ?_
 have ⟨b23,hb23,p1⟩:=bE p1
 refine yH ((zC (lq rfl) rfl).bool (oi hb23)) ?_
 refine q13 (.d (dby t20)) ?_
 refine q55 (.d (db (decide (t20≤90)))) ?_
 refine q14 ?_
 have ⟨b27,hb27,p1⟩:=bE p1
 refine yH ((zC (lq rfl) rfl).bool (oi hb27)) ?_
 refine q38 (.d (dby t20)) ?_
 refine zXQ (.d (db (decide (97≤t20)))) ?_
 have ⟨b30,hb30,p1⟩:=bE p1
 refine sqf (.d (db b30)) rfl (fun hb=>by subst hb;exact (zC (lq rfl) rfl).bool (oi hb30)) ?_
 refine jR (x:= .d (dby t20)) rfl rfl rfl (lq rfl) (lq rfl) rfl (fun hb=>by obtain ⟨hb,hb1⟩:=zI hb;obtain rfl:=gF hb;obtain rfl:b30=true:=hb1;exact zC (lq rfl) rfl) ?_
 refine jR (x:= .d (db (decide (t20≤122)))) rfl rfl rfl (lq rfl) (lq rfl) rfl (fun hb=>by obtain ⟨hb,hb1⟩:=zI hb;obtain rfl:=gF hb;obtain rfl:b30=true:=hb1;exact zGP (lq rfl) rfl rfl) ?_
 refine q86 (.d (db (b30&&(decide (t20≤122))))) ?_
 refine q18 ?_
 refine Q19 ?_
 refine q32 ?_
 have ⟨b37,hb37,p1⟩:=bE p1
 refine yH ((zC (lq rfl) rfl).bool (oi hb37)) ?_
 refine q13 (.d (dby t20)) ?_
 refine sqt (.d (db (decide (48≤t20)))) rfl (fun hb=>by subst hb;exact zH6 (lq rfl) rfl rfl) ?_
 have ⟨b40,hb40,p1⟩:=bE p1
 refine sqt (.d (db b40)) rfl (fun hb=>by subst hb;exact (zC (lq rfl) rfl).bool (oi hb40)) ?_
 refine jR (x:= .d (dby t20)) rfl rfl rfl (lq rfl) (lq rfl) rfl (fun hb=>by obtain ⟨hb,hb1⟩:=zI hb;obtain rfl:b37=true:=hb;obtain rfl:b40=true:=hb1;exact zC (lq rfl) rfl) ?_
 refine jR (x:= .d (db (decide (t20≤57)))) rfl rfl rfl (lq rfl) (lq rfl) rfl (fun hb=>by obtain ⟨hb,hb1⟩:=zI hb;obtain rfl:b37=true:=hb;obtain rfl:b40=true:=hb1;exact zGP (lq rfl) rfl rfl) ?_
 refine sqt (.d (db (b40&&(decide (t20≤57))))) rfl (fun hb=>by subst hb;exact zDB (lq rfl) rfl rfl) ?_
 refine z1I (.d (db (!(b40&&(decide (t20≤57)))))) ?_
 refine q14 ?_
 have ⟨b46,hb46,p1⟩:=bE p1
 refine yH ((zC (lq rfl) rfl).bool (oi hb46)) ?_
 refine q13 (.d (dby t20)) ?_
 refine z43 (.d (db (!decide (t20=95)))) ?_
 refine Q36 ?_
 refine yB p1 (fun p1=>?_) (fun p1=>?_)
 refine Q17 ?_
 cases p1
 intro q;cases q
 exact ⟨rfl,wc⟩
 refine Q57 ?_
 cases p1
 exact wc
 refine zG ?_
 cases p1
 intro q;cases q
 exact ⟨rfl,wc⟩
 rintro y1 rfl
 replace h:=eL h
 refine Q3 ?_
 cases h
 refine zB ?_
 exact zH rfl
 rintro y1 rfl
 replace h:=eR h
 cases h
 exact zH rfl
theorem zNA {a0 r} (h:zB6 a0=some r):zF Tryz.prog 119 [(zW eMapping a0)] [(di r)]:=by
 refine co Tryz.func119 ?_;intro _ _ _ _
 unfold zB6 at h
 refine Q47 ?_
 refine zX1 ?_
 have ⟨y1,hy1,h⟩:=bE h
 refine zK y1 (.exit 0) (fun y1=>⟨[(0,.d (zW eMapping a0))],[]⟩) .ret (fun y1=>⟨[(2,.d (di y1))],[]⟩) ?_ ?_ ?_
 refine zD (fun x=>⟨[(0,.d (zW eMapping a0)),(11,.d (zW eMapping a0)),(12,.d (di (a0.length:Int))),(13,.d (di x))],[]⟩) hy1 (wc) ?_
 rintro v13 sy1 p1
 replace p1:vK a0 v13=some sy1:=p1
 unfold vK at p1
 refine Q22 ?_
 refine yB p1 (fun p1=>?_) (fun p1=>?_)
 refine Q29 ?_
 have ⟨t15,ht15,p1⟩:=bE p1
 refine q11 S23 ht15 ?_
 refine q90 zIJ ht15 ?_
 refine zX2 ?_
 refine zV (zY (t:=4) (lq rfl) rfl rfl rfl) ?_
 refine Q31 ?_
 refine zSN ?_
 have ⟨t19,ht19,p1⟩:=bE p1
 refine q8 (zBH ht19) ?_
 refine Q42 ?_
 refine yB p1 (fun p1=>?_) (fun p1=>?_)
 refine Q17 ?_
 cases p1
 intro q;cases q
 exact ⟨rfl,wc⟩
 refine Q50 ?_
 refine q5 zBZ ?_
 refine q6 O33 ?_
 refine Q94 ?_
 have ⟨y2,hy2,p1⟩:=bE p1
 refine zK y2 (.exit 2) (fun y2=>⟨[(0,.d (zW eMapping a0)),(11,.d (zW eMapping a0)),(12,.d (di (a0.length:Int))),(13,.d (di v13))],[]⟩) .ret (fun y2=>⟨[(2,.d (di y2))],[]⟩) ?_ ?_ ?_
 refine zD (fun x=>⟨[(0,.d (zW eMapping a0)),(11,.d (zW eMapping a0)),(12,.d (di (a0.length:Int))),(13,.d (di v13)),(22,.d (zW eI t15.To)),(23,.d (di (t15.To.length:Int))),(24,.d (di x))],[]⟩) hy2 (wc) ?_
 rintro v24 sy2 p2
 replace p2:vJ t15 v24=some sy2:=p2
 unfold vJ at p2
 refine Q22 ?_
 refine yB p2 (fun p2=>?_) (fun p2=>?_)
 refine Q29 ?_
 have ⟨t26,ht26,p2⟩:=bE p2
 refine q11 yU ht26 ?_
 refine q35 O3 ht26 ?_
 refine Q19 ?_
 have ⟨t29,ht29,p2⟩:=bE p2
 refine q8 (zBH ht29) ?_
 refine Q42 ?_
 refine yB p2 (fun p2=>?_) (fun p2=>?_)
 refine Q17 ?_
 cases p2
 intro q;cases q
 exact ⟨rfl,wc⟩
 refine Q57 ?_
 cases p2
 exact wc
 refine zG ?_
 cases p2
 intro q;cases q
 exact ⟨rfl,wc⟩
 rintro y2 rfl
 replace p1:=eL p1
 refine Q24 ?_
 cases p1
 exact wc
 rintro y2 rfl
 replace p1:=eR p1
 cases p1
 intro q;cases q
 exact ⟨rfl,wc⟩
 refine zG ?_
 cases p1
 intro q;cases q
 exact ⟨rfl,wc⟩
 rintro y1 rfl
 replace h:=eL h
 refine Q4 ?_
 refine zX1 ?_
 have ⟨y3,hy3,h⟩:=bE h
 refine zK y3 (.exit 4) (fun y3=>⟨[(0,.d (zW eMapping a0))],[]⟩) .ret (fun y3=>⟨[(2,.d (di y3))],[]⟩) ?_ ?_ ?_
 refine zD (fun x=>⟨[(0,.d (zW eMapping a0)),(33,.d (zW eMapping a0)),(34,.d (di (a0.length:Int))),(35,.d (di x))],[]⟩) hy3 (wc) ?_
 rintro v35 sy3 p3
 replace p3:vL a0 v35=some sy3:=p3
 unfold vL at p3
 refine Q22 ?_
 refine yB p3 (fun p3=>?_) (fun p3=>?_)
 refine Q29 ?_
 have ⟨t37,ht37,p3⟩:=bE p3
 refine q11 S23 ht37 ?_
 refine q90 zIJ ht37 ?_
 refine zX2 ?_
 refine zV (zY (t:=8) (lq rfl) rfl rfl rfl) ?_
 refine Q0 ?_
 refine q5 zBZ ?_
 refine q6 O33 ?_
 refine q4 yU ?_
 refine Q54 ?_
 refine yB p3 (fun p3=>?_) (fun p3=>?_)
 refine Q17 ?_
 cases p3
 intro q;cases q
 exact ⟨rfl,wc⟩
 refine Q57 ?_
 cases p3
 exact wc
 refine zG ?_
 cases p3
 intro q;cases q
 exact ⟨rfl,wc⟩
 rintro y3 rfl
 replace h:=eL h
 refine Q4 ?_
 refine zX1 ?_
 have ⟨y4,hy4,h⟩:=bE h
 refine zK y4 (.exit 6) (fun y4=>⟨[],[]⟩) .ret (fun y4=>⟨[(2,.d (di y4))],[]⟩) ?_ ?_ ?_
 refine zD (fun x=>⟨[(44,.d (zW eMapping a0)),(45,.d (di (a0.length:Int))),(46,.d (di x))],[]⟩) hy4 (wc) ?_
 rintro v46 sy4 p4
 replace p4:vM a0 v46=some sy4:=p4
 unfold vM at p4
 refine Q22 ?_
 refine yB p4 (fun p4=>?_) (fun p4=>?_)
 refine Q29 ?_
 have ⟨t48,ht48,p4⟩:=bE p4
 refine q11 S23 ht48 ?_
 refine q90 zIJ ht48 ?_
 refine zX2 ?_
 refine zV (zY (t:=10) (lq rfl) rfl rfl rfl) ?_
 refine Q0 ?_
 refine q5 zAX ?_
 refine q6 O9 ?_
 refine z1M ?_
 have ⟨b53,hb53,p4⟩:=bE p4
 refine yH ((zC (lq rfl) rfl).bool (oi hb53)) ?_
 refine q54 (.ip (eMapping.cells t48) (0+2)) zAX ?_
 refine q62 (.d (ds t48.Tag)) O9 ?_
 have ⟨t56,ht56,p4⟩:=bE p4
 refine sqt (.d (db t56)) rfl (fun hb=>by subst hb;exact xV (lq rfl) rfl (zL8 ht56)) ?_
 refine z1I (.d (db (!t56))) ?_
 refine Q36 ?_
 refine yB p4 (fun p4=>?_) (fun p4=>?_)
 refine Q17 ?_
 cases p4
 intro q;cases q
 exact ⟨rfl,wc⟩
 refine Q57 ?_
 cases p4
 exact wc
 refine zG ?_
 cases p4
 intro q;cases q
 exact ⟨rfl,wc⟩
 rintro y4 rfl
 replace h:=eL h
 refine Q3 ?_
 cases h
 refine zB ?_
 exact zH rfl
 rintro y4 rfl
 replace h:=eR h
 cases h
 exact zH rfl
 rintro y3 rfl
 replace h:=eR h
 cases h
 exact zH rfl
 rintro y1 rfl
 replace h:=eR h
 cases h
 exact zH rfl
theorem zFQ {a0 r} (h:u9 a0=some r):zF Tryz.prog 144 [(ds a0)] [(db r)]:=by
 refine co Tryz.func144 ?_;intro _ _ _ _
 unfold u9 at h
 refine Q3 ?_
 refine Q15 ?_
 refine z1M ?_
 refine Q1 ?_
 cases h
 refine zB ?_
 exact zH rfl
theorem zIK {a0 a1 r} (h:vU a0 a1=some r):zF Tryz.prog 135 [(ds a0),(ds a1)] [(di r)]:=by
 refine co Tryz.func135 ?_;intro _ _ _ _
 unfold vU at h
 refine Q59 ?_
 have ⟨t8,ht8,h⟩:=bE h
 refine q8 (zFQ ht8) ?_
 refine Q19 ?_
 have ⟨t10,ht10,h⟩:=bE h
 refine q8 (zFQ ht10) ?_
 refine Q1 ?_
 refine z16 ?_
 refine yB h (fun h=>?_) (fun h=>?_)
 refine z16 ?_
 refine yB h (fun h=>?_) (fun h=>?_)
 refine Q3 ?_
 cases h
 refine zB ?_
 exact zH rfl
 refine Q58 ?_
 cases h
 refine zB ?_
 exact zH rfl
 refine Q95 ?_
 refine zL ?_
 refine yB h (fun h=>?_) (fun h=>?_)
 refine Q3 ?_
 cases h
 refine zB ?_
 exact zH rfl
 refine zP<|Q12 ?_
 refine yH (z3X (a:=a0) (b:=a1) (lq rfl) rfl rfl) ?_
 refine zL ?_
 refine yB h (fun h=>?_) (fun h=>?_)
 refine Q3 ?_
 cases h
 refine zB ?_
 exact zH rfl
 refine zP<|Q12 ?_
 refine yH (yBJ (a:=a0) (b:=a1) (lq rfl) rfl rfl) ?_
 refine zL ?_
 refine yB h (fun h=>?_) (fun h=>?_)
 refine Q3 ?_
 cases h
 refine zB ?_
 exact zH rfl
 refine Q58 ?_
 cases h
 refine zB ?_
 exact zH rfl
theorem zK7 {a0 r} (h:zDE a0=some r):zF Tryz.prog 134 [(zW eI a0)] [(di r)]:=by
 refine co Tryz.func134 ?_;intro _ _ _ _
 unfold zDE at h
 refine Q3 ?_
 refine Q47 ?_
 refine Q94 ?_
 have ⟨y1,hy1,h⟩:=bE h
 refine zK y1 (.exit 0) (fun y1=>⟨[(3,.d (di 0))],[]⟩) .ret (fun y1=>⟨[(2,.d (di y1))],[]⟩) ?_ ?_ ?_
 refine zD (fun x=>⟨[(3,.d (di 0)),(6,.d (zW eI a0)),(7,.d (di (a0.length:Int))),(8,.d (di x))],[]⟩) hy1 (wc) ?_
 rintro v8 sy1 p1
 replace p1:zA8 a0 v8=some sy1:=p1
 unfold zA8 at p1
 refine Q22 ?_
 refine yB p1 (fun p1=>?_) (fun p1=>?_)
 refine Q29 ?_
 have ⟨t10,ht10,p1⟩:=bE p1
 refine q11 yU ht10 ?_
 refine q35 O3 ht10 ?_
 refine Q1 ?_
 refine Q15 ?_
 refine Q33 ?_
 refine yB p1 (fun p1=>?_) (fun p1=>?_)
 refine Q35 ?_
 refine zB ?_
 cases p1
 intro q;cases q
 exact ⟨rfl,wc⟩
 refine Q57 ?_
 cases p1
 exact wc
 refine zG ?_
 cases p1
 intro q;cases q
 exact ⟨rfl,wc⟩
 rintro y1 rfl
 replace h:=eL h
 refine Q35 ?_
 cases h
 refine zB ?_
 exact zH rfl
 rintro y1 rfl
 replace h:=eR h
 cases h
 exact zH rfl
theorem zK8 {a0 a1 r} (h:zA3 a0 a1=some r):zF Tryz.prog 120 [(eMapping.dv a0),(eMapping.dv a1)] [(di r)]:=by
 refine co Tryz.func120 ?_;intro _ _ _ _
 unfold zA3 at h
 refine Q40 ?_
 refine q40 ?_
 refine Q16 ?_
 refine z7 MX rfl ?_
 refine q19 zDJ ?_
 refine q33 O3 ?_
 refine q19 zDJ ?_
 refine q33 O3 ?_
 have ⟨t9,ht9,h⟩:=bE h
 refine q22 (xL ht9) ?_
 refine q19 zAX ?_
 refine q33 O9 ?_
 refine q19 zAX ?_
 refine q33 O9 ?_
 have ⟨t14,ht14,h⟩:=bE h
 refine q22 (zIK ht14) ?_
 refine z8J yU ?_
 have ⟨t16,ht16,h⟩:=bE h
 refine q22 (zK7 ht16) ?_
 refine Q51 ?_
 cases h
 refine zB ?_
 exact zH rfl
theorem zHR {a0 r} (h:zB7 a0=some r):zF Tryz.prog 121 [(eMapping.dv a0)] [(eMapping_key.dv r)]:=by
 refine co Tryz.func121 ?_;intro _ _ _ _
 unfold zB7 at h
 refine Q40 ?_
 refine kP rfl (kX (zs:=[(.int IntKind.i64 (0)),(.string ⟨#[]⟩)]) (lq rfl) (by kernel_rfl) rfl rfl) ?_
 refine Q52 ?_
 refine zSN ?_
 refine q5 zAX ?_
 refine q6 O9 ?_
 refine q48 yF5 ?_
 refine q16 yD8 ?_
 refine zL ?_
 cases h
 refine zB ?_
 exact vH rfl rfl yD8 rfl
theorem zNB {a0 r} (h:zB8 a0=some r):zF Tryz.prog 95 [(zW eMapping a0)] [(di r)]:=by
 refine co Tryz.func95 ?_;intro _ _ _ _
 unfold zB8 at h
 refine Q47 ?_
 have ⟨t10,ht10,h⟩:=bE h
 refine q8 (zNA ht10) ?_
 refine Q62 ?_
 refine yB h (fun h=>?_) (fun h=>?_)
 refine Q35 ?_
 cases h
 refine zB ?_
 exact zH rfl
 refine Q58 ?_
 refine Q32 ?_
 have ⟨y1,hy1,h⟩:=bE h
 refine tl (.exit 0) ⟨[(0,.d (zW eMapping a0)),(4,.d (db y1))],[]⟩ ?_ ?_
 refine zD (fun x=>⟨[(0,.d (zW eMapping a0)),(4,.d (db x.1)),(5,.d (di x.2))],[]⟩) hy1 (wc) ?_
 rintro ⟨v4,v5⟩ sy1 p1
 replace p1:xY a0 v4 v5=some sy1:=p1
 unfold xY at p1
 refine Q60 ?_
 refine yB p1 (fun p1=>?_) (fun p1=>?_)
 refine Q5 ?_
 have ⟨y2,hy2,p1⟩:=bE p1
 refine tl .normal ⟨[(0,.d (zW eMapping a0)),(4,.d (db y2)),(5,.d (di v5))],[]⟩ ?_ ?_
 refine kT<|kL ?_
 refine z7 MX rfl ?_
 refine Q27 ?_
 refine zVD ?_
 have ⟨t23,ht23,hy2⟩:=bE hy2
 refine q23 S23 ht23 ?_
 refine z8K zIJ ht23 ?_
 refine Q27 ?_
 have ⟨t27,ht27,hy2⟩:=bE hy2
 refine q23 S23 ht27 ?_
 refine z8K zIJ ht27 ?_
 have ⟨t29,ht29,hy2⟩:=bE hy2
 refine q22 (zK8 ht29) ?_
 refine vB (zH6 (lq rfl) rfl rfl) ?_
 refine xQ ?_
 refine yB hy2 (fun hy2=>?_) (fun hy2=>?_)
 refine zBD<|Q1 ?_
 cases hy2
 exact zN (wc)
 refine zP ?_
 cases hy2
 exact zN (wc)
 refine Q11 ?_
 cases p1
 exact wc
 refine zG ?_
 cases p1
 intro q;cases q
 exact zN (wc)
 refine z16 ?_
 refine yB h (fun h=>?_) (fun h=>?_)
 refine Q3 ?_
 cases h
 refine zB ?_
 exact zH rfl
 refine Q50 ?_
 refine z4Y ?_
 refine Q13 ?_
 refine Q4 ?_
 refine zX1 ?_
 have ⟨y3,hy3,h⟩:=bE h
 refine zK y3 (.exit 2) (fun y3=>⟨[],[]⟩) .ret (fun y3=>⟨[(2,.d (di y3))],[]⟩) ?_ ?_ ?_
 refine zD (fun x=>⟨[(6,.row 32),(33,.d (zW eMapping a0)),(34,.d (di (a0.length:Int))),(35,.d (di x.1))],[(32,.map (wS zEX eB x.2))]⟩) hy3 (wc) ?_
 rintro ⟨v35,r32⟩ sy3 p3
 replace p3:xZ a0 v35 r32=some sy3:=p3
 unfold xZ at p3
 refine Q22 ?_
 refine yB p3 (fun p3=>?_) (fun p3=>?_)
 refine Q29 ?_
 have ⟨t37,ht37,p3⟩:=bE p3
 refine q11 S23 ht37 ?_
 refine q90 zIJ ht37 ?_
 refine zX2 ?_
 refine zV (zY (t:=8) (lq rfl) rfl rfl rfl) ?_
 refine Q31 ?_
 refine q10 ?_
 refine q21 zIJ ?_
 have ⟨t41,ht41,p3⟩:=bE p3
 refine q8 (zHR ht41) ?_
 refine yH (z06 (kv:=zEX) (ev:=eB) (mp:=r32) (k:=t41) (zero:=false) (lq rfl) yEB yEI rfl rfl rfl (z7U rfl) (fun _ _=> .v _)) ?_
 refine zL ?_
 refine yB p3 (fun p3=>?_) (fun p3=>?_)
 refine Q17 ?_
 cases p3
 intro q;cases q
 exact ⟨rfl,wc⟩
 refine zP<|Q64 ?_
 refine q21 zIJ ?_
 have ⟨t45,ht45,p3⟩:=bE p3
 refine q8 (zHR ht45) ?_
 refine kP rfl (zKW (kv:=zEX) (ev:=eB) (mp:=r32) (k:=t45) (v:=true) yEB yEI rfl rfl rfl (z7U rfl) rfl rfl rfl) ?_
 refine zL<|Q24 ?_
 cases p3
 exact wc
 refine zG ?_
 cases p3
 intro q;cases q
 exact ⟨rfl,wc⟩
 rintro y3 rfl
 replace h:=eL h
 refine Q3 ?_
 cases h
 refine zB ?_
 exact zH rfl
 rintro y3 rfl
 replace h:=eR h
 cases h
 exact zH rfl
set_option maxRecDepth 20000 in
theorem zK9 {a0 r} (h:zEM a0=some r):zF Tryz.prog 158 [(.v (.int .u64 a0))] [(di r)]:=by
 refine co Tryz.func158 ?_;intro _ _ _ _
 unfold zEM at h
 refine Q47 ?_
 refine Q99 ?_
 have ⟨y1,hy1,h⟩:=bE h
 refine tl .normal ⟨[(0,.d (.v (.int .u64 y1.1))),(2,.d (di y1.2))],[]⟩ ?_ ?_
 refine yB hy1 (fun hy1=>?_) (fun hy1=>?_)
 refine Q2 ?_
 refine q71 ?_
 refine Q1 ?_
 refine zBD<|Q1 ?_
 cases hy1
 exact zN (wc)
 refine zP ?_
 cases hy1
 exact zN (wc)
 refine Q4 ?_
 refine Q99 ?_
 have ⟨y2,hy2,h⟩:=bE h
 refine tl .normal ⟨[(0,.d (.v (.int .u64 y2.1))),(2,.d (di y2.2))],[]⟩ ?_ ?_
 refine yB hy2 (fun hy2=>?_) (fun hy2=>?_)
 refine Q2 ?_
 refine q71 ?_
 refine Q1 ?_
 refine Q11 ?_
 cases hy2
 exact zN (wc)
 refine zP ?_
 cases hy2
 exact zN (wc)
 refine Q4 ?_
 refine Q99 ?_
 have ⟨y3,hy3,h⟩:=bE h
 refine tl .normal ⟨[(0,.d (.v (.int .u64 y3.1))),(2,.d (di y3.2))],[]⟩ ?_ ?_
 refine yB hy3 (fun hy3=>?_) (fun hy3=>?_)
 refine Q2 ?_
 refine q71 ?_
 refine Q1 ?_
 refine Q11 ?_
 cases hy3
 exact zN (wc)
 refine zP ?_
 cases hy3
 exact zN (wc)
 refine Q15 ?_
 refine q49 Tryz.underlying195 Tryz.underlying5 ?_
 have ⟨t22,ht22,h⟩:=bE h
 refine z8B Tryz.underlying9 ht22 ?_
 refine q49 Tryz.underlying5 Tryz.underlying3 ?_
 refine Q9 ?_
 cases h
 refine zB ?_
 exact zH rfl
theorem zNC {a0 r} (h:zB9 a0=some r):zF Tryz.prog 146 [(.v (.int .u64 a0))] [(di r)]:=by
 refine co Tryz.func146 ?_;intro _ _ _ _
 unfold zB9 at h
 refine Q3 ?_
 refine kL ?_
 refine yB h (fun h=>?_) (fun h=>?_)
 refine Q2 ?_
 refine q49 Tryz.underlying125 Tryz.underlying124 ?_
 cases h
 refine zP<|Q2 ?_
 have ⟨t7,ht7,h⟩:=bE h
 refine q8 (zK9 ht7) ?_
 refine Q1 ?_
 cases h
 refine zB ?_
 exact zH rfl
set_option maxHeartbeats 8000000 in
theorem zBI {fv3:DV} {a0:(List Range)} {a1:Int} {a2:Int} {a3:Range→Range→Option (Int)} (hf3:∀x0 x1 y,a3 x0 x1=some y→FnC Tryz.prog fv3 [(eRange.dv x0),(eRange.dv x1)] [(di y)]) {r:(List Range)} (h:kF a0 a1 a2 a3=some r):GC Tryz.prog 149 [.row 3000,.d (di a1),.d (di a2),.d fv3] [(3000,.row 143 eRange.size false (eRange.all a0))] [3000] [] [(3000,.row 143 eRange.size false (eRange.all r))]:=by
 refine zCJ Tryz.func149 (by kernel_rfl) rfl (lq rfl) (lq rfl) fun w0 I0 hG0 p0=>?_
 unfold kF at h
 refine Q2 ?_
 refine Q9 ?_
 refine kT ?_
 have ⟨y1,hy1,h⟩:=bE h
 refine tl (.exit 0) ⟨[(0,.row 3000)],[(3000,.row 143 eRange.size false (eRange.all y1))]⟩ ?_ ?_
 refine zD (fun x=>⟨[(0,.row 3000),(1,.d (di a1)),(2,.d (di a2)),(3,.d fv3),(8,.d (di x.1))],[(3000,.row 143 eRange.size false (eRange.all x.2))]⟩) hy1 (wc) ?_
 rintro ⟨v8,r3000⟩ sy1 p1
 replace p1:z3 a2 a1 a3 v8 r3000=some sy1:=p1
 unfold z3 at p1
 refine Q72 ?_
 refine yB p1 (fun p1=>?_) (fun p1=>?_)
 refine Q8 ?_
 refine Q35 ?_
 refine kT ?_
 have ⟨y2,hy2,p1⟩:=bE p1
 refine tl (.exit 2) ⟨[(0,.row 3000),(1,.d (di a1)),(2,.d (di a2)),(3,.d fv3),(8,.d (di v8))],[(3000,.row 143 eRange.size false (eRange.all y2))]⟩ ?_ ?_
 refine zD (fun x=>⟨[(0,.row 3000),(1,.d (di a1)),(2,.d (di a2)),(3,.d fv3),(8,.d (di v8)),(9,.d (di x.1))],[(3000,.row 143 eRange.size false (eRange.all x.2))]⟩) hy2 (wc) ?_
 rintro ⟨v9,r3000⟩ sy2 p2
 replace p2:yF a1 a3 v9 r3000=some sy2:=p2
 unfold yF at p2
 refine kL<|kL ?_
 refine z7 MX rfl ?_
 refine Q27 ?_
 refine zXS ?_
 have ⟨b21,hb21,p2⟩:=bE p2
 refine vB ((zC (lq rfl) rfl).bool (oi hb21)) ?_
 refine q59 (.d fv3) ?_
 refine z44 (.row 3000) ?_
 refine q59 (.d (di v9)) ?_
 have ⟨t25,ht25,p2⟩:=bE p2
 refine dat (.ptr 3000 (v9.toNat*eRange.size)) rfl (fun hb=>by subst hb;exact zCV (en:=eRange) (l:=r3000) (lq rfl) S24 rfl rfl rfl ht25) ?_
 refine dat (.d (eRange.dv t25)) rfl (fun hb=>by subst hb;exact xW (en:=eRange) (l:=r3000) (i:=v9) (v:=t25) (off:=0) (lq rfl) zA5 rfl rfl ht25 rfl rfl (by decide)) ?_
 refine z44 (.row 3000) ?_
 refine q59 (.d (di v9)) ?_
 refine z1N (.d (di (wi (v9 - 1)))) ?_
 have ⟨t30,ht30,p2⟩:=bE p2
 refine dat (.ptr 3000 ((wi (v9 - 1)).toNat*eRange.size)) rfl (fun hb=>by subst hb;exact zCV (en:=eRange) (l:=r3000) (lq rfl) S24 rfl rfl rfl ht30) ?_
 refine dat (.d (eRange.dv t30)) rfl (fun hb=>by subst hb;exact xW (en:=eRange) (l:=r3000) (i:=(wi (v9 - 1))) (v:=t30) (off:=0) (lq rfl) zA5 rfl rfl ht30 rfl rfl (by decide)) ?_
 have ⟨t32,ht32,p2⟩:=bE p2
 refine dat (.d (di t32)) rfl (fun hb=>by subst hb;exact zDP (lq rfl) rfl rfl (hf3 _ _ _ ht32)) ?_
 refine dat (.d (db (decide (t32 < 0)))) rfl (fun hb=>by subst hb;exact zKJ (lq rfl) rfl rfl) ?_
 refine Q98 ?_
 refine yB p2 (fun p2=>?_) (fun p2=>?_)
 refine Q8 ?_
 have ⟨t45,ht45,p2⟩:=bE p2
 have ⟨t49,ht49,p2⟩:=bE p2
 have ⟨t51,ht51,p2⟩:=bE p2
 have ⟨r3000_6x15,hr3000_6x15,p2⟩:=bE p2
 have ⟨t52,ht52,p2⟩:=bE p2
 have ⟨r3000_6x17,hr3000_6x17,p2⟩:=bE p2
 refine tl .normal ⟨[(0,.row 3000),(1,.d (di a1)),(2,.d (di a2)),(3,.d fv3),(8,.d (di v8)),(9,.d (di v9))],[(3000,.row 143 eRange.size false (eRange.all r3000_6x17))]⟩ ?_ ?_
 refine zCX MX ?_
 refine z17 ?_
 refine xm 3 ?_
 refine zHH (i:=4) rfl (lq rfl) rfl rfl rfl rfl rfl rfl ?_
 refine xm 5 ?_
 refine xm 6 ?_
 refine zHH (i:=7) rfl (lq rfl) rfl rfl rfl rfl rfl rfl ?_
 refine xm 10 ?_
 refine xm 11 ?_
 refine xn [8,12] ?_
 refine yES S24 ht45 ?_ ?_
 refine xn [9,12] ?_
 refine xa rfl (xW (en:=eRange) (l:=r3000) (i:=(wi (v9 - 1))) (v:=t45) (off:=0) (lq rfl) zA5 rfl rfl ht45 rfl rfl (by decide)) ?_ ?_
 refine xn [12] ?_
 refine q34 S24 ht49 ?_
 refine xn [13] ?_
 refine xc rfl (xW (en:=eRange) (l:=r3000) (i:=v9) (v:=t49) (off:=0) (lq rfl) zA5 rfl rfl ht49 rfl rfl (by decide)) ?_
 refine xn [14] ?_
 refine q34 S24 ht51 ?_
 refine xn [15] ?_
 refine q74 zA5 hr3000_6x15 ?_
 refine xn [16] ?_
 refine q34 S24 ht52 ?_
 refine xn [17] ?_
 refine q74 zA5 hr3000_6x17 ?_
 exact ae
 refine q34 S24 ht49 ?_
 refine xn [9,13] ?_
 refine xa rfl (xW (en:=eRange) (l:=r3000) (i:=(wi (v9 - 1))) (v:=t45) (off:=0) (lq rfl) zA5 rfl rfl ht45 rfl rfl (by decide)) ?_ ?_
 refine xn [13] ?_
 refine xc rfl (xW (en:=eRange) (l:=r3000) (i:=v9) (v:=t49) (off:=0) (lq rfl) zA5 rfl rfl ht49 rfl rfl (by decide)) ?_
 refine xn [14] ?_
 refine q34 S24 ht51 ?_
 refine xn [15] ?_
 refine q74 zA5 hr3000_6x15 ?_
 refine xn [16] ?_
 refine q34 S24 ht52 ?_
 refine xn [17] ?_
 refine q74 zA5 hr3000_6x17 ?_
 exact ae
 refine xc rfl (xW (en:=eRange) (l:=r3000) (i:=v9) (v:=t49) (off:=0) (lq rfl) zA5 rfl rfl ht49 rfl rfl (by decide)) ?_
 refine xn [9] ?_
 refine xc rfl (xW (en:=eRange) (l:=r3000) (i:=(wi (v9 - 1))) (v:=t45) (off:=0) (lq rfl) zA5 rfl rfl ht45 rfl rfl (by decide)) ?_
 refine xn [14] ?_
 refine q34 S24 ht51 ?_
 refine xn [15] ?_
 refine q74 zA5 hr3000_6x15 ?_
 refine xn [16] ?_
 refine q34 S24 ht52 ?_
 refine xn [17] ?_
 refine q74 zA5 hr3000_6x17 ?_
 exact ae
 refine q34 S24 ht49 ?_
 refine xn [8,13] ?_
 refine yES S24 ht45 ?_ ?_
 refine xn [9,13] ?_
 refine xa rfl (xW (en:=eRange) (l:=r3000) (i:=(wi (v9 - 1))) (v:=t45) (off:=0) (lq rfl) zA5 rfl rfl ht45 rfl rfl (by decide)) ?_ ?_
 refine xn [13] ?_
 refine xc rfl (xW (en:=eRange) (l:=r3000) (i:=v9) (v:=t49) (off:=0) (lq rfl) zA5 rfl rfl ht49 rfl rfl (by decide)) ?_
 refine xn [14] ?_
 refine q34 S24 ht51 ?_
 refine xn [15] ?_
 refine q74 zA5 hr3000_6x15 ?_
 refine xn [16] ?_
 refine q34 S24 ht52 ?_
 refine xn [17] ?_
 refine q74 zA5 hr3000_6x17 ?_
 exact ae
 refine xc rfl (xW (en:=eRange) (l:=r3000) (i:=v9) (v:=t49) (off:=0) (lq rfl) zA5 rfl rfl ht49 rfl rfl (by decide)) ?_
 refine xn [9] ?_
 refine xc rfl (xW (en:=eRange) (l:=r3000) (i:=(wi (v9 - 1))) (v:=t45) (off:=0) (lq rfl) zA5 rfl rfl ht45 rfl rfl (by decide)) ?_
 refine xn [14] ?_
 refine q34 S24 ht51 ?_
 refine xn [15] ?_
 refine q74 zA5 hr3000_6x15 ?_
 refine xn [16] ?_
 refine q34 S24 ht52 ?_
 refine xn [17] ?_
 refine q74 zA5 hr3000_6x17 ?_
 exact ae
 refine xc rfl (xW (en:=eRange) (l:=r3000) (i:=v9) (v:=t49) (off:=0) (lq rfl) zA5 rfl rfl ht49 rfl rfl (by decide)) ?_
 refine xn [8] ?_
 refine q34 S24 ht45 ?_
 refine xn [9] ?_
 refine xc rfl (xW (en:=eRange) (l:=r3000) (i:=(wi (v9 - 1))) (v:=t45) (off:=0) (lq rfl) zA5 rfl rfl ht45 rfl rfl (by decide)) ?_
 refine xn [14] ?_
 refine q34 S24 ht51 ?_
 refine xn [15] ?_
 refine q74 zA5 hr3000_6x15 ?_
 refine xn [16] ?_
 refine q34 S24 ht52 ?_
 refine xn [17] ?_
 refine q74 zA5 hr3000_6x17 ?_
 exact ae
 refine Q7 ?_
 refine Q73 ?_
 cases p2
 exact wc
 refine zG ?_
 cases p2
 intro q;cases q
 exact zN (wc)
 refine Q11 ?_
 cases p1
 exact wc
 refine zG ?_
 cases p1
 intro q;cases q
 exact zN (wc)
 cases h
 exact ⟨rfl,⟨rfl,trivial⟩⟩
theorem zCR {fv4:DV} {a0:(List Range)} {a1:Int} {a2:Int} {a3:Int} {a4:Range→Range→Option (Int)} (hf4:∀x0 x1 y,a4 x0 x1=some y→FnC Tryz.prog fv4 [(eRange.dv x0),(eRange.dv x1)] [(di y)]) {r:(List Range)} (h:jQ a0 a1 a2 a3 a4=some r):GC Tryz.prog 145 [.row 3000,.d (di a1),.d (di a2),.d (di a3),.d fv4] [(3000,.row 143 eRange.size false (eRange.all a0))] [3000] [] [(3000,.row 143 eRange.size false (eRange.all r))]:=by
 refine zCJ Tryz.func145 (by kernel_rfl) rfl (lq rfl) (lq rfl) fun w0 I0 hG0 p0=>?_
 unfold jQ at h
 refine Q3 ?_
 refine Q14 ?_
 have ⟨y1,hy1,h⟩:=bE h
 refine tl .ret ⟨[(0,.row 3000)],[(3000,.row 143 eRange.size false (eRange.all y1))]⟩ ?_ ?_
 refine zD (fun x=>⟨[(0,.row 3000),(1,.d (di a1)),(2,.d (di a2)),(3,.d (di a3)),(4,.d fv4),(10,.d (db true)),(11,.d (db true))],[(3000,.row 143 eRange.size false (eRange.all a0))]⟩) hy1 (wc) ?_
 rintro _ sy1 p1
 replace p1:yW a2 a1 a0 a4 a3=some sy1:=p1
 unfold yW at p1
 have ⟨y2,hy2,p1⟩:=bE p1
 refine tl .ret ⟨[(0,.row 3000)],[(3000,.row 143 eRange.size false (eRange.all y2))]⟩ ?_ ?_
 refine Q75 ?_
 refine Q73 ?_
 refine Q4 ?_
 refine q70 ?_
 refine zL ?_
 refine yB hy2 (fun hy2=>?_) (fun hy2=>?_)
 refine zX3 ?_
 have ⟨t30,ht30,hy2⟩:=bE hy2
 refine kP rfl (zBT [(3000,3000)] (zBI hf4 ht30) (lq rfl) (by decide) ⟨rfl,rfl,rfl,rfl,trivial⟩ rfl rfl ⟨rfl,trivial⟩ rfl rfl rfl rfl) ?_
 refine zL<|zB ?_
 cases hy2
 exact zN (wc)
 refine Q95 ?_
 refine Q87 ?_
 refine yB hy2 (fun hy2=>?_) (fun hy2=>?_)
 refine zX3 ?_
 cases hy2
 refine Q95 ?_
 refine Q42 ?_
 have ⟨y3,hy3,hy2⟩:=bE hy2
 refine tl .normal ⟨[(0,.row 3000),(1,.d (di a1)),(2,.d (di a2)),(3,.d (di a3)),(4,.d fv4),(10,.d (db true)),(11,.d (db true)),(12,.d (di (wi (a2 - a1))))],[(3000,.row 143 eRange.size false (eRange.all a0))]⟩ ?_ ?_
 refine yB hy3 (fun hy3=>?_) (fun hy3=>?_)
 refine zX3 ?_
 cases hy3
 refine zP ?_
 cases hy3
 exact zN (wc)
 refine zX3 ?_
 cases hy2
 cases p1
 intro q;cases q
 exact zN (wc)
 cases h
 exact ⟨rfl,⟨rfl,trivial⟩⟩
theorem zBW {fv1:DV} {a0:(List Range)} {a1:Range→Range→Option (Int)} (hf1:∀x0 x1 y,a1 x0 x1=some y→FnC Tryz.prog fv1 [(eRange.dv x0),(eRange.dv x1)] [(di y)]) {r:(List Range)} (h:kN a0 a1=some r):GC Tryz.prog 136 [.row 3000,.d fv1] [(3000,.row 143 eRange.size false (eRange.all a0))] [3000] [] [(3000,.row 143 eRange.size false (eRange.all r))]:=by
 refine zCJ Tryz.func136 (by kernel_rfl) rfl (lq rfl) (lq rfl) fun w0 I0 hG0 p0=>?_
 unfold kN at h
 refine Q43 ?_
 refine z79 S24 ?_
 refine Q1 ?_
 refine Q63 ?_
 refine q49 Tryz.underlying3 Tryz.underlying125 ?_
 have ⟨t11,ht11,h⟩:=bE h
 refine q8 (zNC ht11) ?_
 refine q0 ?_
 have ⟨t13,ht13,h⟩:=bE h
 refine kP rfl (zBT [(3000,3000)] (zCR hf1 ht13) (lq rfl) (by decide) ⟨rfl,rfl,rfl,rfl,rfl,trivial⟩ rfl rfl ⟨rfl,trivial⟩ rfl rfl rfl rfl) ?_
 refine zL ?_
 cases h
 exact ⟨rfl,⟨rfl,trivial⟩⟩
theorem zO0 {a0 a1 r} (h:uN a0 a1=some r):zF Tryz.prog 137 [(eRange.dv a0),(eRange.dv a1)] [(di r)]:=by
 refine co Tryz.func137 ?_;intro _ _ _ _
 unfold uN at h
 refine Q0 ?_
 refine yH (zKQ (size:=2) (lq rfl) rfl rfl) ?_
 refine yH (zKQ (size:=2) (lq rfl) rfl rfl) ?_
 refine Q16 ?_
 refine z7 MX rfl ?_
 refine q19 zGK ?_
 refine q33 O3 ?_
 refine q19 zGK ?_
 refine q33 O3 ?_
 have ⟨t9,ht9,h⟩:=bE h
 refine q22 (xL ht9) ?_
 refine q19 zC3 ?_
 refine q33 O3 ?_
 refine q19 zC3 ?_
 refine q33 O3 ?_
 have ⟨t14,ht14,h⟩:=bE h
 refine q22 (xL ht14) ?_
 refine z8J yU ?_
 have ⟨t16,ht16,h⟩:=bE h
 refine q22 (zK7 ht16) ?_
 refine Q51 ?_
 cases h
 refine zB ?_
 exact zH rfl
theorem zSO {a0 r} (h:zFJ a0=some r):zF Tryz.prog 122 [(zW eRange a0)] [(eSet.dv r)]:=by
 refine co Tryz.func122 ?_;intro _ _ _ _
 unfold zFJ at h
 refine Q0 ?_
 refine z1P ?_
 refine zL<|Q3 ?_
 refine zV (zCT (t:=3) 1003 143 eRange.size (lq rfl) (lq rfl) rfl rfl) ?_
 refine Q4 ?_
 refine q4 S24 ?_
 refine Q30 ?_
 have ⟨y1,hy1,h⟩:=bE h
 refine tl (.exit 0) ⟨[(2,.ptr 2 0),(3,.row 1003)],[(2,.box 26 [.d (.v (.slice none 0 0))]),(1003,.row 143 eRange.size false (eRange.all y1))]⟩ ?_ ?_
 refine zD (fun x=>⟨[(2,.ptr 2 0),(3,.row 1003),(11,.d (zW eRange a0)),(12,.d (di (a0.length:Int))),(13,.d (di x.1))],[(2,.box 26 [.d (.v (.slice none 0 0))]),(1003,.row 143 eRange.size false (eRange.all x.2))]⟩) hy1 (wc) ?_
 rintro ⟨v13,r1003⟩ sy1 p1
 replace p1:uT a0 v13 r1003=some sy1:=p1
 unfold uT at p1
 refine Q22 ?_
 refine yB p1 (fun p1=>?_) (fun p1=>?_)
 refine Q5 ?_
 have ⟨y2,hy2,p1⟩:=bE p1
 refine tl .normal ⟨[(2,.ptr 2 0),(3,.row 1003),(11,.d (zW eRange a0)),(12,.d (di (a0.length:Int))),(13,.d (di v13))],[(2,.box 26 [.d (.v (.slice none 0 0))]),(1003,.row 143 eRange.size false (eRange.all y2))]⟩ ?_ ?_
 refine zXY ?_
 have ⟨t15,ht15,hy2⟩:=bE hy2
 refine q11 S24 ht15 ?_
 refine yH (xH (en:=eRange) (l:=a0) (i:=v13) (v:=t15) (off:=0) (lq rfl) zA5 rfl ht15 rfl rfl (by decide)) ?_
 refine zXT ?_
 refine zX0 ?_
 refine zV (zY (t:=5) (lq rfl) rfl rfl rfl) ?_
 refine Q0 ?_
 refine q5 zGK ?_
 refine q6 O3 ?_
 refine yB4 ?_
 refine q5 zC3 ?_
 refine q6 O3 ?_
 refine z4Z ?_
 refine q48 zU5 ?_
 refine zXT ?_
 refine zX0 ?_
 refine zV (zY (t:=6) (lq rfl) rfl rfl rfl) ?_
 refine Q0 ?_
 refine q5 zGK ?_
 refine q6 O3 ?_
 refine q5 zC3 ?_
 refine q6 O3 ?_
 refine q70 ?_
 refine zL ?_
 refine yB hy2 (fun hy2=>?_) (fun hy2=>?_)
 refine Q64 ?_
 refine q21 zA5 ?_
 refine q24 S24 ?_
 have ⟨r1003_3,hr1003_3,hy2⟩:=bE hy2
 refine kP rfl (jU (en:=eRange) (l:=r1003) (m:=[({Lo:=max t15.Lo 0,Hi:=min t15.Hi 1114111}:Range)]) (lq rfl) S24 rfl rfl rfl hr1003_3 (by decide) (by decide) rfl rfl) ?_
 refine Q13 ?_
 cases hy2
 exact zN (wc)
 refine zP ?_
 cases hy2
 exact zN (wc)
 refine Q24 ?_
 cases p1
 exact wc
 refine zG ?_
 cases p1
 intro q;cases q
 exact zN (wc)
 refine Q43 ?_
 have ⟨t35,ht35,h⟩:=bE h
 refine kP rfl (xR [(3000,1003)] (zBW (fun _ _ _ q=> .inr ⟨_,rfl,zO0 q⟩) ht35) (lq rfl) (by decide) ⟨rfl,rfl,trivial⟩ rfl rfl ⟨rfl,trivial⟩ rfl rfl rfl (fun _=>rfl) rfl) ?_
 refine zL<|Q3 ?_
 refine zV (zCT (t:=7) 1007 143 eRange.size (lq rfl) (lq rfl) rfl rfl) ?_
 refine Q31 ?_
 refine q10 ?_
 refine z79 S24 ?_
 refine Q30 ?_
 have ⟨y4,hy4,h⟩:=bE h
 refine tl (.exit 2) ⟨[(2,.ptr 2 0),(7,.row 1007)],[(2,.box 26 [.d (.v (.slice none 0 0))]),(1007,.row 143 eRange.size false (eRange.all y4))]⟩ ?_ ?_
 refine zD (fun x=>⟨[(2,.ptr 2 0),(7,.row 1007),(36,.row 1003),(37,.d (di (t35.length:Int))),(38,.d (di x.1))],[(2,.box 26 [.d (.v (.slice none 0 0))]),(1003,.row 143 eRange.size false (eRange.all t35)),(1007,.row 143 eRange.size false (eRange.all x.2))]⟩) hy4 (wc) ?_
 rintro ⟨v38,r1007⟩ sy4 p4
 replace p4:uU t35 v38 r1007=some sy4:=p4
 unfold uU at p4
 refine Q22 ?_
 refine yB p4 (fun p4=>?_) (fun p4=>?_)
 refine Q5 ?_
 have ⟨y5,hy5,p4⟩:=bE p4
 refine tl .normal ⟨[(2,.ptr 2 0),(7,.row 1007),(36,.row 1003),(37,.d (di (t35.length:Int))),(38,.d (di v38))],[(2,.box 26 [.d (.v (.slice none 0 0))]),(1003,.row 143 eRange.size false (eRange.all t35)),(1007,.row 143 eRange.size false (eRange.all y5))]⟩ ?_ ?_
 refine zXY ?_
 have ⟨t40,ht40,hy5⟩:=bE hy5
 refine q80 S24 ht40 ?_
 refine yH (xW (en:=eRange) (l:=t35) (i:=v38) (v:=t40) (off:=0) (lq rfl) zA5 rfl rfl ht40 rfl rfl (by decide)) ?_
 refine zXT ?_
 refine zX0 ?_
 refine zV (zY (t:=9) (lq rfl) rfl rfl rfl) ?_
 refine Q31 ?_
 refine q10 ?_
 refine z79 S24 ?_
 refine Q16 ?_
 refine z7 MX rfl ?_
 refine q7 ?_
 refine zXS ?_
 have ⟨b46,hb46,hy5⟩:=bE hy5
 refine vB ((zC (lq rfl) rfl).bool (oi hb46)) ?_
 refine q97 (.ip (eRange.cells t40) (0+0)) zGK ?_
 refine q98 (.d (di t40.Lo)) O3 ?_
 refine z44 (.row 1007) ?_
 refine q59 (.d (di (r1007.length:Int))) ?_
 refine z1N (.d (di (wi ((r1007.length:Int) - 1)))) ?_
 have ⟨t52,ht52,hy5⟩:=bE hy5
 refine dat (.ptr 1007 ((wi ((r1007.length:Int) - 1)).toNat*eRange.size)) rfl (fun hb=>by subst hb;exact zCV (en:=eRange) (l:=r1007) (lq rfl) S24 rfl rfl rfl ht52) ?_
 refine dat (.ptr 1007 ((wi ((r1007.length:Int) - 1)).toNat*eRange.size+1)) rfl (fun hb=>by subst hb;exact zEK (lq rfl) zC3 rfl) ?_
 refine dat (.d (di t52.Hi)) rfl (fun hb=>by subst hb;exact zKO (en:=eRange) (l:=r1007) (i:=(wi ((r1007.length:Int) - 1))) (v:=t52) (off:=1) (lq rfl) O3 rfl rfl ht52 rfl) ?_
 refine dat (.d (di (wi (t52.Hi+1)))) rfl (fun hb=>by subst hb;exact zQ6 (lq rfl) rfl rfl) ?_
 refine dat (.d (db (decide (t40.Lo≤(wi (t52.Hi+1)))))) rfl (fun hb=>by subst hb;exact zGP (lq rfl) rfl rfl) ?_
 refine Q98 ?_
 refine yB hy5 (fun hy5=>?_) (fun hy5=>?_)
 refine kL ?_
 refine zFG 14 MX rfl ?_
 refine zVJ ?_
 refine zVD ?_
 refine zVJ ?_
 refine zVD ?_
 have ⟨t64,ht64,hy5⟩:=bE hy5
 refine vB (zCV (en:=eRange) (l:=r1007) (lq rfl) S24 rfl rfl rfl ht64) ?_
 refine zVC zC3 ?_
 refine vB (zKO (en:=eRange) (l:=r1007) (i:=(wi ((r1007.length:Int) - 1))) (v:=t64) (off:=1) (lq rfl) O3 rfl rfl ht64 rfl) ?_
 refine q19 zC3 ?_
 refine q33 O3 ?_
 refine vB (zYP (lq rfl) rfl rfl) ?_
 have ⟨t70,ht70,hy5⟩:=bE hy5
 refine vB (zCV (en:=eRange) (l:=r1007) (lq rfl) S24 rfl rfl rfl ht70) ?_
 refine zVC zC3 ?_
 refine xQ ?_
 have ⟨r1007_6,hr1007_6,hy5⟩:=bE hy5
 refine kP rfl (zKT (en:=eRange) (l:=r1007) (i:=(wi ((r1007.length:Int) - 1))) (v:=t70) (off:=1) O3 rfl rfl rfl ht70 rfl (by decide) hr1007_6 rfl rfl) ?_
 refine zL<|zG ?_
 cases hy5
 exact zN (wc)
 refine zP<|Q64 ?_
 refine q21 zA5 ?_
 refine q24 S24 ?_
 have ⟨r1007_7,hr1007_7,hy5⟩:=bE hy5
 refine kP rfl (jU (en:=eRange) (l:=r1007) (m:=[t40]) (lq rfl) S24 rfl rfl rfl hr1007_7 (by decide) (by decide) rfl rfl) ?_
 refine Q13 ?_
 cases hy5
 exact zN (wc)
 refine Q24 ?_
 cases p4
 exact wc
 refine zG ?_
 cases p4
 intro q;cases q
 exact zN (wc)
 refine Q43 ?_
 refine zIT (zG9 (t:=77) (lq rfl) rfl rfl) ?_ (by simp)
 refine q48 B26 ?_
 refine q16 G26 ?_
 refine zL ?_
 cases h
 refine zB ?_
 exact vH rfl rfl G26 rfl
theorem zP7 {a0 r} (h:zD4 a0=some r):zF Tryz.prog 96 [(eSet.dv a0)] [(db r)]:=by
 refine co Tryz.func96 ?_;intro _ _ _ _
 unfold zD4 at h
 refine Q91 ?_
 refine Q39 ?_
 refine Q92 ?_
 have ⟨t8,ht8,h⟩:=bE h
 refine q8 (zSO ht8) ?_
 refine z1P ?_
 refine q16 G26 ?_
 refine zL ?_
 refine zV (zY (t:=3) (lq rfl) rfl rfl rfl) ?_
 refine Q31 ?_
 refine Q97 ?_
 refine Q97 ?_
 refine Q33 ?_
 refine yB h (fun h=>?_) (fun h=>?_)
 refine Q3 ?_
 cases h
 refine zB ?_
 exact zH rfl
 refine Q71 ?_
 refine Q97 ?_
 refine Q30 ?_
 have ⟨y1,hy1,h⟩:=bE h
 refine zK y1 (.exit 0) (fun y1=>⟨[],[]⟩) .ret (fun y1=>⟨[(2,.d (db y1))],[]⟩) ?_ ?_ ?_
 refine zD (fun x=>⟨[(1,.d (.pt (eSet.cells a0))),(17,.d (zW eRange t8.Ranges)),(18,.d (di (t8.Ranges.length:Int))),(19,.d (di x))],[]⟩) hy1 (wc) ?_
 rintro v19 sy1 p1
 replace p1:zAA t8 a0 v19=some sy1:=p1
 unfold zAA at p1
 refine Q22 ?_
 refine yB p1 (fun p1=>?_) (fun p1=>?_)
 refine Q8 ?_
 refine Q2 ?_
 have ⟨t22,ht22,p1⟩:=bE p1
 refine q11 S24 ht22 ?_
 refine yH (xH (en:=eRange) (l:=t8.Ranges) (i:=v19) (v:=t22) (off:=0) (lq rfl) zA5 rfl ht22 rfl rfl (by decide)) ?_
 refine zXT ?_
 refine q1 ?_
 refine zX0 ?_
 refine zV (zY (t:=5) (lq rfl) rfl rfl rfl) ?_
 refine kL ?_
 refine z7 MX rfl ?_
 refine q69 zA5 ?_
 refine q19 zGT ?_
 refine q33 O24 ?_
 refine q7 ?_
 have ⟨t28,ht28,p1⟩:=bE p1
 refine q23 S24 ht28 ?_
 refine vB (xH (en:=eRange) (l:=a0.Ranges) (i:=v19) (v:=t28) (off:=0) (lq rfl) zA5 rfl ht28 rfl rfl (by decide)) ?_
 refine vB (zSA (en:=eRange) (a:=t22) (b:=t28) (lq rfl) yEG rfl rfl) ?_
 refine xQ ?_
 refine yB p1 (fun p1=>?_) (fun p1=>?_)
 refine Q17 ?_
 cases p1
 intro q;cases q
 exact ⟨rfl,wc⟩
 refine Q57 ?_
 cases p1
 exact wc
 refine zG ?_
 cases p1
 intro q;cases q
 exact ⟨rfl,wc⟩
 rintro y1 rfl
 replace h:=eL h
 refine Q3 ?_
 cases h
 refine zB ?_
 exact zH rfl
 rintro y1 rfl
 replace h:=eR h
 cases h
 exact zH rfl
theorem zGL {a0 r} (h:zBN a0=some r):zF Tryz.prog 90 [(di a0)] [(di r)]:=by
 refine co Tryz.func90 ?_;intro _ _ _ _
 unfold zBN at h
 refine Q3 ?_
 refine kL<|Q80 ?_
 refine q44 ?_
 have ⟨b6,hb6,h⟩:=bE h
 refine yH ((zC (lq rfl) rfl).bool (oi hb6)) ?_
 refine q13 (.d (di a0)) ?_
 refine q73 (.d (db (decide (a0 < 4371)))) ?_
 refine Q41 ?_
 refine yB h (fun h=>?_) (fun h=>?_)
 refine Q3 ?_
 cases h
 refine zB ?_
 exact zH rfl
 refine Q2 ?_
 refine q44 ?_
 have ⟨b13,hb13,h⟩:=bE h
 refine yH ((zC (lq rfl) rfl).bool (oi hb13)) ?_
 refine q13 (.d (di a0)) ?_
 refine q73 (.d (db (decide (a0 < 4470)))) ?_
 refine Q41 ?_
 refine yB h (fun h=>?_) (fun h=>?_)
 refine Q3 ?_
 cases h
 refine zB ?_
 exact zH rfl
 refine Q2 ?_
 refine q44 ?_
 have ⟨b20,hb20,h⟩:=bE h
 refine yH ((zC (lq rfl) rfl).bool (oi hb20)) ?_
 refine q13 (.d (di a0)) ?_
 refine q73 (.d (db (decide (a0 < 4547)))) ?_
 refine Q41 ?_
 refine yB h (fun h=>?_) (fun h=>?_)
 refine Q3 ?_
 cases h
 refine zB ?_
 exact zH rfl
 refine Q2 ?_
 refine q3 ?_
 have ⟨b27,hb27,h⟩:=bE h
 refine yH ((zC (lq rfl) rfl).bool (oi hb27)) ?_
 refine q38 (.d (di a0)) ?_
 refine zXQ (.d (db (decide (55204≤a0)))) ?_
 refine q18 ?_
 refine Q1 ?_
 refine yB h (fun h=>?_) (fun h=>?_)
 refine Q3 ?_
 cases h
 refine zB ?_
 exact zH rfl
 refine Q2 ?_
 refine q31 ?_
 have ⟨t34,ht34,h⟩:=bE h
 refine q91 ht34 ?_
 refine Q88 ?_
 refine yB h (fun h=>?_) (fun h=>?_)
 refine Q3 ?_
 cases h
 refine zB ?_
 exact zH rfl
 refine Q58 ?_
 cases h
 refine zB ?_
 exact zH rfl
theorem zGF {a0 r} (h:uD a0=some r):zF Tryz.prog 105 [(zW eSpan a0)] [(zW eSpan r)]:=by
 refine co Tryz.func105 ?_;intro _ _ _ _
 unfold uD at h
 refine Q47 ?_
 have ⟨t4,ht4,h⟩:=bE h
 refine q8 (zGY ht4) ?_
 refine Q33 ?_
 refine yB h (fun h=>?_) (fun h=>?_)
 refine Q3 ?_
 refine zV (zDC (t:=2) eSpan.size (lq rfl) rfl) ?_
 cases h
 refine zB ?_
 exact zH rfl
 refine zP<|Q35 ?_
 cases h
 refine zB ?_
 exact zH rfl
theorem uP {fv2:DV} {a0:(List Span)} {a1:Int} {a2:Span→Int→Option (Int)} (hf2:∀x0 x1 y,a2 x0 x1=some y→FnC Tryz.prog fv2 [(eSpan.dv x0),(di x1)] [(di y)]) {r:Int×Bool} (h:kA a0 a1 a2=some r):zF Tryz.prog 130 [(zW eSpan a0),(di a1),fv2] [(di r.1),(db r.2)]:=by
 refine co Tryz.func130 ?_;intro _ _ _ _
 unfold kA at h
 refine Q0 ?_
 refine z18 ?_
 refine q4 S22 ?_
 refine Q19 ?_
 refine q1 ?_
 refine Q76 ?_
 have ⟨y1,hy1,h⟩:=bE h
 refine tl (.exit 0) ⟨[(0,.d (zW eSpan a0)),(1,.d (di a1)),(2,.d fv2),(8,.d (di (a0.length:Int))),(9,.d (di y1))],[]⟩ ?_ ?_
 refine zD (fun x=>⟨[(0,.d (zW eSpan a0)),(1,.d (di a1)),(2,.d fv2),(8,.d (di (a0.length:Int))),(9,.d (di x.1)),(10,.d (di x.2))],[]⟩) hy1 (wc) ?_
 rintro ⟨v9,v10⟩ sy1 p1
 replace p1:z0 a0 a2 a1 v9 v10=some sy1:=p1
 unfold z0 at p1
 refine Q72 ?_
 refine yB p1 (fun p1=>?_) (fun p1=>?_)
 refine zP ?_
 have ⟨y2,hy2,p1⟩:=bE p1
 refine tl .normal ⟨[(0,.d (zW eSpan a0)),(1,.d (di a1)),(2,.d fv2),(8,.d (di (a0.length:Int))),(9,.d (di y2.1)),(10,.d (di y2.2))],[]⟩ ?_ ?_
 refine Q75 ?_
 refine zX4 ?_
 refine Q1 ?_
 refine Q15 ?_
 refine q0 ?_
 have ⟨t27,ht27,hy2⟩:=bE hy2
 refine q11 S22 ht27 ?_
 refine z8I G62 ht27 ?_
 refine q0 ?_
 have ⟨t30,ht30,hy2⟩:=bE hy2
 refine yH (zDP (lq rfl) rfl rfl (hf2 _ _ _ ht30)) ?_
 refine Q6 ?_
 refine yB hy2 (fun hy2=>?_) (fun hy2=>?_)
 refine Q11 ?_
 cases hy2
 exact zN (wc)
 refine Q81 ?_
 cases hy2
 exact zN (wc)
 cases p1
 exact wc
 refine zG ?_
 cases p1
 intro q;cases q
 exact zN (wc)
 refine Q15 ?_
 refine q0 ?_
 refine q3 ?_
 have ⟨b39,hb39,h⟩:=bE h
 refine yH ((zC (lq rfl) rfl).bool (oi hb39)) ?_
 refine q13 (.d fv2) ?_
 refine q13 (.d (zW eSpan a0)) ?_
 refine q13 (.d (di y1)) ?_
 have ⟨t43,ht43,h⟩:=bE h
 refine sqt (.ip (eSpan.all a0) (y1.toNat*eSpan.size)) rfl (fun hb=>by subst hb;exact kM (en:=eSpan) (lq rfl) S22 rfl rfl ht43) ?_
 refine sqt (.d (eSpan.dv t43)) rfl (fun hb=>by subst hb;exact xH (en:=eSpan) (l:=a0) (i:=y1) (v:=t43) (off:=0) (lq rfl) G62 rfl ht43 rfl rfl (by decide)) ?_
 refine q13 (.d (di a1)) ?_
 have ⟨t46,ht46,h⟩:=bE h
 refine sqt (.d (di t46)) rfl (fun hb=>by subst hb;exact zDP (lq rfl) rfl rfl (hf2 _ _ _ ht46)) ?_
 refine q79 (.d (db (decide (t46=0)))) ?_
 refine q14 ?_
 refine Q46 ?_
 cases h
 refine zB ?_
 exact zHA rfl rfl
theorem zJ5 {a0 a1 r} (h:vN a0 a1=some r):zF Tryz.prog 131 [(eSpan.dv a0),(di a1)] [(di r)]:=by
 refine co Tryz.func131 ?_;intro _ _ _ _
 unfold vN at h
 refine Q40 ?_
 refine Q76 ?_
 refine Q0 ?_
 refine q5 zGV ?_
 refine q6 O3 ?_
 refine q0 ?_
 refine q3 ?_
 refine Q1 ?_
 refine yB h (fun h=>?_) (fun h=>?_)
 refine Q3 ?_
 cases h
 refine zB ?_
 exact zH rfl
 refine Q0 ?_
 refine q5 zGU ?_
 refine q6 O3 ?_
 refine q0 ?_
 refine q37 ?_
 refine Q1 ?_
 refine yB h (fun h=>?_) (fun h=>?_)
 refine Q3 ?_
 cases h
 refine zB ?_
 exact zH rfl
 refine Q58 ?_
 cases h
 refine zB ?_
 exact zH rfl
theorem zDK {a0 a1 r} (h:kG a0 a1=some r):zF Tryz.prog 109 [(zW eSpan a0),(di a1)] [(di r)]:=by
 refine co Tryz.func109 ?_;intro _ _ _ _
 unfold kG at h
 refine Q3 ?_
 refine Q15 ?_
 have ⟨t10,ht10,h⟩:=bE h
 refine q8 (uP (fun _ _ _ q=> .inr ⟨_,rfl,zJ5 q⟩) ht10) ?_
 refine Q78 ?_
 refine zXZ ?_
 refine Q42 ?_
 refine yB h (fun h=>?_) (fun h=>?_)
 refine Q3 ?_
 cases h
 refine zB ?_
 exact zH rfl
 refine zP<|Q15 ?_
 have ⟨t17,ht17,h⟩:=bE h
 refine q11 S22 ht17 ?_
 refine q46 zHP ?_
 refine yH (zZ (en:=eSpan) (l:=a0) (i:=t10.1) (v:=t17) (off:=2) (lq rfl) O3 rfl ht17 rfl) ?_
 refine Q1 ?_
 cases h
 refine zB ?_
 exact zH rfl
theorem zGG {items:List Range} {a1:(List Int)} {a2:(List Span)} {r:Unit} (h:uE items a1 a2=some r):zT8 Tryz.prog 128 [(.pt [(zW eI a1)]),(.pt [(zW eSpan a2)])] (items.map fun x=>[eRange.dv x]):=by
 refine z7J Tryz.func128 (by kernel_rfl) rfl (lq rfl) (lq rfl) fun w0 I0 J hc hg hG l0 hE=>?_
 unfold uE at h
 refine Q3 ?_
 refine Q31 ?_
 refine q92 O33 ?_
 refine Q94 ?_
 have ⟨y1,hy1,h⟩:=bE h
 refine zK y1 (.exit 0) (fun y1=>⟨[(0,.d (.v (.func (.yield l0) #[] #[]))),(1,.d (.pt [(zW eI a1)])),(4,.d (di y1.1)),(1000000,.gh y1.2)],[]⟩) .ret (fun y1=>⟨[(1000000,.gh y1)],[]⟩) ?_ ?_ ?_
 refine zD (fun x=>⟨[(0,.d (.v (.func (.yield l0) #[] #[]))),(1,.d (.pt [(zW eI a1)])),(2,.d (.pt [(zW eSpan a2)])),(4,.d (di x.1)),(8,.d (zW eI a1)),(9,.d (di (a1.length:Int))),(10,.d (di x.2.1)),(1000000,.gh x.2.2)],[]⟩) hy1 (wc) ?_
 rintro ⟨v4,v10,v1000000⟩ sy1 p1
 replace p1:yX a1 a2 items v4 v10 v1000000=some sy1:=p1
 unfold yX at p1
 refine Q22 ?_
 refine yB p1 (fun p1=>?_) (fun p1=>?_)
 refine Q5 ?_
 have ⟨y2,hy2,p1⟩:=bE p1
 refine zK y2 .normal (fun y2=>⟨[(0,.d (.v (.func (.yield l0) #[] #[]))),(1,.d (.pt [(zW eI a1)])),(2,.d (.pt [(zW eSpan a2)])),(4,.d (di y2.1)),(8,.d (zW eI a1)),(9,.d (di (a1.length:Int))),(10,.d (di v10)),(1000000,.gh y2.2)],[]⟩) .ret (fun y2=>⟨[(1000000,.gh y2)],[]⟩) ?_ ?_ ?_
 refine Q80 ?_
 have ⟨t13,ht13,hy2⟩:=bE hy2
 refine q11 yU ht13 ?_
 refine q35 O3 ht13 ?_
 refine q1 ?_
 refine Q39 ?_
 refine q92 O22 ?_
 refine q0 ?_
 have ⟨t17,ht17,hy2⟩:=bE hy2
 refine q8 (zDK ht17) ?_
 refine Q88 ?_
 have ⟨y3,hy3,hy2⟩:=bE hy2
 refine zK y3 .normal (fun y3=>⟨[(0,.d (.v (.func (.yield l0) #[] #[]))),(1,.d (.pt [(zW eI a1)])),(2,.d (.pt [(zW eSpan a2)])),(4,.d (di y3.1)),(8,.d (zW eI a1)),(9,.d (di (a1.length:Int))),(10,.d (di v10)),(1000000,.gh y3.2)],[]⟩) .ret (fun y3=>⟨[(1000000,.gh y3)],[]⟩) ?_ ?_ ?_
 refine Q80 ?_
 refine q32 ?_
 have ⟨b22,hb22,hy3⟩:=bE hy3
 refine yH ((zC (lq rfl) rfl).bool (oi hb22)) ?_
 refine q13 (.d (di v4)) ?_
 refine q73 (.d (db (decide (v4 < 0)))) ?_
 refine Q41 ?_
 refine yB hy3 (fun hy3=>?_) (fun hy3=>?_)
 refine Q81 ?_
 cases hy3
 exact ⟨rfl,wc⟩
 refine Q2 ?_
 have ⟨b29,hb29,hy3⟩:=bE hy3
 refine yH ((zC (lq rfl) rfl).bool (oi hb29)) ?_
 refine q13 (.d (di v4)) ?_
 refine sqt (.d (db (decide (0≤v4)))) rfl (fun hb=>by subst hb;exact zH6 (lq rfl) rfl rfl) ?_
 refine Q41 ?_
 refine yB hy3 (fun hy3=>?_) (fun hy3=>?_)
 refine Q12 ?_
 refine q0 ?_
 refine q48 zU5 ?_
 have ⟨u37,hu37,hy3⟩:=bE hy3
 refine kP rfl (zYR (k:=v1000000) (lq rfl) hE rfl rfl rfl (z4F _ hu37)) ?_
 refine Q42 ?_
 refine yB hy3 (fun hy3=>?_) (fun hy3=>?_)
 refine zB ?_
 cases hy3
 exact ⟨rfl,wc⟩
 refine zP<|zBD<|Q1 ?_
 cases hy3
 exact ⟨rfl,wc⟩
 refine zP ?_
 cases hy3
 exact ⟨rfl,wc⟩
 rintro y3 rfl
 replace hy2:=eL hy2
 cases hy2
 exact ⟨rfl,wc⟩
 rintro y3 rfl
 replace hy2:=eR hy2
 cases hy2
 exact ⟨rfl,wc⟩
 rintro y2 rfl
 replace p1:=eL p1
 refine Q24 ?_
 cases p1
 exact wc
 rintro y2 rfl
 replace p1:=eR p1
 cases p1
 intro q;cases q
 exact ⟨rfl,wc⟩
 refine zG ?_
 cases p1
 intro q;cases q
 exact ⟨rfl,wc⟩
 rintro y1 rfl
 replace h:=eL h
 refine Q2 ?_
 refine Q99 ?_
 refine yB h (fun h=>?_) (fun h=>?_)
 refine Q66 ?_
 refine q92 O33 ?_
 refine q4 yU ?_
 refine q48 zU5 ?_
 have ⟨u47,hu47,h⟩:=bE h
 refine kP rfl (zYR (k:=y1.2) (lq rfl) hE rfl rfl rfl (z4F _ hu47)) ?_
 refine zL ?_
 exact ⟨rfl,zOR _ h⟩
 refine zP ?_
 exact ⟨rfl,zOR _ h⟩
 rintro y1 rfl
 replace h:=eR h
 exact ⟨rfl,zOR _ h⟩
theorem zHS {a0:List Span} {a1:List Int}:zF Tryz.prog 106 [(zW eSpan a0),(zW eI a1)] [.fn 128 [.pt [zW eI a1],.pt [zW eSpan a0]]]:=by
 refine co Tryz.func106 ?_;intro _ _ _ _
 refine Q91 ?_
 refine q63 ?_
 refine Q39 ?_
 refine yH (zJV (lq rfl) rfl) ?_
 refine Q1 ?_
 refine zB ?_
 exact zH rfl
theorem zVM {f:FuncId} {caps:List DV} {r:List Range} (hit:zT8 Tryz.prog f caps (r.map fun x=>[eRange.dv x])) (hr:r.length≤LIM):zF Tryz.prog 138 [.v (.slice none 0 0),.fn f caps] [zW eRange r]:=by
 refine co Tryz.func138 ?_;intro _ _ _ _
 refine Q0 ?_
 refine kP rfl (zYQ (lq rfl) rfl rfl rfl) ?_
 refine Q1 ?_
 refine zV (zKL (bid:=2) (off:=0) 100 143 eRange.size (lq rfl) (by decide) rfl rfl rfl) ?_
 refine z16 ?_
 refine kT ?_
 refine zQZ [(2,.ptr 2 0),(4,.d (.v (.slice none 0 0)))] [2] (fun k=>[(2,.box 24 [.row 100]),(100,.row 143 eRange.size false (eRange.all (r.take k)))]) rfl hit rfl (fun _ _ _ _ h=>h) ?hk ?hT rfl (fun _=>rfl) ?hbx (fun _ _=>rfl) ?hl ?hpn ?rd ?hK
 case hk=>exact ⟨rfl,rfl,trivial⟩
 case hT=>exact ⟨rfl,rfl,trivial⟩
 case hbx=>intro k id hi;simp at hi;subst hi;exact fun (h:Blk.box _ _=Blk.none)=>by cases h
 case hl=>intro x hx;obtain ⟨y,_,rfl⟩:=List.mem_map.1 hx;rfl
 case hpn=>intro p hp;simp at hp;subst hp;exact (lq rfl)
 case rd=>
  intro w1 Iall X C0 ρ0 defs l1 D lp1 lp2 hok k x hx
  rw [List.getElem?_map] at hx
  obtain ⟨v,hv,rfl⟩:=Option.map_eq_some_iff.1 hx
  have hlt:=(List.getElem?_eq_some_iff.1 hv).1
  have happ:app (r.take k) [v]=some (r.take (k+1)):=by
   unfold app
   rw [if_pos (by simp;omega),List.take_add_one,hv]
   rfl
  refine zBD<|zXT ?_
  refine zX0 ?_
  refine kT<|zBD<|q28 O24 ?_
  refine yH ((zAT (lq rfl) zA5 rfl rfl rfl rfl).data rfl) ?_
  refine q24 S24 ?_
  refine kP rfl (jU (en:=eRange) (l:=r.take k) (m:=[v]) (lq rfl) S24 rfl rfl rfl happ (by decide) (by decide) rfl rfl) ?_
  refine q93 O24 ?_
  refine zL ?_
  exact ⟨rfl,rfl,trivial⟩
 case hK=>
  rw [List.length_map,List.take_length]
  refine Q0 ?_
  refine q28 O24 ?_
  refine Q13 ?_
  refine zB ?_
  exact zH rfl
theorem z19 {f:FuncId} {caps:List DV} {r:List Range} (hit:zT8 Tryz.prog f caps (r.map fun x=>[eRange.dv x])) (hr:r.length≤LIM):zF Tryz.prog 123 [.fn f caps] [zW eRange r]:=by
 refine co Tryz.func123 ?_;intro _ _ _ _
 refine Q59 ?_
 refine q8 (zVM hit hr) ?_
 refine Q1 ?_
 refine zB ?_
 exact zH rfl
theorem zND {a0:List Span} {a1:List Int} {r:List Range} (h:zCA a0 a1=some r):zF Tryz.prog 97 [(zW eSpan a0),(zW eI a1)] [zW eRange r]:=by
 unfold zCA at h
 have ⟨t6,ht6,h'⟩:=bE h;clear h
 have ⟨t8,ht8,h⟩:=bE h';clear h'
 unfold yBU at h
 split at h
 case isFalse=>cases h
 rename_i hlen
 cases h
 refine co Tryz.func97 ?_;intro _ _ _ _
 refine Q59 ?_
 refine q8 (zGF ht6) ?_
 refine q0 ?_
 refine q8 zHS ?_
 refine q8 (z19 (zGG ht8) hlen) ?_
 refine Q1 ?_
 refine zB ?_
 exact zH rfl
theorem zO1 {a0 r} (h:zEY a0=some r):zF Tryz.prog 118 [(di a0)] [(eA3Int.dv r)]:=by
 refine co Tryz.func118 ?_;intro _ _ _ _
 unfold zEY at h
 refine Q0 ?_
 refine z1O ?_
 refine zL<|Q4 ?_
 have ⟨t6,ht6,h⟩:=bE h
 refine q8 (zGL ht6) ?_
 refine Q6 ?_
 refine yB h (fun h=>?_) (fun h=>?_)
 refine Q0 ?_
 refine q78 zL4 ?_
 refine q16 zU7 ?_
 refine zL ?_
 cases h
 refine zB ?_
 exact vH rfl rfl zU7 rfl
 refine zP<|Q2 ?_
 refine q31 ?_
 refine Q19 ?_
 have ⟨t12,ht12,h⟩:=bE h
 refine z1K ht12 ?_
 have ⟨t13,ht13,h⟩:=bE h
 refine z1K ht13 ?_
 refine q2 ?_
 refine q0 ?_
 have ⟨t16,ht16,h⟩:=bE h
 refine z1K ht16 ?_
 have ⟨t17,ht17,h⟩:=bE h
 refine q91 ht17 ?_
 refine q2 ?_
 refine q78 zL4 ?_
 refine z1O ?_
 refine q16 zU7 ?_
 refine zL<|Q4 ?_
 have ⟨t21,ht21,h⟩:=bE h
 refine q91 ht21 ?_
 refine Q54 ?_
 have ⟨y1,hy1,h⟩:=bE h
 refine tl .normal ⟨[(2,.ptr 2 0),(4,.ptr 4 0)],[(2,.box 157 [.d (di 0),.d (di 0),.d (di 0)]),(4,.box 157 [.d (di (({x0:=wi (4352+t13),x1:=wi (4449+t17),x2:=0}:A3Int).x0)),.d (di (({x0:=wi (4352+t13),x1:=wi (4449+t17),x2:=0}:A3Int).x1)),.d (di y1)])]⟩ ?_ ?_
 refine yB hy1 (fun hy1=>?_) (fun hy1=>?_)
 refine Q7 ?_
 have ⟨t24,ht24,hy1⟩:=bE hy1
 refine q91 ht24 ?_
 refine q2 ?_
 refine q31 ?_
 refine q65 zL4 ?_
 refine yCD ?_
 cases hy1
 exact zN (wc)
 refine zP ?_
 cases hy1
 exact zN (wc)
 refine Q0 ?_
 refine yH ((zAT (lq rfl) zU7 rfl rfl rfl rfl).data rfl) ?_
 refine q16 zU7 ?_
 refine zL ?_
 cases h
 refine zB ?_
 exact vH rfl rfl zU7 rfl
theorem zJ6 {a0 r} (h:zAB a0=some r):zF Tryz.prog 91 [(di a0)] [(zW eI r)]:=by
 refine co Tryz.func91 ?_;intro _ _ _ _
 unfold zAB at h
 refine Q59 ?_
 have ⟨t5,ht5,h⟩:=bE h
 refine q8 (zO1 ht5) ?_
 refine z1O ?_
 refine q16 zU7 ?_
 refine zL ?_
 refine zV (zY (t:=3) (lq rfl) rfl rfl rfl) ?_
 refine kL<|zXY ?_
 refine q21 zU7 ?_
 refine q78 zL4 ?_
 refine yH (z7R (en:=eA3Int) (a:=t5) (b:=({x0:=0,x1:=0,x2:=0}:A3Int)) (lq rfl) yGE rfl rfl) ?_
 refine Q1 ?_
 refine yB h (fun h=>?_) (fun h=>?_)
 refine Q2 ?_
 refine q24 yU ?_
 refine Q1 ?_
 cases h
 refine zB ?_
 exact zH rfl
 refine Q0 ?_
 refine z1Q zL4 ?_
 refine q6 O3 ?_
 refine Q88 ?_
 refine yB h (fun h=>?_) (fun h=>?_)
 refine Q0 ?_
 refine z1Q zL4 ?_
 refine q6 O3 ?_
 refine z1Q zL4 ?_
 refine q6 O3 ?_
 refine q24 yU ?_
 refine Q1 ?_
 cases h
 refine zB ?_
 exact zH rfl
 refine Q50 ?_
 refine z1Q zL4 ?_
 refine q6 O3 ?_
 refine z1Q zL4 ?_
 refine q6 O3 ?_
 refine z1Q zL4 ?_
 refine q6 O3 ?_
 refine q24 yU ?_
 refine Q1 ?_
 cases h
 refine zB ?_
 exact zH rfl
theorem vC {fv2:DV} {a0:(List Mapping)} {a1:Int} {a2:Mapping→Int→Option (Int)} (hf2:∀x0 x1 y,a2 x0 x1=some y→FnC Tryz.prog fv2 [(eMapping.dv x0),(di x1)] [(di y)]) {r:Int×Bool} (h:z8 a0 a1 a2=some r):zF Tryz.prog 92 [(zW eMapping a0),(di a1),fv2] [(di r.1),(db r.2)]:=by
 refine co Tryz.func92 ?_;intro _ _ _ _
 unfold z8 at h
 refine Q0 ?_
 refine z18 ?_
 refine q4 S23 ?_
 refine Q19 ?_
 refine q1 ?_
 refine Q76 ?_
 have ⟨y1,hy1,h⟩:=bE h
 refine tl (.exit 0) ⟨[(0,.d (zW eMapping a0)),(1,.d (di a1)),(2,.d fv2),(8,.d (di (a0.length:Int))),(9,.d (di y1))],[]⟩ ?_ ?_
 refine zD (fun x=>⟨[(0,.d (zW eMapping a0)),(1,.d (di a1)),(2,.d fv2),(8,.d (di (a0.length:Int))),(9,.d (di x.1)),(10,.d (di x.2))],[]⟩) hy1 (wc) ?_
 rintro ⟨v9,v10⟩ sy1 p1
 replace p1:zS a0 a2 a1 v9 v10=some sy1:=p1
 unfold zS at p1
 refine Q72 ?_
 refine yB p1 (fun p1=>?_) (fun p1=>?_)
 refine zP ?_
 have ⟨y2,hy2,p1⟩:=bE p1
 refine tl .normal ⟨[(0,.d (zW eMapping a0)),(1,.d (di a1)),(2,.d fv2),(8,.d (di (a0.length:Int))),(9,.d (di y2.1)),(10,.d (di y2.2))],[]⟩ ?_ ?_
 refine Q75 ?_
 refine zX4 ?_
 refine Q1 ?_
 refine Q15 ?_
 refine q0 ?_
 have ⟨t27,ht27,hy2⟩:=bE hy2
 refine q11 S23 ht27 ?_
 refine q90 zIJ ht27 ?_
 refine q0 ?_
 have ⟨t30,ht30,hy2⟩:=bE hy2
 refine yH (zDP (lq rfl) rfl rfl (hf2 _ _ _ ht30)) ?_
 refine Q6 ?_
 refine yB hy2 (fun hy2=>?_) (fun hy2=>?_)
 refine Q11 ?_
 cases hy2
 exact zN (wc)
 refine Q81 ?_
 cases hy2
 exact zN (wc)
 cases p1
 exact wc
 refine zG ?_
 cases p1
 intro q;cases q
 exact zN (wc)
 refine Q15 ?_
 refine q0 ?_
 refine q3 ?_
 have ⟨b39,hb39,h⟩:=bE h
 refine yH ((zC (lq rfl) rfl).bool (oi hb39)) ?_
 refine q13 (.d fv2) ?_
 refine q13 (.d (zW eMapping a0)) ?_
 refine q13 (.d (di y1)) ?_
 have ⟨t43,ht43,h⟩:=bE h
 refine sqt (.ip (eMapping.all a0) (y1.toNat*eMapping.size)) rfl (fun hb=>by subst hb;exact kM (en:=eMapping) (lq rfl) S23 rfl rfl ht43) ?_
 refine sqt (.d (eMapping.dv t43)) rfl (fun hb=>by subst hb;exact xH (en:=eMapping) (l:=a0) (i:=y1) (v:=t43) (off:=0) (lq rfl) zIJ rfl ht43 rfl rfl (by decide)) ?_
 refine q13 (.d (di a1)) ?_
 have ⟨t46,ht46,h⟩:=bE h
 refine sqt (.d (di t46)) rfl (fun hb=>by subst hb;exact zDP (lq rfl) rfl rfl (hf2 _ _ _ ht46)) ?_
 refine q79 (.d (db (decide (t46=0)))) ?_
 refine q14 ?_
 refine Q46 ?_
 cases h
 refine zB ?_
 exact zHA rfl rfl
theorem zJ7 {a0 a1 r} (h:x9 a0 a1=some r):zF Tryz.prog 93 [(eMapping.dv a0),(di a1)] [(di r)]:=by
 refine co Tryz.func93 ?_;intro _ _ _ _
 unfold x9 at h
 refine Q40 ?_
 refine Q39 ?_
 refine zSN ?_
 refine q0 ?_
 have ⟨t8,ht8,h⟩:=bE h
 refine q8 (xL ht8) ?_
 refine Q1 ?_
 cases h
 refine zB ?_
 exact zH rfl
theorem zGZ {a0 a1 a2 r} (h:wM a0 a1 a2=some r):zF Tryz.prog 62 [(eNorm.dv a0),(di a1),(db a2)] [(zW eI r.1),(db r.2)]:=by
 refine co Tryz.func62 ?_;intro _ _ _ _
 unfold wM at h
 refine Q40 ?_
 refine zXZ ?_
 have ⟨t11,ht11,h⟩:=bE h
 refine q8 (zGL ht11) ?_
 refine Q99 ?_
 refine yB h (fun h=>?_) (fun h=>?_)
 refine Q2 ?_
 have ⟨t14,ht14,h⟩:=bE h
 refine q8 (zJ6 ht14) ?_
 refine Q46 ?_
 cases h
 refine zB ?_
 exact zHA rfl rfl
 refine Q50 ?_
 refine Q89 ?_
 refine q0 ?_
 have ⟨t19,ht19,h⟩:=bE h
 refine q8 (vC (fun _ _ _ q=> .inr ⟨_,rfl,zJ7 q⟩) ht19) ?_
 refine Q78 ?_
 refine zXZ ?_
 refine q32 ?_
 have ⟨b24,hb24,h⟩:=bE h
 refine yH ((zC (lq rfl) rfl).bool (oi hb24)) ?_
 refine q25 (.ip (eNorm.cells a0) (0+1)) zU8 ?_
 refine q26 (.d (zW eMapping a0.Decomp)) O23 ?_
 refine q38 (.d (di t19.1)) ?_
 have ⟨t28,ht28,h⟩:=bE h
 refine sqf (.ip (eMapping.all a0.Decomp) (t19.1.toNat*eMapping.size)) rfl (fun hb=>by subst hb;exact kM (en:=eMapping) (lq rfl) S23 rfl rfl ht28) ?_
 refine yB1 (.ip (eMapping.all a0.Decomp) (t19.1.toNat*eMapping.size+2)) zAX ?_
 refine sqf (.d (ds t28.Tag)) rfl (fun hb=>by subst hb;exact zZ (en:=eMapping) (l:=a0.Decomp) (i:=t19.1) (v:=t28) (off:=2) (lq rfl) O9 rfl ht28 rfl) ?_
 refine sqf (.d (db (!(t28.Tag== [])))) rfl (fun hb=>by subst hb;exact zW5 (a:=t28.Tag) (b:=[]) (lq rfl) rfl rfl) ?_
 have ⟨b32,hb32,h⟩:=bE h
 refine sqf (.d (db b32)) rfl (fun hb=>by subst hb;exact (zC (lq rfl) rfl).bool (oi hb32)) ?_
 refine jR (x:= .d (db a2)) rfl rfl rfl (lq rfl) (lq rfl) rfl (fun hb=>by obtain ⟨hb,hb1⟩:=zI hb;obtain rfl:=gF hb;obtain rfl:b32=true:=hb1;exact zC (lq rfl) rfl) ?_
 refine jR (x:= .d (db (!a2))) rfl rfl rfl (lq rfl) (lq rfl) rfl (fun hb=>by obtain ⟨hb,hb1⟩:=zI hb;obtain rfl:=gF hb;obtain rfl:b32=true:=hb1;exact zN9 (lq rfl) rfl) ?_
 refine q86 (.d (db (b32&&(!a2)))) ?_
 refine Q37 ?_
 refine yB h (fun h=>?_) (fun h=>?_)
 refine Q0 ?_
 refine Q46 ?_
 refine zV (zDC (t:=6) eI.size (lq rfl) rfl) ?_
 cases h
 refine zB ?_
 exact zHA rfl rfl
 refine Q50 ?_
 refine Q89 ?_
 refine q0 ?_
 have ⟨t40,ht40,h⟩:=bE h
 refine q11 S23 ht40 ?_
 refine q46 zBZ ?_
 refine q84 O33 ht40 ?_
 refine Q46 ?_
 cases h
 refine zB ?_
 exact zHA rfl rfl
theorem zHW:∀(n:Nat) {a0:Int} {a1:Norm} {a2:(List (Int×Int))} {a3:Bool} {a5:Bool} {r:Int×Bool×Bool×(List (Int×Int))},z1 n a0 a1 a2 a3 a5=some r→GC Tryz.prog 124 [.d (di a0),.d (.pt (eNorm.cells a1)),.ptr 3002 0,.ptr 3003 0,.ptr 3004 0,.ptr 3005 0] [(3002,.box 166 [.row 3140]),(3003,.box 4 [.d (db a3)]),(3004,.box 102 [.clo 124 [.d (.pt (eNorm.cells a1)),.ptr 3002 0,.ptr 3003 0,.ptr 3004 0,.ptr 3005 0]]),(3005,.box 4 [.d (db a5)]),(3140,.map (wS kI eI a2))] [3002,3003,3004,3005,3140] [.d (di r.1)] [(3002,.box 166 [.row 3140]),(3003,.box 4 [.d (db r.2.1)]),(3004,.box 102 [.clo 124 [.d (.pt (eNorm.cells a1)),.ptr 3002 0,.ptr 3003 0,.ptr 3004 0,.ptr 3005 0]]),(3005,.box 4 [.d (db r.2.2.1)]),(3140,.map (wS kI eI r.2.2.2))]:=by
 intro n
 induction n with
 | zero=>intro a0 a1 a2 a3 a5 r h;cases h
 | succ n ih=>
 intro a0 a1 a2 a3 a5 r h
 replace h:kR (z1 n) a0 a1 a2 a3 a5=some r:=h
 generalize z1 n=rec at h ih
 refine zCJ Tryz.func124 (by kernel_rfl) rfl (lq rfl) (lq rfl) fun w0 I0 hG0 p0=>?_
 unfold kR at h
 refine Q3 ?_
 refine Q0 ?_
 refine q21 G28 ?_
 refine q0 ?_
 have ⟨t18,ht18,h⟩:=bE h
 refine q8 (zGZ ht18) ?_
 refine Q78 ?_
 refine zXZ ?_
 refine q32 ?_
 have ⟨b23,hb23,h⟩:=bE h
 refine yH ((zC (lq rfl) rfl).bool (oi hb23)) ?_
 refine q38 (.d (zW eI t18.1)) ?_
 refine q64 (.d (di (t18.1.length:Int))) yU ?_
 refine zXR (.d (db (decide ((t18.1.length:Int)=0)))) ?_
 refine Q37 ?_
 refine yB h (fun h=>?_) (fun h=>?_)
 refine Q3 ?_
 cases h
 refine zB ?_
 exact ⟨⟨_,_,rfl,rfl,rfl⟩,⟨rfl,rfl,rfl,rfl,rfl,trivial⟩⟩
 refine Q71 ?_
 refine q28 z75 ?_
 refine q0 ?_
 refine yH (zQ8 (kv:=kI) (ev:=eI) (mp:=a2) (k:=a0) (zero:=0) (lq rfl) yBW K3 rfl rfl rfl (fun _ _=> .v _)) ?_
 refine Q78 ?_
 refine z18 ?_
 refine zL ?_
 refine yB h (fun h=>?_) (fun h=>?_)
 refine Q0 ?_
 refine q28 O4 ?_
 have ⟨b36,hb36,h⟩:=bE h
 refine yH ((zC (lq rfl) rfl).bool (oi hb36)) ?_
 refine q38 (.d (di (vZ a2 a0 0))) ?_
 refine zXR (.d (db (decide ((vZ a2 a0 0)=(-1))))) ?_
 refine q18 ?_
 refine q60 O4 ?_
 refine zL<|Q2 ?_
 refine yB4 ?_
 refine Q1 ?_
 cases h
 refine zB ?_
 exact ⟨⟨_,_,rfl,rfl,rfl⟩,⟨rfl,rfl,rfl,rfl,rfl,trivial⟩⟩
 refine Q50 ?_
 refine q28 z75 ?_
 refine q0 ?_
 refine z8E yBW K3 ?_
 refine zL<|Q47 ?_
 refine Q94 ?_
 have ⟨y1,hy1,h⟩:=bE h
 refine tl (.exit 0) ⟨[(0,.d (di a0)),(2,.ptr 3002 0),(3,.ptr 3003 0),(4,.ptr 3004 0),(5,.ptr 3005 0),(12,.d (di y1.1))],[(3002,.box 166 [.row 3140]),(3003,.box 4 [.d (db y1.2.1)]),(3004,.box 102 [.clo 124 [.d (.pt (eNorm.cells a1)),.ptr 3002 0,.ptr 3003 0,.ptr 3004 0,.ptr 3005 0]]),(3005,.box 4 [.d (db y1.2.2.1)]),(3140,.map (wS kI eI y1.2.2.2))]⟩ ?_ ?_
 refine zD (fun x=>⟨[(0,.d (di a0)),(2,.ptr 3002 0),(3,.ptr 3003 0),(4,.ptr 3004 0),(5,.ptr 3005 0),(12,.d (di x.1)),(44,.d (zW eI t18.1)),(45,.d (di (t18.1.length:Int))),(46,.d (di x.2.1))],[(3002,.box 166 [.row 3140]),(3003,.box 4 [.d (db x.2.2.1)]),(3004,.box 102 [.clo 124 [.d (.pt (eNorm.cells a1)),.ptr 3002 0,.ptr 3003 0,.ptr 3004 0,.ptr 3005 0]]),(3005,.box 4 [.d (db x.2.2.2.1)]),(3140,.map (wS kI eI x.2.2.2.2))]⟩) hy1 (wc) ?_
 rintro ⟨v12,v46,k3003_0,k3005_0,r3140⟩ sy1 p1
 replace p1:k4 t18 rec a1 v12 v46 k3003_0 k3005_0 r3140=some sy1:=p1
 unfold k4 at p1
 refine Q22 ?_
 refine yB p1 (fun p1=>?_) (fun p1=>?_)
 refine Q29 ?_
 have ⟨t48,ht48,p1⟩:=bE p1
 refine q11 yU ht48 ?_
 refine q35 O3 ht48 ?_
 refine Q1 ?_
 refine Q7 ?_
 refine q28 yBX ?_
 refine q0 ?_
 have ⟨t53,ht53,p1⟩:=bE p1
 refine kP rfl (zU1 [(3002,3002),(3003,3003),(3004,3004),(3005,3005),(3140,3140)] (ih ht53) (lq rfl) (by decide) rfl ⟨rfl,rfl,rfl,rfl,rfl,rfl,trivial⟩ rfl rfl ⟨rfl,rfl,rfl,rfl,rfl,trivial⟩ rfl rfl rfl rfl) ?_
 refine q2 ?_
 refine z4Z ?_
 refine Q1 ?_
 refine Q24 ?_
 cases p1
 exact wc
 refine zG ?_
 cases p1
 intro q;cases q
 exact zN (wc)
 refine Q0 ?_
 refine q28 z75 ?_
 refine Q82 ?_
 refine z8E yBW K3 ?_
 refine Q52 ?_
 refine q28 O4 ?_
 have ⟨b61,hb61,h⟩:=bE h
 refine yH ((zC (lq rfl) rfl).bool (oi hb61)) ?_
 refine q38 (.d (di y1.1)) ?_
 refine q43 (.d (db (decide (64 < y1.1)))) ?_
 refine q18 ?_
 refine q60 O4 ?_
 refine zL<|Q35 ?_
 cases h
 refine zB ?_
 exact ⟨⟨_,_,rfl,rfl,rfl⟩,⟨rfl,rfl,rfl,rfl,rfl,trivial⟩⟩
set_option maxHeartbeats 8000000 in
theorem zJG {a0 r} (h:decompose_measure a0=some r):zF Tryz.prog 98 [(eNorm.dv a0)] [(db r.1),(db r.2)]:=by
 refine co Tryz.func98 ?_;intro _ _ _ _
 unfold decompose_measure at h
 refine Q40 ?_
 refine kP rfl (kX (zs:=[(.bool false)]) (lq rfl) (by kernel_rfl) rfl rfl) ?_
 refine kP rfl (kX (zs:=[(.bool false)]) (lq rfl) (by kernel_rfl) rfl rfl) ?_
 refine Q52 ?_
 refine z4Y ?_
 refine kP rfl (kX (zs:=[(.map none)]) (lq rfl) (by kernel_rfl) rfl rfl) ?_
 refine q93 z75 ?_
 refine Q52 ?_
 refine kP rfl (kX (zs:=[.nilFunc]) (lq rfl) (by kernel_rfl) rfl rfl) ?_
 refine Q52 ?_
 refine yH (zRF (cs:=[.d (.pt (eNorm.cells a0)),.ptr 4 0,.ptr 2 0,.ptr 5 0,.ptr 3 0]) (lq rfl) ⟨_,_,rfl,rfl,⟨_,_,rfl,rfl,⟨_,_,rfl,rfl,⟨_,_,rfl,rfl,⟨_,_,rfl,rfl,rfl⟩⟩⟩⟩⟩) ?_
 refine kP rfl (zIG yBX rfl rfl (lq rfl) rfl rfl rfl rfl) ?_
 refine z15 ?_
 refine Q89 ?_
 refine zX1 ?_
 have ⟨y1,hy1,h⟩:=bE h
 refine tl (.exit 0) ⟨[(2,.ptr 2 0),(3,.ptr 3 0)],[(2,.box 4 [.d (db y1.1)]),(3,.box 4 [.d (db y1.2)])]⟩ ?_ ?_
 refine zD (fun x=>⟨[(2,.ptr 2 0),(3,.ptr 3 0),(5,.ptr 5 0),(11,.d (zW eMapping a0.Decomp)),(12,.d (di (a0.Decomp.length:Int))),(13,.d (di x.1))],[(2,.box 4 [.d (db x.2.1)]),(3,.box 4 [.d (db x.2.2.1)]),(4,.box 166 [.row 8]),(5,.box 102 [.clo 124 [.d (.pt (eNorm.cells a0)),.ptr 4 0,.ptr 2 0,.ptr 5 0,.ptr 3 0]]),(8,.map (wS kI eI x.2.2.2))]⟩) hy1 (wc) ?_
 rintro ⟨v13,k2_0,k3_0,r8⟩ sy1 p1
 replace p1:yY a0 v13 k2_0 k3_0 r8=some sy1:=p1
 unfold yY at p1
 refine Q22 ?_
 refine yB p1 (fun p1=>?_) (fun p1=>?_)
 refine Q29 ?_
 have ⟨t15,ht15,p1⟩:=bE p1
 refine q11 S23 ht15 ?_
 refine q90 zIJ ht15 ?_
 refine zX2 ?_
 refine zV (zY (t:=7) (lq rfl) rfl rfl rfl) ?_
 refine zBD<|q28 yBX ?_
 refine zSN ?_
 have ⟨t20,ht20,p1⟩:=bE p1
 refine kP rfl (zSE [(3002,4),(3003,2),(3004,5),(3005,3),(3140,8)] (zHW _ ht20) (lq rfl) (by decide) rfl ⟨rfl,rfl,rfl,rfl,rfl,rfl,trivial⟩ rfl rfl ⟨rfl,rfl,rfl,rfl,rfl,trivial⟩ rfl rfl rfl (fun _=>rfl) rfl) ?_
 refine zL<|Q24 ?_
 cases p1
 exact wc
 refine zG ?_
 cases p1
 intro q;cases q
 exact zN (wc)
 refine kL ?_
 refine tl .normal ⟨[(2,.ptr 2 0),(3,.ptr 3 0)],[(2,.box 4 [.d (db y1.1)]),(3,.box 4 [.d (db y1.2)])]⟩ ?_ ?_
 refine zCX MX ?_
 refine xn [0,1] ?_
 refine xa rfl (zCH (lq rfl) O4 rfl rfl rfl) ?_ ?_
 refine xn [1,2] ?_
 refine xa rfl (zCH (lq rfl) O4 rfl rfl rfl) ?_ ?_
 refine xn [2] ?_
 refine z1R O4 ?_
 refine xn [3] ?_
 refine z1R O4 ?_
 exact ae
 refine z1R O4 ?_
 refine xn [1] ?_
 refine xc rfl (zCH (lq rfl) O4 rfl rfl rfl) ?_
 refine xn [3] ?_
 refine z1R O4 ?_
 exact ae
 refine xc rfl (zCH (lq rfl) O4 rfl rfl rfl) ?_
 refine xn [0] ?_
 refine xc rfl (zCH (lq rfl) O4 rfl rfl rfl) ?_
 refine xn [2] ?_
 refine z1R O4 ?_
 refine xn [3] ?_
 refine z1R O4 ?_
 exact ae
 cases h
 refine zB ?_
 exact zXI rfl rfl O4 rfl rfl O4
theorem zGH {a0 r} (h:uF a0=some r):zF Tryz.prog 63 [(eNorm.dv a0)] [(di r)]:=by
 refine co Tryz.func63 ?_;intro _ _ _ _
 unfold uF at h
 refine Q40 ?_
 refine Q53 ?_
 refine q5 zMX ?_
 refine q6 O22 ?_
 have ⟨t15,ht15,h⟩:=bE h
 refine q8 (zGY ht15) ?_
 refine Q62 ?_
 refine yB h (fun h=>?_) (fun h=>?_)
 refine Q35 ?_
 cases h
 refine zB ?_
 exact zH rfl
 refine Q71 ?_
 refine Q89 ?_
 have ⟨t21,ht21,h⟩:=bE h
 refine q8 (zNB ht21) ?_
 refine Q62 ?_
 refine yB h (fun h=>?_) (fun h=>?_)
 refine Q35 ?_
 cases h
 refine zB ?_
 exact zH rfl
 refine Q71 ?_
 refine q5 z4O ?_
 refine q96 G26 ?_
 have ⟨t27,ht27,h⟩:=bE h
 refine q8 (zP7 ht27) ?_
 refine Q42 ?_
 refine yB h (fun h=>?_) (fun h=>?_)
 refine Q3 ?_
 cases h
 refine zB ?_
 exact zH rfl
 refine Q93 ?_
 have ⟨y1,hy1,h⟩:=bE h
 refine zK y1 (.exit 0) (fun y1=>⟨[(1,.d (.pt (eNorm.cells a0)))],[]⟩) .ret (fun y1=>⟨[(2,.d (di y1))],[]⟩) ?_ ?_ ?_
 refine zD (fun x=>⟨[(1,.d (.pt (eNorm.cells a0))),(5,.d (di x))],[]⟩) hy1 (wc) ?_
 rintro v5 sy1 p1
 replace p1:wA a0 v5=some sy1:=p1
 unfold wA at p1
 refine Q4 ?_
 refine Q89 ?_
 refine Q55 ?_
 refine yB p1 (fun p1=>?_) (fun p1=>?_)
 refine Q65 ?_
 refine z7 MX rfl ?_
 refine q19 zU8 ?_
 refine q33 O23 ?_
 refine q7 ?_
 have ⟨t39,ht39,p1⟩:=bE p1
 refine q23 S23 ht39 ?_
 refine q52 zDJ ?_
 refine z45 O3 ht39 ?_
 refine q19 zU8 ?_
 refine q33 O23 ?_
 refine q7 ?_
 refine zVD ?_
 have ⟨t46,ht46,p1⟩:=bE p1
 refine q23 S23 ht46 ?_
 refine q52 zDJ ?_
 refine z45 O3 ht46 ?_
 refine vB (zGQ (lq rfl) rfl rfl) ?_
 refine xQ ?_
 refine yB p1 (fun p1=>?_) (fun p1=>?_)
 refine Q17 ?_
 cases p1
 intro q;cases q
 exact ⟨rfl,wc⟩
 refine Q28 ?_
 cases p1
 exact wc
 refine zG ?_
 cases p1
 intro q;cases q
 exact ⟨rfl,wc⟩
 rintro y1 rfl
 replace h:=eL h
 refine Q31 ?_
 refine Q89 ?_
 refine zX1 ?_
 have ⟨y2,hy2,h⟩:=bE h
 refine zK y2 (.exit 2) (fun y2=>⟨[(1,.d (.pt (eNorm.cells a0)))],[]⟩) .ret (fun y2=>⟨[(2,.d (di y2))],[]⟩) ?_ ?_ ?_
 refine zD (fun x=>⟨[(1,.d (.pt (eNorm.cells a0))),(51,.d (zW eMapping a0.Decomp)),(52,.d (di (a0.Decomp.length:Int))),(53,.d (di x))],[]⟩) hy2 (wc) ?_
 rintro v53 sy2 p2
 replace p2:wB a0 v53=some sy2:=p2
 unfold wB at p2
 refine Q22 ?_
 refine yB p2 (fun p2=>?_) (fun p2=>?_)
 refine Q29 ?_
 have ⟨t55,ht55,p2⟩:=bE p2
 refine q11 S23 ht55 ?_
 refine q90 zIJ ht55 ?_
 refine zX2 ?_
 refine zV (zY (t:=7) (lq rfl) rfl rfl rfl) ?_
 refine Q0 ?_
 refine q5 zAX ?_
 refine q6 O9 ?_
 refine yH (zL0 (a:=t55.Tag) (b:=[]) (lq rfl) rfl rfl) ?_
 have ⟨b60,hb60,p2⟩:=bE p2
 refine yH ((zC (lq rfl) rfl).bool (oi hb60)) ?_
 refine q54 (.ip (eMapping.cells t55) (0+1)) zBZ ?_
 refine q62 (.d (zW eI t55.To)) O33 ?_
 refine z1L (.d (di (t55.To.length:Int))) yU ?_
 refine z43 (.d (db (!decide ((t55.To.length:Int)=1)))) ?_
 refine q14 ?_
 have ⟨b66,hb66,p2⟩:=bE p2
 refine yH ((zC (lq rfl) rfl).bool (oi hb66)) ?_
 refine q54 (.ip (eMapping.cells t55) (0+1)) zBZ ?_
 refine q62 (.d (zW eI t55.To)) O33 ?_
 refine z1L (.d (di (t55.To.length:Int))) yU ?_
 refine z43 (.d (db (!decide ((t55.To.length:Int)=2)))) ?_
 refine Q36 ?_
 refine yB p2 (fun p2=>?_) (fun p2=>?_)
 refine Q17 ?_
 cases p2
 intro q;cases q
 exact ⟨rfl,wc⟩
 refine Q57 ?_
 cases p2
 exact wc
 refine zG ?_
 cases p2
 intro q;cases q
 exact ⟨rfl,wc⟩
 rintro y2 rfl
 replace h:=eL h
 refine Q3 ?_
 refine zV (zCT (t:=8) 1008 3 eI.size (lq rfl) (lq rfl) rfl rfl) ?_
 refine Q31 ?_
 refine Q89 ?_
 refine zX1 ?_
 have ⟨y3,hy3,h⟩:=bE h
 refine zK y3 (.exit 4) (fun y3=>⟨[(1,.d (.pt (eNorm.cells a0))),(8,.row 1008)],[(1008,.row 3 eI.size false (eI.all y3))]⟩) .ret (fun y3=>⟨[(2,.d (di y3))],[]⟩) ?_ ?_ ?_
 refine zD (fun x=>⟨[(1,.d (.pt (eNorm.cells a0))),(8,.row 1008),(74,.d (zW eMapping a0.Decomp)),(75,.d (di (a0.Decomp.length:Int))),(76,.d (di x.1))],[(1008,.row 3 eI.size false (eI.all x.2))]⟩) hy3 (wc) ?_
 rintro ⟨v76,r1008⟩ sy3 p3
 replace p3:yG a0 v76 r1008=some sy3:=p3
 unfold yG at p3
 refine Q22 ?_
 refine yB p3 (fun p3=>?_) (fun p3=>?_)
 refine Q5 ?_
 have ⟨y4,hy4,p3⟩:=bE p3
 refine zK y4 .normal (fun y4=>⟨[(1,.d (.pt (eNorm.cells a0))),(8,.row 1008),(74,.d (zW eMapping a0.Decomp)),(75,.d (di (a0.Decomp.length:Int))),(76,.d (di v76))],[(1008,.row 3 eI.size false (eI.all y4))]⟩) .ret (fun y4=>⟨[(2,.d (di 11))],[]⟩) ?_ ?_ ?_
 refine zXY ?_
 have ⟨t78,ht78,hy4⟩:=bE hy4
 refine q11 S23 ht78 ?_
 refine q90 zIJ ht78 ?_
 refine zX2 ?_
 refine zV (zY (t:=10) (lq rfl) rfl rfl rfl) ?_
 refine Q31 ?_
 refine zSN ?_
 have ⟨t82,ht82,hy4⟩:=bE hy4
 refine q8 (zGL ht82) ?_
 refine Q33 ?_
 refine yB hy4 (fun hy4=>?_) (fun hy4=>?_)
 refine Q17 ?_
 cases hy4
 exact ⟨rfl,wc⟩
 refine Q50 ?_
 refine q5 zAX ?_
 refine q6 O9 ?_
 refine z1M ?_
 refine zL ?_
 refine yB hy4 (fun hy4=>?_) (fun hy4=>?_)
 refine Q64 ?_
 refine zSN ?_
 refine q24 yU ?_
 have ⟨r1008_5,hr1008_5,hy4⟩:=bE hy4
 refine kP rfl (jU (en:=eI) (l:=r1008) (m:=[t78.From]) (lq rfl) yU rfl rfl rfl hr1008_5 (by decide) (by decide) rfl rfl) ?_
 refine Q13 ?_
 cases hy4
 exact ⟨rfl,wc⟩
 refine zP ?_
 cases hy4
 exact ⟨rfl,wc⟩
 rintro y4 rfl
 replace p3:=eL p3
 refine Q24 ?_
 cases p3
 exact wc
 rintro y4 rfl
 replace p3:=eR p3
 cases p3
 intro q;cases q
 exact ⟨rfl,wc⟩
 refine zG ?_
 cases p3
 intro q;cases q
 exact ⟨rfl,wc⟩
 rintro y3 rfl
 replace h:=eL h
 refine Q31 ?_
 refine q5 zMX ?_
 refine q6 O22 ?_
 refine q10 ?_
 have ⟨t96,ht96,h⟩:=bE h
 refine z8L (zND ht96) ?_
 refine q4 S24 ?_
 refine Q54 ?_
 refine yB h (fun h=>?_) (fun h=>?_)
 refine Q3 ?_
 cases h
 refine zB ?_
 exact zH rfl
 refine Q50 ?_
 refine q21 G28 ?_
 have ⟨t101,ht101,h⟩:=bE h
 refine q8 (zJG ht101) ?_
 refine Q78 ?_
 refine q1 ?_
 refine Q76 ?_
 refine Q35 ?_
 refine yB h (fun h=>?_) (fun h=>?_)
 refine Q3 ?_
 cases h
 refine zB ?_
 exact zH rfl
 refine Q35 ?_
 refine yB h (fun h=>?_) (fun h=>?_)
 refine Q3 ?_
 cases h
 refine zB ?_
 exact zH rfl
 refine Q58 ?_
 cases h
 refine zB ?_
 exact zH rfl
 rintro y3 rfl
 replace h:=eR h
 cases h
 exact zH rfl
 rintro y2 rfl
 replace h:=eR h
 cases h
 exact zH rfl
 rintro y1 rfl
 replace h:=eR h
 cases h
 exact zH rfl
theorem jT {a0} {a1} {r:Colltable_table} (h:xE a0 a1=some r):GC Tryz.prog 32 [.ptr 3000 0,.d (eNorm.dv a1)] [(3000,.box 108 [.d (zW eEntry a0.c.Entries),.d (zW eGroup a0.c.Groups),.d (di a0.c.Base),.d (di a0.c.Second),.d (di a0.c.Third),.row 3105,.d (di a0.longest),.d (zW eSpan a0.classes),.d (di a0.top)]),(3105,.map (wS zDD (eL eElement) a0.entries))] [3000,3105] [.ptr 3000 0] [(3000,.box 108 [.d (zW eEntry r.c.Entries),.d (zW eGroup r.c.Groups),.d (di r.c.Base),.d (di r.c.Second),.d (di r.c.Third),.row 3105,.d (di r.longest),.d (zW eSpan r.classes),.d (di r.top)]),(3105,.map (wS zDD (eL eElement) r.entries))]:=by
 refine zCJ Tryz.func32 (by kernel_rfl) rfl (lq rfl) (lq rfl) fun w0 I0 hG0 p0=>?_
 unfold xE at h
 refine Q40 ?_
 refine Q53 ?_
 refine q21 G28 ?_
 have ⟨t8,ht8,h⟩:=bE h
 refine q8 (zGH ht8) ?_
 refine Q87 ?_
 have ⟨y1,hy1,h⟩:=bE h
 refine tl .normal ⟨[(0,.ptr 3000 0)],[(3000,.box 108 [.d (zW eEntry a0.c.Entries),.d (zW eGroup a0.c.Groups),.d (di a0.c.Base),.d (di a0.c.Second),.d (di a0.c.Third),.row 3105,.d (di a0.longest),.d (zW eSpan y1),.d (di a0.top)]),(3105,.map (wS zDD (eL eElement) a0.entries))]⟩ ?_ ?_
 refine yB hy1 (fun hy1=>?_) (fun hy1=>?_)
 refine zBD<|z8H ?_
 refine q5 zMX ?_
 refine q6 O22 ?_
 refine yH (zL3 (lq rfl) rfl) ?_
 refine q51 zJ0 ?_
 refine q60 O22 ?_
 refine zL ?_
 cases hy1
 exact zN (wc)
 refine zP ?_
 cases hy1
 exact zN (wc)
 refine Q31 ?_
 refine z8H ?_
 refine yH (zL3 (lq rfl) rfl) ?_
 refine q51 zJ0 ?_
 refine q28 O22 ?_
 refine q4 S22 ?_
 refine Q30 ?_
 have ⟨y2,hy2,h⟩:=bE h
 refine tl (.exit 0) ⟨[(0,.ptr 3000 0)],[(3000,.box 108 [.d (zW eEntry a0.c.Entries),.d (zW eGroup a0.c.Groups),.d (di a0.c.Base),.d (di a0.c.Second),.d (di a0.c.Third),.row 3105,.d (di a0.longest),.d (zW eSpan y1),.d (di y2)]),(3105,.map (wS zDD (eL eElement) a0.entries))]⟩ ?_ ?_
 refine zD (fun x=>⟨[(0,.ptr 3000 0),(18,.d (zW eSpan y1)),(19,.d (di (y1.length:Int))),(20,.d (di x.1))],[(3000,.box 108 [.d (zW eEntry a0.c.Entries),.d (zW eGroup a0.c.Groups),.d (di a0.c.Base),.d (di a0.c.Second),.d (di a0.c.Third),.row 3105,.d (di a0.longest),.d (zW eSpan y1),.d (di x.2)]),(3105,.map (wS zDD (eL eElement) a0.entries))]⟩) hy2 (wc) ?_
 rintro ⟨v20,k3000_8⟩ sy2 p2
 replace p2:k9 y1 v20 k3000_8=some sy2:=p2
 unfold k9 at p2
 refine Q22 ?_
 refine yB p2 (fun p2=>?_) (fun p2=>?_)
 refine Q29 ?_
 have ⟨t22,ht22,p2⟩:=bE p2
 refine q11 S22 ht22 ?_
 refine z8I G62 ht22 ?_
 refine z1O ?_
 refine q16 G62 ?_
 refine zL ?_
 refine zV (zY (t:=6) (lq rfl) rfl rfl rfl) ?_
 refine zFG 10 MX rfl ?_
 refine z40 ?_
 refine z40 ?_
 refine z41 ?_
 refine zVC zXP ?_
 refine z8G O3 ?_
 refine q19 zHP ?_
 refine q33 O3 ?_
 refine vB (zYP (lq rfl) rfl rfl) ?_
 refine z41 ?_
 refine zVC zXP ?_
 refine xQ<|yCD ?_
 refine Q24 ?_
 cases p2
 exact wc
 refine zG ?_
 cases p2
 intro q;cases q
 exact zN (wc)
 refine Q0 ?_
 refine z8H ?_
 refine yH (zBS (lq rfl) rfl) ?_
 refine zL ?_
 cases h
 refine zB ?_
 exact ⟨⟨_,_,rfl,rfl,rfl⟩,⟨rfl,rfl,trivial⟩⟩
theorem zAY {a0 a1 r} (h:jC a0 a1=some r):zF Tryz.prog 73 [(.pt (eColltable_table.cells a0)),(zW eI a1)] [(zW eElement r.1),(db r.2)]:=by
 refine co Tryz.func73 ?_;intro _ _ _ _
 unfold jC at h
 refine Q0 ?_
 refine zXZ ?_
 refine q4 yU ?_
 refine q39 ?_
 have ⟨b11,hb11,h⟩:=bE h
 refine yH ((zC (lq rfl) rfl).bool (oi hb11)) ?_
 refine q38 (.d (zW eI a1)) ?_
 refine q64 (.d (di (a1.length:Int))) yU ?_
 refine q38 (.d (.pt (eColltable_table.cells a0))) ?_
 refine sqf (.d (.pt (eColltable_table.cells a0))) rfl (fun hb=>by subst hb;exact zFI (lq rfl) rfl) ?_
 refine q25 (.ip (eColltable_table.cells a0) (0+6)) zSG ?_
 refine q26 (.d (di a0.longest)) O3 ?_
 refine q43 (.d (db (decide (a0.longest < (a1.length:Int))))) ?_
 refine Q37 ?_
 refine yB h (fun h=>?_) (fun h=>?_)
 refine Q0 ?_
 refine Q46 ?_
 refine zV (zDC (t:=4) eElement.size (lq rfl) rfl) ?_
 cases h
 refine zB ?_
 exact zHA rfl rfl
 refine Q5 ?_
 refine z7 MX rfl ?_
 refine q7 ?_
 refine z1S ?_
 refine q19 z4N ?_
 refine q33 yEC ?_
 refine q7 ?_
 have ⟨t26,ht26,h⟩:=bE h
 refine q22 (zGE ht26) ?_
 refine vB (zXA (kv:=zDD) (ev:=(eL eElement)) (mp:=a0.entries) (k:=t26) (zero:=[]) (lq rfl) yD9 yEH rfl rfl (z7U rfl) (fun _ _=> .nil _ _ _)) ?_
 refine vB (zOD (lq rfl) rfl) ?_
 refine yEO ?_
 refine yEO ?_
 refine yEY ?_
 refine Q15 ?_
 refine Q46 ?_
 cases h
 refine zB ?_
 exact zHA rfl rfl
theorem zFR {a0 a1 r} (h:jK a0 a1=some r):zF Tryz.prog 74 [(.pt (eColltable_table.cells a0)),(di a1)] [(zW eElement r)]:=by
 refine co Tryz.func74 ?_;intro _ _ _ _
 unfold jK at h
 refine Q47 ?_
 have ⟨t6,ht6,h⟩:=bE h
 refine q8 (zBH ht6) ?_
 refine Q42 ?_
 refine yB h (fun h=>?_) (fun h=>?_)
 refine Q3 ?_
 refine zV (zDC (t:=4) eElement.size (lq rfl) rfl) ?_
 cases h
 refine zB ?_
 exact zH rfl
 refine Q5 ?_
 refine z7 MX rfl ?_
 refine q7 ?_
 refine z1S ?_
 refine q19 zXO ?_
 refine q52 zK3 ?_
 refine q33 O3 ?_
 refine q7 ?_
 have ⟨t14,ht14,h⟩:=bE h
 refine vB (z94 (lq rfl) rfl rfl ht14) ?_
 refine z46 ?_
 refine q7 ?_
 refine z1S ?_
 refine q19 zXO ?_
 refine q52 z4Q ?_
 refine q33 O3 ?_
 refine q7 ?_
 refine z1S ?_
 refine q19 zXO ?_
 refine q52 z4R ?_
 refine q33 O3 ?_
 refine vB (zCW (lq rfl) B64 rfl rfl) ?_
 refine q7 ?_
 have ⟨t28,ht28,h⟩:=bE h
 refine vB (z95 (lq rfl) rfl rfl ht28) ?_
 refine z46 ?_
 refine vB (zCW (lq rfl) B64 rfl rfl) ?_
 refine z8J S39 ?_
 refine Q51 ?_
 cases h
 refine zB ?_
 exact zH rfl
theorem zF1 {a0 a1 a2 r} (h:xF a0 a1 a2=some r):zF Tryz.prog 111 [(di a0),(.pt [(.pt (eColltable_table.cells a1))]),(.pt [(di a2)])] [(db r)]:=by
 refine co Tryz.func111 ?_;intro _ _ _ _
 unfold xF at h
 refine Q3 ?_
 refine kL ?_
 refine z7 MX rfl ?_
 refine z47 O73 ?_
 refine z1S ?_
 refine q19 zJ0 ?_
 refine q33 O22 ?_
 refine q7 ?_
 have ⟨t10,ht10,h⟩:=bE h
 refine q23 S22 ht10 ?_
 refine q52 zGV ?_
 refine vB (zZ (en:=eSpan) (l:=a1.classes) (i:=a0) (v:=t10) (off:=1) (lq rfl) O3 rfl ht10 rfl) ?_
 refine z47 O3 ?_
 refine vB (zH6 (lq rfl) rfl rfl) ?_
 refine Q51 ?_
 cases h
 refine zB ?_
 exact zH rfl
theorem zP8 {fv1:DV} {a0:Int} {a1:Int→Option (Bool)} (hf1:∀x0 y,a1 x0=some y→FnC Tryz.prog fv1 [(di x0)] [(db y)]) {r:Int} (h:zGB a0 a1=some r):zF Tryz.prog 110 [(di a0),fv1] [(di r)]:=by
 refine co Tryz.func110 ?_;intro _ _ _ _
 unfold zGB at h
 refine Q59 ?_
 refine q1 ?_
 refine Q76 ?_
 have ⟨y1,hy1,h⟩:=bE h
 refine tl (.exit 0) ⟨[(5,.d (di y1))],[]⟩ ?_ ?_
 refine zD (fun x=>⟨[(1,.d fv1),(5,.d (di x.1)),(6,.d (di x.2))],[]⟩) hy1 (wc) ?_
 rintro ⟨v5,v6⟩ sy1 p1
 replace p1:zAC a1 v5 v6=some sy1:=p1
 unfold zAC at p1
 refine Q72 ?_
 refine yB p1 (fun p1=>?_) (fun p1=>?_)
 refine zP ?_
 have ⟨y2,hy2,p1⟩:=bE p1
 refine tl .normal ⟨[(1,.d fv1),(5,.d (di y2.1)),(6,.d (di y2.2))],[]⟩ ?_ ?_
 refine Q75 ?_
 refine zX4 ?_
 refine Q1 ?_
 refine Q15 ?_
 have ⟨t20,ht20,hy2⟩:=bE hy2
 refine yH (zDP (lq rfl) rfl rfl (hf1 _ _ ht20)) ?_
 refine Q42 ?_
 refine yB hy2 (fun hy2=>?_) (fun hy2=>?_)
 refine Q11 ?_
 cases hy2
 exact zN (wc)
 refine Q81 ?_
 cases hy2
 exact zN (wc)
 cases p1
 exact wc
 refine zG ?_
 cases p1
 intro q;cases q
 exact zN (wc)
 refine Q35 ?_
 cases h
 refine zB ?_
 exact zH rfl
theorem zG0 {a0 a1 r} (h:xU a0 a1=some r):zF Tryz.prog 75 [(.pt (eColltable_table.cells a0)),(di a1)] [(di r)]:=by
 refine co Tryz.func75 ?_;intro _ _ _ _
 unfold xU at h
 refine Q91 ?_
 refine q63 ?_
 refine Q39 ?_
 refine q92 O73 ?_
 refine yH (zFI (lq rfl) rfl) ?_
 refine q5 zJ0 ?_
 refine q6 O22 ?_
 refine q4 S22 ?_
 refine yH (zJV (lq rfl) rfl) ?_
 have ⟨t12,ht12,h⟩:=bE h
 refine q8 (zP8 (fun _ _ q=> .inl ⟨_,_,rfl,zF1 q⟩) ht12) ?_
 refine Q16 ?_
 refine kL ?_
 refine z7 MX rfl ?_
 refine q7 ?_
 refine z47 O73 ?_
 refine z1S ?_
 refine q19 zJ0 ?_
 refine q33 O22 ?_
 refine yB3 S22 ?_
 refine z1T ?_
 have ⟨b20,hb20,h⟩:=bE h
 refine vB ((zC (lq rfl) rfl).bool (oi hb20)) ?_
 refine dat (.d (.pt (eColltable_table.cells a0))) rfl (fun hb=>by subst hb;exact zIU (lq rfl) O73 rfl) ?_
 refine dat (.d (.pt (eColltable_table.cells a0))) rfl (fun hb=>by subst hb;exact zFI (lq rfl) rfl) ?_
 refine q97 (.ip (eColltable_table.cells a0) (0+7)) zJ0 ?_
 refine q98 (.d (zW eSpan a0.classes)) O22 ?_
 refine q59 (.d (di t12)) ?_
 have ⟨t26,ht26,h⟩:=bE h
 refine dat (.ip (eSpan.all a0.classes) (t12.toNat*eSpan.size)) rfl (fun hb=>by subst hb;exact kM (en:=eSpan) (lq rfl) S22 rfl rfl ht26) ?_
 refine q99 (.ip (eSpan.all a0.classes) (t12.toNat*eSpan.size+0)) zGU ?_
 refine dat (.d (di t26.Lo)) rfl (fun hb=>by subst hb;exact zZ (en:=eSpan) (l:=a0.classes) (i:=t12) (v:=t26) (off:=0) (lq rfl) O3 rfl ht26 rfl) ?_
 refine dat (.d (di a1)) rfl (fun hb=>by subst hb;exact zIU (lq rfl) O3 rfl) ?_
 refine dat (.d (db (decide (t26.Lo≤a1)))) rfl (fun hb=>by subst hb;exact zGP (lq rfl) rfl rfl) ?_
 refine Q98 ?_
 refine yB h (fun h=>?_) (fun h=>?_)
 refine Q0 ?_
 refine q92 O73 ?_
 refine yH (zFI (lq rfl) rfl) ?_
 refine q5 zJ0 ?_
 refine q6 O22 ?_
 refine q0 ?_
 have ⟨t37,ht37,h⟩:=bE h
 refine q11 S22 ht37 ?_
 refine q46 zHP ?_
 refine yH (zZ (en:=eSpan) (l:=a0.classes) (i:=t12) (v:=t37) (off:=2) (lq rfl) O3 rfl ht37 rfl) ?_
 refine Q1 ?_
 cases h
 refine zB ?_
 exact zH rfl
 refine Q58 ?_
 cases h
 refine zB ?_
 exact zH rfl
theorem w7 {a0} {a1} {r:Int×(List Element)×Bool×(List Int)} (h:j7 a0 a1=some r):GC Tryz.prog 34 [.d (.pt (eColltable_table.cells a0)),.row 3001] [(3001,.win 3 eI.size 0 (eI.all a1))] [3001] [.d (di r.1),.d (zW eElement r.2.1),.d (db r.2.2.1)] [(3001,.win 3 eI.size r.1.toNat (eI.all r.2.2.2))]:=by
 refine zCJ Tryz.func34 (by kernel_rfl) rfl (lq rfl) (lq rfl) fun w0 I0 hG0 p0=>?_
 unfold j7 at h
 refine Q0 ?_
 refine q1 ?_
 refine z18 ?_
 refine yH (zFI (lq rfl) rfl) ?_
 refine q5 zSG ?_
 refine q6 O3 ?_
 refine q10 ?_
 refine z8M yU ?_
 refine z4Z ?_
 refine Q76 ?_
 have ⟨y1,hy1,h⟩:=bE h
 refine tl (.exit 0) ⟨[(0,.d (.pt (eColltable_table.cells a0))),(1,.row 3001),(7,.d (di y1))],[(3001,.win 3 eI.size 0 (eI.all a1))]⟩ ?_ ?_
 refine zD (fun x=>⟨[(0,.d (.pt (eColltable_table.cells a0))),(1,.row 3001),(7,.d (di x))],[(3001,.win 3 eI.size 0 (eI.all a1))]⟩) hy1 (wc) ?_
 rintro v7 sy1 p1
 replace p1:kO a1 a0 v7=some sy1:=p1
 unfold kO at p1
 refine Q4 ?_
 refine Q54 ?_
 refine yB p1 (fun p1=>?_) (fun p1=>?_)
 refine zP<|kT<|Q4 ?_
 refine Q18 ?_
 have ⟨t31,ht31,p1⟩:=bE p1
 refine yH (zRD (en:=eI) (l:=a1) (lq rfl) yU rfl rfl rfl ht31) ?_
 have ⟨t32,ht32,p1⟩:=bE p1
 refine kP rfl (z7W (lq rfl) ⟨_,_,rfl,.d _,⟨_,_,rfl,.front rfl ht31,rfl⟩⟩ (zAY ht32)) ?_
 refine yH (zMT (lq rfl) rfl) ?_
 refine z48 ?_
 refine z48 ?_
 refine yH (zSB (lq rfl)) ?_
 refine Q19 ?_
 refine zL ?_
 refine yB p1 (fun p1=>?_) (fun p1=>?_)
 refine zG ?_
 cases p1
 intro q;cases q
 exact zN (wc)
 refine zP<|Q7 ?_
 refine Q73 ?_
 cases p1
 exact wc
 refine zG ?_
 cases p1
 intro q;cases q
 exact zN (wc)
 refine Q4 ?_
 refine Q87 ?_
 refine yB h (fun h=>?_) (fun h=>?_)
 refine Q2 ?_
 refine q10 ?_
 have ⟨t42,ht42,h⟩:=bE h
 refine yH (zDY (en:=eI) (l:=a1) (lq rfl) yU rfl rfl rfl ht42) ?_
 refine yH (zHG (en:=eI) (l:=a1) (i:=(0:Int)) (v:=t42) (lq rfl) O3 rfl rfl ht42 rfl) ?_
 have ⟨t44,ht44,h⟩:=bE h
 refine q8 (zFR ht44) ?_
 refine q1 ?_
 refine Q46 ?_
 refine zV (zXF (id:=3001) ((1:Int).toNat) rfl (Nat.zero_le _)) ?_
 cases h
 refine zB ?_
 exact ⟨⟨_,_,rfl,rfl,⟨_,_,rfl,rfl,⟨_,_,rfl,rfl,rfl⟩⟩⟩,⟨rfl,trivial⟩⟩
 refine zP<|Q47 ?_
 refine Q1 ?_
 refine kT ?_
 have ⟨y2,hy2,h⟩:=bE h
 refine tl (.exit 2) ⟨[(0,.d (.pt (eColltable_table.cells a0))),(1,.row 3001),(7,.d (di y2.1))],[(3001,.win 3 eI.size 0 (eI.all y2.2))]⟩ ?_ ?_
 refine zD (fun x=>⟨[(0,.d (.pt (eColltable_table.cells a0))),(1,.row 3001),(7,.d (di x.1)),(10,.d (di x.2.1)),(11,.d (di x.2.2.1))],[(3001,.win 3 eI.size 0 (eI.all x.2.2.2))]⟩) hy2 (wc) ?_
 rintro ⟨v7,v10,v11,r3001⟩ sy2 p2
 replace p2:yR a0 v7 v10 v11 r3001=some sy2:=p2
 unfold yR at p2
 refine Q4 ?_
 refine q10 ?_
 refine z8M yU ?_
 refine q3 ?_
 have ⟨b50,hb50,p2⟩:=bE p2
 refine yH ((zC (lq rfl) rfl).bool (oi hb50)) ?_
 refine q13 (.d (di v10)) ?_
 refine q13 (.d (.pt (eColltable_table.cells a0))) ?_
 refine sqt (.d (.pt (eColltable_table.cells a0))) rfl (fun hb=>by subst hb;exact zFI (lq rfl) rfl) ?_
 refine q54 (.ip (eColltable_table.cells a0) (0+8)) zXP ?_
 refine q62 (.d (di a0.top)) O3 ?_
 refine q73 (.d (db (decide (v10 < a0.top)))) ?_
 refine Q36 ?_
 refine yB p2 (fun p2=>?_) (fun p2=>?_)
 refine Q5 ?_
 have ⟨y3,hy3,p2⟩:=bE p2
 refine zK y3 (.exit 2) (fun y3=>⟨[(0,.d (.pt (eColltable_table.cells a0))),(1,.row 3001),(7,.d (di v7))],[(3001,.win 3 eI.size 0 (eI.all r3001))]⟩) .normal (fun y3=>⟨[(0,.d (.pt (eColltable_table.cells a0))),(1,.row 3001),(7,.d (di y3.1)),(10,.d (di y3.2.1)),(11,.d (di v11))],[(3001,.win 3 eI.size 0 (eI.all y3.2.2))]⟩) ?_ ?_ ?_
 refine zXY ?_
 refine Q18 ?_
 have ⟨t62,ht62,hy3⟩:=bE hy3
 refine yH (zDY (en:=eI) (l:=r3001) (lq rfl) yU rfl rfl rfl ht62) ?_
 refine yH (zHG (en:=eI) (l:=r3001) (i:=v11) (v:=t62) (lq rfl) O3 rfl rfl ht62 rfl) ?_
 refine Q1 ?_
 refine Q15 ?_
 have ⟨t66,ht66,hy3⟩:=bE hy3
 refine q8 (zG0 ht66) ?_
 refine Q1 ?_
 refine Q4 ?_
 refine Q87 ?_
 refine yB hy3 (fun hy3=>?_) (fun hy3=>?_)
 refine zG ?_
 cases hy3
 exact ⟨rfl,wc⟩
 refine zP<|Q12 ?_
 refine q70 ?_
 refine zL ?_
 refine yB hy3 (fun hy3=>?_) (fun hy3=>?_)
 refine zG ?_
 cases hy3
 exact ⟨rfl,wc⟩
 refine Q95 ?_
 refine Q34 ?_
 have ⟨t77,ht77,hy3⟩:=bE hy3
 refine yH (z1A (en:=eI) (l:=r3001) (lq rfl) yU rfl rfl rfl rfl ht77) ?_
 refine q0 ?_
 refine q24 yU ?_
 have ⟨r80_4,hr80_4,hy3⟩:=bE hy3
 refine kP rfl (z1B (en:=eI) (l:=r3001) (b:=v7) (lq rfl) yU rfl rfl ht77 rfl (by simp) hr80_4 (by decide) rfl) ?_
 have ⟨t81,ht81,hy3⟩:=bE hy3
 refine z8L (zAY ht81) ?_
 refine Q78 ?_
 refine z18 ?_
 refine Q42 ?_
 refine yB hy3 (fun hy3=>?_) (fun hy3=>?_)
 refine Q35 ?_
 refine zG ?_
 cases hy3
 exact ⟨rfl,wc⟩
 refine Q5 ?_
 refine zFG 10 MX rfl ?_
 refine zVJ ?_
 refine z46 ?_
 refine q7 ?_
 refine z46 ?_
 have ⟨t92,ht92,hy3⟩:=bE hy3
 refine vB (zUX (en:=eI) (l:=r3001) (lq rfl) yU rfl rfl rfl rfl ht92) ?_
 refine q88 ?_
 refine Q27 ?_
 have ⟨t96,ht96,hy3⟩:=bE hy3
 refine vB (zUX (en:=eI) (l:=r3001) (lq rfl) yU rfl rfl rfl rfl ht96) ?_
 refine xQ ?_
 refine kP rfl (z7X (en:=eI) (l:=r3001) (a1:=(wi (v7+1))) (b1:=(wi (v11+1))) (a2:=v7) (b2:=v11) (lq rfl) yU rfl rfl rfl ht92 ht96 rfl) ?_
 refine Q52 ?_
 refine Q34 ?_
 have ⟨t101,ht101,hy3⟩:=bE hy3
 refine yH (zDY (en:=eI) (l:=(cpM r3001 (wi (v7+1)) (wi (v11+1)) v7 v11)) (lq rfl) yU rfl rfl rfl ht101) ?_
 have ⟨r3001_5,hr3001_5,hy3⟩:=bE hy3
 refine kP rfl (zUZ (en:=eI) (l:=(cpM r3001 (wi (v7+1)) (wi (v11+1)) v7 v11)) (i:=v7) (v:=t62) O3 rfl rfl rfl ht101 hr3001_5 rfl rfl rfl rfl) ?_
 refine zL<|Q11 ?_
 cases hy3
 exact ⟨rfl,wc⟩
 rintro y3 rfl
 replace p2:=eL p2
 cases p2
 intro q;cases q
 exact zN (wc)
 rintro y3 rfl
 replace p2:=eR p2
 refine Q11 ?_
 cases p2
 exact wc
 refine zG ?_
 cases p2
 intro q;cases q
 exact zN (wc)
 refine Q2 ?_
 refine Q18 ?_
 have ⟨t108,ht108,h⟩:=bE h
 refine yH (zRD (en:=eI) (l:=y2.2) (lq rfl) yU rfl rfl rfl ht108) ?_
 refine zIT (zXG (tm:=108) (en:=eI) (l:=y2.2) (b:=y2.1) (lq rfl) rfl rfl ht108) ?_ (by simp)
 have ⟨t109,ht109,h⟩:=bE h
 refine kP rfl ((xV (lq rfl) rfl (zAY ht109)).step) ?_
 refine Q78 ?_
 refine Q46 ?_
 refine Q15 ?_
 refine q1 ?_
 refine Q46 ?_
 cases h
 refine zB ?_
 exact ⟨⟨_,_,rfl,rfl,⟨_,_,rfl,rfl,⟨_,_,rfl,rfl,rfl⟩⟩⟩,⟨rfl,trivial⟩⟩
theorem yA {a0 r:(List Element)} (h:k6 a0=some r):GC Tryz.prog 53 [.d (zW eElement a0)] [] [] [.row 5] [(5,.row 64 eElement.size false (eElement.all r))]:=by
 unfold k6 at h
 cases a0 with
 | nil=>
  refine zUW (by decide) fun B c=>?_
  refine zCJ Tryz.func53 (by kernel_rfl) rfl (lq rfl) (lq rfl) fun w0 I0 hG0 p0=>?_
  refine Q47 ?_
  refine yH (zRC (lq rfl) Tryz.underlying39 rfl) ?_
  refine zL ?_
  refine zOE rfl ⟨fun c1=>?_,fun c1=>?_⟩
  obtain ⟨rfl,_⟩:=zKS h
  refine Q3 ?_
  refine zV (zCT (t:=2) 5 64 eElement.size (lq rfl) (lq rfl) rfl rfl) ?_
  refine zB ?_
  exact ⟨⟨_,_,rfl,rfl,rfl⟩,rfl,trivial⟩
  refine zP ?_
  refine Q0 ?_
  refine q85 S39 ?_
  refine q0 ?_
  refine zIT (zKX (t:=6) eElement.size (lq rfl) rfl) ?_ (by simp)
  refine kP rfl (jU (en:=eElement) (l:=[]) (m:=[]) (lq rfl) S39 rfl rfl rfl h (by decide) (by decide) rfl rfl) ?_
  refine Q13 ?_
  refine zB ?_
  exact ⟨⟨_,_,rfl,rfl,rfl⟩,rfl,trivial⟩
 | cons x l=>
  refine zCJ Tryz.func53 (by kernel_rfl) rfl (lq rfl) (lq rfl) fun w0 I0 hG0 p0=>?_
  refine Q47 ?_
  refine yH (zYV (lq rfl) Tryz.underlying39 rfl (z4B (by decide))) ?_
  refine zL ?_
  refine zOE rfl ⟨fun c1=>(by cases c1),fun c1=>?_⟩
  refine Q50 ?_
  refine q85 S39 ?_
  refine q0 ?_
  refine kP rfl (jU (en:=eElement) (l:=[]) (m:=x::l) (lq rfl) S39 rfl rfl rfl h (by decide) (by decide) rfl rfl) ?_
  refine Q13 ?_
  refine zB ?_
  exact ⟨⟨_,_,rfl,rfl,rfl⟩,rfl,trivial⟩
set_option maxHeartbeats 8000000 in
theorem zL9 {a0 a1 a2 r} (h:zAD a0 a1 a2=some r):zF Tryz.prog 24 [(eNorm.dv a0),(eCollation.dv a1),(zW eI a2)] [(di r.1),(zW eI r.2.1),(zW eElement r.2.2)]:=by
 refine co Tryz.func24 ?_;intro _ _ _ _
 unfold zAD at h
 refine yEW ?_
 refine q1 ?_
 refine zXZ ?_
 refine q4 yU ?_
 refine Q87 ?_
 refine yB h (fun h=>?_) (fun h=>?_)
 refine Q0 ?_
 refine q1 ?_
 refine Q46 ?_
 refine zV (zDC (t:=7) eI.size (lq rfl) rfl) ?_
 refine zV (zDC (t:=8) eElement.size (lq rfl) rfl) ?_
 cases h
 refine zB ?_
 exact zQ0 rfl rfl rfl
 refine zP<|Q2 ?_
 have ⟨t17,ht17,h⟩:=bE h
 refine kP rfl (xR [(5,2517)] (zC4 ht17) (lq rfl) (by decide) ⟨rfl,trivial⟩ rfl rfl trivial rfl rfl rfl (fun _=>rfl) rfl) ?_
 refine Q13 ?_
 refine kL ?_
 have ⟨t20,ht20,h⟩:=bE h
 have ⟨t22,ht22,h⟩:=bE h
 have ⟨t24,ht24,h⟩:=bE h
 refine tl .normal ⟨[(9,.row 2517),(10,.d (di t24.1)),(11,.d (zW eElement t24.2.1))],[(2517,.win 3 eI.size t24.1.toNat (eI.all t24.2.2.2))]⟩ ?_ ?_
 refine zCX MX ?_
 refine xm 4 ?_
 refine xn [0,2] ?_
 refine q94 G32 ?_ ?_
 refine xn [1,2] ?_
 refine xb rfl (xR [(13,2520),(11,3020)] (vP ht20) (lq rfl) (by decide) ⟨rfl,trivial⟩ rfl rfl trivial rfl rfl rfl (fun _=>rfl) rfl) ?_ ?_
 refine xn [2] ?_
 refine q56 G28 ?_
 refine xn [3] ?_
 refine xd rfl (xR [(3000,2520),(3105,3020)] (jT ht22) (lq rfl) (by decide) ⟨rfl,rfl,trivial⟩ rfl rfl ⟨rfl,rfl,trivial⟩ rfl rfl rfl (fun _=>rfl) rfl) ?_
 refine zKZ (zET (bid:=2520) (off:=5) rfl rfl rfl) ?_
 refine zKZ (zY (t:=22) (lq rfl) rfl rfl rfl) ?_
 refine zKZ (zES (id:=2517) rfl) ?_
 refine xn [5] ?_
 refine xd rfl (xR [(3001,2517)] (w7 ht24) (lq rfl) (by decide) ⟨rfl,rfl,trivial⟩ rfl rfl ⟨rfl,trivial⟩ rfl rfl rfl (fun _=>rfl) rfl) ?_
 refine xm 6 ?_
 refine vE (i:=7) rfl (lq rfl) rfl rfl rfl rfl rfl rfl ?_
 refine vE (i:=8) rfl (lq rfl) rfl rfl rfl rfl rfl rfl ?_
 refine vE (i:=9) rfl (lq rfl) rfl rfl rfl rfl rfl rfl ?_
 refine Q90 ?_
 refine Q49 ?_
 refine q12 ?_
 exact ae
 refine q56 G28 ?_
 refine xn [1] ?_
 refine xd rfl (xR [(13,2520),(11,3020)] (vP ht20) (lq rfl) (by decide) ⟨rfl,trivial⟩ rfl rfl trivial rfl rfl rfl (fun _=>rfl) rfl) ?_
 refine xn [3] ?_
 refine xd rfl (xR [(3000,2520),(3105,3020)] (jT ht22) (lq rfl) (by decide) ⟨rfl,rfl,trivial⟩ rfl rfl ⟨rfl,rfl,trivial⟩ rfl rfl rfl (fun _=>rfl) rfl) ?_
 refine zKZ (zET (bid:=2520) (off:=5) rfl rfl rfl) ?_
 refine zKZ (zY (t:=22) (lq rfl) rfl rfl rfl) ?_
 refine zKZ (zES (id:=2517) rfl) ?_
 refine xn [5] ?_
 refine xd rfl (xR [(3001,2517)] (w7 ht24) (lq rfl) (by decide) ⟨rfl,rfl,trivial⟩ rfl rfl ⟨rfl,trivial⟩ rfl rfl rfl (fun _=>rfl) rfl) ?_
 refine xm 6 ?_
 refine vE (i:=7) rfl (lq rfl) rfl rfl rfl rfl rfl rfl ?_
 refine vE (i:=8) rfl (lq rfl) rfl rfl rfl rfl rfl rfl ?_
 refine vE (i:=9) rfl (lq rfl) rfl rfl rfl rfl rfl rfl ?_
 refine Q90 ?_
 refine Q49 ?_
 refine q12 ?_
 exact ae
 refine q56 G28 ?_
 refine xn [0] ?_
 refine q56 G32 ?_
 refine xn [1] ?_
 refine xd rfl (xR [(13,2520),(11,3020)] (vP ht20) (lq rfl) (by decide) ⟨rfl,trivial⟩ rfl rfl trivial rfl rfl rfl (fun _=>rfl) rfl) ?_
 refine xn [3] ?_
 refine xd rfl (xR [(3000,2520),(3105,3020)] (jT ht22) (lq rfl) (by decide) ⟨rfl,rfl,trivial⟩ rfl rfl ⟨rfl,rfl,trivial⟩ rfl rfl rfl (fun _=>rfl) rfl) ?_
 refine zKZ (zET (bid:=2520) (off:=5) rfl rfl rfl) ?_
 refine zKZ (zY (t:=22) (lq rfl) rfl rfl rfl) ?_
 refine zKZ (zES (id:=2517) rfl) ?_
 refine xn [5] ?_
 refine xd rfl (xR [(3001,2517)] (w7 ht24) (lq rfl) (by decide) ⟨rfl,rfl,trivial⟩ rfl rfl ⟨rfl,trivial⟩ rfl rfl rfl (fun _=>rfl) rfl) ?_
 refine xm 6 ?_
 refine vE (i:=7) rfl (lq rfl) rfl rfl rfl rfl rfl rfl ?_
 refine vE (i:=8) rfl (lq rfl) rfl rfl rfl rfl rfl rfl ?_
 refine vE (i:=9) rfl (lq rfl) rfl rfl rfl rfl rfl rfl ?_
 refine Q90 ?_
 refine Q49 ?_
 refine q12 ?_
 exact ae
 refine zV (zW7 (t:=9) (lq rfl) rfl rfl) ?_
 refine kL ?_
 have ⟨t35,ht35,h⟩:=bE h
 have ⟨t37,ht37,h⟩:=bE h
 refine tl .normal ⟨[(6,.d (di t24.1)),(7,.d (zW eI t35)),(8,.row 2537)],[(2537,.row 64 eElement.size false (eElement.all t37))]⟩ ?_ ?_
 refine zCX MX ?_
 refine z17 ?_
 refine xm 3 ?_
 refine xm 5 ?_
 refine xm 8 ?_
 refine xn [4,6,9] ?_
 refine q81 yU ?_ ?_
 refine xn [6,9] ?_
 refine q81 yU ?_ ?_
 refine xn [7,9] ?_
 refine zVE yU ht35 ?_ ?_
 refine xn [9] ?_
 refine xd rfl (xR [(5,2537)] (yA ht37) (lq rfl) (by decide) ⟨rfl,trivial⟩ rfl rfl trivial rfl rfl rfl (fun _=>rfl) rfl) ?_
 refine zVK ?_
 exact ae
 refine xd rfl (xR [(5,2537)] (yA ht37) (lq rfl) (by decide) ⟨rfl,trivial⟩ rfl rfl trivial rfl rfl rfl (fun _=>rfl) rfl) ?_
 refine xn [7,10] ?_
 refine zVE yU ht35 ?_ ?_
 refine zVK ?_
 exact ae
 refine Q20 ?_
 refine q75 yU ht35 ?_
 refine Q56 ?_
 exact ae
 refine xd rfl (xR [(5,2537)] (yA ht37) (lq rfl) (by decide) ⟨rfl,trivial⟩ rfl rfl trivial rfl rfl rfl (fun _=>rfl) rfl) ?_
 refine xn [6,10] ?_
 refine q81 yU ?_ ?_
 refine xn [7,10] ?_
 refine zVE yU ht35 ?_ ?_
 refine zVK ?_
 exact ae
 refine Q20 ?_
 refine q75 yU ht35 ?_
 refine Q56 ?_
 exact ae
 refine q12 ?_
 refine xn [6] ?_
 refine zXU yU ?_
 refine xn [7] ?_
 refine q75 yU ht35 ?_
 refine Q56 ?_
 exact ae
 refine q81 yU ?_ ?_
 refine xn [4,9] ?_
 refine q81 yU ?_ ?_
 refine xn [7,9] ?_
 refine zVE yU ht35 ?_ ?_
 refine xn [9] ?_
 refine xd rfl (xR [(5,2537)] (yA ht37) (lq rfl) (by decide) ⟨rfl,trivial⟩ rfl rfl trivial rfl rfl rfl (fun _=>rfl) rfl) ?_
 refine zVK ?_
 exact ae
 refine xd rfl (xR [(5,2537)] (yA ht37) (lq rfl) (by decide) ⟨rfl,trivial⟩ rfl rfl trivial rfl rfl rfl (fun _=>rfl) rfl) ?_
 refine xn [7,10] ?_
 refine zVE yU ht35 ?_ ?_
 refine zVK ?_
 exact ae
 refine Q20 ?_
 refine q75 yU ht35 ?_
 refine Q56 ?_
 exact ae
 refine xd rfl (xR [(5,2537)] (yA ht37) (lq rfl) (by decide) ⟨rfl,trivial⟩ rfl rfl trivial rfl rfl rfl (fun _=>rfl) rfl) ?_
 refine xn [4,10] ?_
 refine q81 yU ?_ ?_
 refine xn [7,10] ?_
 refine zVE yU ht35 ?_ ?_
 refine zVK ?_
 exact ae
 refine Q20 ?_
 refine q75 yU ht35 ?_
 refine Q56 ?_
 exact ae
 refine q12 ?_
 refine xn [4] ?_
 refine zXU yU ?_
 refine xn [7] ?_
 refine q75 yU ht35 ?_
 refine Q56 ?_
 exact ae
 refine xd rfl (xR [(5,2537)] (yA ht37) (lq rfl) (by decide) ⟨rfl,trivial⟩ rfl rfl trivial rfl rfl rfl (fun _=>rfl) rfl) ?_
 refine xn [4,6,10] ?_
 refine q81 yU ?_ ?_
 refine xn [6,10] ?_
 refine q81 yU ?_ ?_
 refine xn [7,10] ?_
 refine zVE yU ht35 ?_ ?_
 refine zVK ?_
 exact ae
 refine Q20 ?_
 refine q75 yU ht35 ?_
 refine Q56 ?_
 exact ae
 refine q12 ?_
 refine xn [6] ?_
 refine zXU yU ?_
 refine xn [7] ?_
 refine q75 yU ht35 ?_
 refine Q56 ?_
 exact ae
 refine q81 yU ?_ ?_
 refine xn [4,10] ?_
 refine q81 yU ?_ ?_
 refine xn [7,10] ?_
 refine zVE yU ht35 ?_ ?_
 refine zVK ?_
 exact ae
 refine Q20 ?_
 refine q75 yU ht35 ?_
 refine Q56 ?_
 exact ae
 refine q12 ?_
 refine xn [4] ?_
 refine zXU yU ?_
 refine xn [7] ?_
 refine q75 yU ht35 ?_
 refine Q56 ?_
 exact ae
 refine q12 ?_
 refine xn [4,6] ?_
 refine q81 yU ?_ ?_
 refine xn [6] ?_
 refine zXU yU ?_
 refine xn [7] ?_
 refine q75 yU ht35 ?_
 refine Q56 ?_
 exact ae
 refine zXU yU ?_
 refine xn [4] ?_
 refine zXU yU ?_
 refine xn [7] ?_
 refine q75 yU ht35 ?_
 refine Q56 ?_
 exact ae
 cases h
 refine zB ?_
 exact zQ0 rfl rfl rfl
theorem zHT {a0 a1 r} (h:zA9 a0 a1=some r):zF Tryz.prog 42 [(zW eI a0),(zW eI a1)] [(di r)]:=by
 refine co Tryz.func42 ?_;intro _ _ _ _
 unfold zA9 at h
 refine Q74 ?_
 have ⟨y1,hy1,h⟩:=bE h
 refine zK y1 (.exit 0) (fun y1=>⟨[(0,.d (zW eI a0)),(1,.d (zW eI a1))],[]⟩) .ret (fun y1=>⟨[(4,.d (di y1))],[]⟩) ?_ ?_ ?_
 refine zD (fun x=>⟨[(0,.d (zW eI a0)),(1,.d (zW eI a1)),(5,.d (di x))],[]⟩) hy1 (wc) ?_
 rintro v5 sy1 p1
 replace p1:vO a0 a1 v5=some sy1:=p1
 unfold vO at p1
 refine Q12 ?_
 refine q4 yU ?_
 refine q3 ?_
 have ⟨b10,hb10,p1⟩:=bE p1
 refine yH ((zC (lq rfl) rfl).bool (oi hb10)) ?_
 refine q13 (.d (di v5)) ?_
 refine q13 (.d (zW eI a1)) ?_
 refine z1L (.d (di (a1.length:Int))) yU ?_
 refine q73 (.d (db (decide (v5 < (a1.length:Int))))) ?_
 refine Q36 ?_
 refine yB p1 (fun p1=>?_) (fun p1=>?_)
 refine Q65 ?_
 refine kL ?_
 refine z7 MX rfl ?_
 refine Q27 ?_
 have ⟨t20,ht20,p1⟩:=bE p1
 refine q23 yU ht20 ?_
 refine q67 O3 ht20 ?_
 refine Q27 ?_
 have ⟨t24,ht24,p1⟩:=bE p1
 refine q23 yU ht24 ?_
 refine q67 O3 ht24 ?_
 refine z1T ?_
 refine xQ ?_
 refine yB p1 (fun p1=>?_) (fun p1=>?_)
 refine Q17 ?_
 cases p1
 intro q;cases q
 exact ⟨rfl,wc⟩
 refine Q5 ?_
 refine z7 MX rfl ?_
 refine Q27 ?_
 have ⟨t29,ht29,p1⟩:=bE p1
 refine q23 yU ht29 ?_
 refine q67 O3 ht29 ?_
 refine Q27 ?_
 have ⟨t33,ht33,p1⟩:=bE p1
 refine q23 yU ht33 ?_
 refine q67 O3 ht33 ?_
 refine zXS ?_
 refine xQ ?_
 refine yB p1 (fun p1=>?_) (fun p1=>?_)
 refine Q17 ?_
 cases p1
 intro q;cases q
 exact ⟨rfl,wc⟩
 refine Q28 ?_
 cases p1
 exact wc
 refine zG ?_
 cases p1
 intro q;cases q
 exact ⟨rfl,wc⟩
 rintro y1 rfl
 replace h:=eL h
 refine Q4 ?_
 refine q4 yU ?_
 refine q0 ?_
 refine Q83 ?_
 refine yB h (fun h=>?_) (fun h=>?_)
 refine Q3 ?_
 cases h
 refine zB ?_
 exact zH rfl
 refine Q95 ?_
 refine q4 yU ?_
 refine q0 ?_
 refine q4 yU ?_
 refine Q54 ?_
 refine yB h (fun h=>?_) (fun h=>?_)
 refine Q3 ?_
 cases h
 refine zB ?_
 exact zH rfl
 refine Q58 ?_
 cases h
 refine zB ?_
 exact zH rfl
 rintro y1 rfl
 replace h:=eR h
 cases h
 exact zH rfl
theorem zP9 {a0 a1 r} (h:zCM a0 a1=some r):zF Tryz.prog 17 [(zW eI a0),(zW eI a1)] [(db r)]:=by
 refine co Tryz.func17 ?_;intro _ _ _ _
 unfold zCM at h
 refine Q3 ?_
 refine Q15 ?_
 have ⟨t7,ht7,h⟩:=bE h
 refine q8 (zHT ht7) ?_
 refine Q88 ?_
 cases h
 refine zB ?_
 exact zH rfl
theorem zLA {a0 a1 r} (h:zAW a0 a1=some r):zF Tryz.prog 13 [(zW eElement a0),(zW eElement a1)] [(db r)]:=by
 refine co Tryz.func13 ?_;intro _ _ _ _
 unfold zAW at h
 refine Q47 ?_
 refine q4 S39 ?_
 refine q0 ?_
 refine q4 S39 ?_
 refine Q33 ?_
 refine yB h (fun h=>?_) (fun h=>?_)
 refine Q3 ?_
 cases h
 refine zB ?_
 exact zH rfl
 refine Q93 ?_
 have ⟨y1,hy1,h⟩:=bE h
 refine zK y1 (.exit 0) (fun y1=>⟨[],[]⟩) .ret (fun y1=>⟨[(4,.d (db y1))],[]⟩) ?_ ?_ ?_
 refine zD (fun x=>⟨[(0,.d (zW eElement a0)),(1,.d (zW eElement a1)),(5,.d (di x))],[]⟩) hy1 (wc) ?_
 rintro v5 sy1 p1
 replace p1:wG a0 a1 v5=some sy1:=p1
 unfold wG at p1
 refine Q12 ?_
 refine q4 S39 ?_
 refine Q6 ?_
 refine yB p1 (fun p1=>?_) (fun p1=>?_)
 refine Q65 ?_
 refine z7 MX rfl ?_
 refine Q27 ?_
 have ⟨t19,ht19,p1⟩:=bE p1
 refine q23 S39 ht19 ?_
 refine vB (xH (en:=eElement) (l:=a0) (i:=v5) (v:=t19) (off:=0) (lq rfl) G64 rfl ht19 rfl rfl (by decide)) ?_
 refine Q27 ?_
 have ⟨t23,ht23,p1⟩:=bE p1
 refine q23 S39 ht23 ?_
 refine vB (xH (en:=eElement) (l:=a1) (i:=v5) (v:=t23) (off:=0) (lq rfl) G64 rfl ht23 rfl rfl (by decide)) ?_
 refine vB (zSA (en:=eElement) (a:=t19) (b:=t23) (lq rfl) E64 rfl rfl) ?_
 refine xQ ?_
 refine yB p1 (fun p1=>?_) (fun p1=>?_)
 refine Q17 ?_
 cases p1
 intro q;cases q
 exact ⟨rfl,wc⟩
 refine Q28 ?_
 cases p1
 exact wc
 refine zG ?_
 cases p1
 intro q;cases q
 exact ⟨rfl,wc⟩
 rintro y1 rfl
 replace h:=eL h
 refine Q3 ?_
 cases h
 refine zB ?_
 exact zH rfl
 rintro y1 rfl
 replace h:=eR h
 cases h
 exact zH rfl
set_option maxRecDepth 40000 in
theorem zDU {r} (h:zAU=some r):zF Tryz.prog 7 [] [(db r)]:=by
 refine co Tryz.func7 ?_;intro _ _ _ _
 unfold zAU at h
 refine Q3 ?_
 refine Q0 ?_
 refine q48 B62 ?_
 refine q48 B62 ?_
 refine q24 S22 ?_
 refine yH ((zCW (lq rfl) B28 rfl rfl).nils (bs:=eNorm.cells ({Classes:=[({Lo:=769,Hi:=769,Value:=230}:Span),({Lo:=803,Hi:=803,Value:=220}:Span)],Decomp:=[],Excluded:=(({Ranges:=[]}):Set)}:Norm)) (nlE (nlN (nlN nl0)))) ?_
 refine yB5 ?_
 refine q16 G28 ?_
 refine zL ?_
 refine zV (zY (t:=1) (lq rfl) rfl rfl rfl) ?_
 refine Q0 ?_
 refine q48 B64 ?_
 refine q24 S39 ?_
 refine Q39 ?_
 refine q48 B64 ?_
 refine q24 S39 ?_
 refine Q39 ?_
 refine q24 yU ?_
 refine q0 ?_
 refine q48 B41 ?_
 refine q24 yU ?_
 refine q0 ?_
 refine q48 B41 ?_
 refine q24 S29 ?_
 refine yH ((zCW (lq rfl) B32 rfl rfl).nils (bs:=eCollation.cells ({Entries:=[({Codes:=[97],Elements:=[({Primary:=7,Secondary:=1,Tertiary:=1,Variable:=false}:Element)]}:Entry),({Codes:=[97,769],Elements:=[({Primary:=8,Secondary:=1,Tertiary:=1,Variable:=false}:Element)]}:Entry)],Groups:=[],Base:=100,Second:=1,Third:=1}:Collation)) (nlE (nlN (nlE (nlE (nlE nl0)))))) ?_
 refine yB6 ?_
 refine q16 G32 ?_
 refine zL ?_
 refine zV (zY (t:=4) (lq rfl) rfl rfl rfl) ?_
 refine Q0 ?_
 refine q21 G28 ?_
 refine q21 G32 ?_
 refine q24 yU ?_
 have ⟨t28,ht28,h⟩:=bE h
 refine q8 (zL9 ht28) ?_
 refine Q78 ?_
 refine q42 ?_
 refine q1 ?_
 refine q1 ?_
 refine Q39 ?_
 refine q21 G32 ?_
 have ⟨t33,ht33,h⟩:=bE h
 refine q8 (zGD ht33) ?_
 refine q39 ?_
 have ⟨b35,hb35,h⟩:=bE h
 refine yH ((zC (lq rfl) rfl).bool (oi hb35)) ?_
 refine q13 (.d (di t28.1)) ?_
 refine q79 (.d (db (decide (t28.1=2)))) ?_
 refine q14 ?_
 have ⟨b39,hb39,h⟩:=bE h
 refine yH ((zC (lq rfl) rfl).bool (oi hb39)) ?_
 refine q13 (.d (zW eI t28.2.1)) ?_
 refine sqt (.d (zW eI [803])) rfl (fun hb=>by subst hb;exact z3M (lq rfl) yU rfl rfl rfl rfl (by decide) rfl) ?_
 have ⟨t42,ht42,h⟩:=bE h
 refine sqt (.d (db t42)) rfl (fun hb=>by subst hb;exact xV (lq rfl) rfl (zP9 ht42)) ?_
 refine q14 ?_
 have ⟨b44,hb44,h⟩:=bE h
 refine yH ((zC (lq rfl) rfl).bool (oi hb44)) ?_
 refine q13 (.d (zW eElement t28.2.2)) ?_
 refine q13 (.d (zW eElement [({Primary:=8,Secondary:=1,Tertiary:=1,Variable:=false}:Element)])) ?_
 have ⟨t47,ht47,h⟩:=bE h
 refine sqt (.d (db t47)) rfl (fun hb=>by subst hb;exact xV (lq rfl) rfl (zLA (gT ht47))) ?_
 refine Q41 ?_
 cases h
 refine zB ?_
 exact zH rfl
theorem zIL {a0 r} (h:zCY a0=some r):zF Tryz.prog 58 [(di a0)] [(db r)]:=by
 refine co Tryz.func58 ?_;intro _ _ _ _
 unfold zCY at h
 refine Q59 ?_
 refine q44 ?_
 have ⟨b5,hb5,h⟩:=bE h
 refine yH ((zC (lq rfl) rfl).bool (oi hb5)) ?_
 refine q13 (.d (di a0)) ?_
 refine q55 (.d (db (decide (a0≤65535)))) ?_
 refine Q41 ?_
 cases h
 refine zB ?_
 exact zH rfl
theorem zLB {a0 r} (h:zDF a0=some r):zF Tryz.prog 88 [(ds a0)] [(db r)]:=by
 refine co Tryz.func88 ?_;intro _ _ _ _
 unfold zDF at h
 refine Q74 ?_
 have ⟨y1,hy1,h⟩:=bE h
 refine zK y1 (.exit 0) (fun y1=>⟨[(0,.d (ds a0))],[]⟩) .ret (fun y1=>⟨[(2,.d (db y1))],[]⟩) ?_ ?_ ?_
 refine zD (fun x=>⟨[(0,.d (ds a0)),(3,.d (di x))],[]⟩) hy1 (wc) ?_
 rintro v3 sy1 p1
 replace p1:zDR a0 v3=some sy1:=p1
 unfold zDR at p1
 refine Q12 ?_
 refine z8A Tryz.underlying9 ?_
 refine Q6 ?_
 refine yB p1 (fun p1=>?_) (fun p1=>?_)
 refine Q69 ?_
 have ⟨t13,ht13,p1⟩:=bE p1
 refine z8B Tryz.underlying9 ht13 ?_
 refine Q19 ?_
 refine q44 ?_
 have ⟨b16,hb16,p1⟩:=bE p1
 refine yH ((zC (lq rfl) rfl).bool (oi hb16)) ?_
 refine q13 (.d (dby t13)) ?_
 refine q55 (.d (db (decide (t13≤90)))) ?_
 refine q14 ?_
 have ⟨b20,hb20,p1⟩:=bE p1
 refine yH ((zC (lq rfl) rfl).bool (oi hb20)) ?_
 refine q38 (.d (dby t13)) ?_
 refine zXQ (.d (db (decide (97≤t13)))) ?_
 have ⟨b23,hb23,p1⟩:=bE p1
 refine sqf (.d (db b23)) rfl (fun hb=>by subst hb;exact (zC (lq rfl) rfl).bool (oi hb23)) ?_
 refine jR (x:= .d (dby t13)) rfl rfl rfl (lq rfl) (lq rfl) rfl (fun hb=>by obtain ⟨hb,hb1⟩:=zI hb;obtain rfl:=gF hb;obtain rfl:b23=true:=hb1;exact zC (lq rfl) rfl) ?_
 refine jR (x:= .d (db (decide (t13≤122)))) rfl rfl rfl (lq rfl) (lq rfl) rfl (fun hb=>by obtain ⟨hb,hb1⟩:=zI hb;obtain rfl:=gF hb;obtain rfl:b23=true:=hb1;exact zGP (lq rfl) rfl rfl) ?_
 refine q86 (.d (db (b23&&(decide (t13≤122))))) ?_
 refine q18 ?_
 have ⟨b28,hb28,p1⟩:=bE p1
 refine yH ((zC (lq rfl) rfl).bool (oi hb28)) ?_
 refine q38 (.d (dby t13)) ?_
 refine zXQ (.d (db (decide (48≤t13)))) ?_
 have ⟨b31,hb31,p1⟩:=bE p1
 refine sqf (.d (db b31)) rfl (fun hb=>by subst hb;exact (zC (lq rfl) rfl).bool (oi hb31)) ?_
 refine jR (x:= .d (dby t13)) rfl rfl rfl (lq rfl) (lq rfl) rfl (fun hb=>by obtain ⟨hb,hb1⟩:=zI hb;obtain rfl:=gF hb;obtain rfl:b31=true:=hb1;exact zC (lq rfl) rfl) ?_
 refine jR (x:= .d (db (decide (t13≤57)))) rfl rfl rfl (lq rfl) (lq rfl) rfl (fun hb=>by obtain ⟨hb,hb1⟩:=zI hb;obtain rfl:=gF hb;obtain rfl:b31=true:=hb1;exact zGP (lq rfl) rfl rfl) ?_
 refine q86 (.d (db (b31&&(decide (t13≤57))))) ?_
 refine q18 ?_
 have ⟨b36,hb36,p1⟩:=bE p1
 refine yH ((zC (lq rfl) rfl).bool (oi hb36)) ?_
 refine q38 (.d (dby t13)) ?_
 refine zXR (.d (db (decide (t13=95)))) ?_
 refine q18 ?_
 refine Q42 ?_
 refine yB p1 (fun p1=>?_) (fun p1=>?_)
 refine Q17 ?_
 cases p1
 intro q;cases q
 exact ⟨rfl,wc⟩
 refine Q28 ?_
 cases p1
 exact wc
 refine zG ?_
 cases p1
 intro q;cases q
 exact ⟨rfl,wc⟩
 rintro y1 rfl
 replace h:=eL h
 refine Q2 ?_
 refine z8A Tryz.underlying9 ?_
 refine q44 ?_
 have ⟨b44,hb44,h⟩:=bE h
 refine yH ((zC (lq rfl) rfl).bool (oi hb44)) ?_
 refine q13 (.d (ds a0)) ?_
 refine sqt (.d (di (a0.length:Int))) rfl (fun hb=>by subst hb;exact zOH (s:=a0) (lq rfl) Tryz.underlying9 rfl) ?_
 refine q55 (.d (db (decide ((a0.length:Int)≤32)))) ?_
 refine Q41 ?_
 cases h
 refine zB ?_
 exact zH rfl
 rintro y1 rfl
 replace h:=eR h
 cases h
 exact zH rfl
theorem zO2 {a0 r} (h:zCZ a0=some r):zF Tryz.prog 59 [(eCollation.dv a0)] [(di r)]:=by
 refine co Tryz.func59 ?_;intro _ _ _ _
 unfold zCZ at h
 refine Q84 ?_
 refine Q39 ?_
 refine z5F ?_
 refine Q96 ?_
 have ⟨y1,hy1,h⟩:=bE h
 refine zK y1 (.exit 0) (fun y1=>⟨[(1,.d (.pt (eCollation.cells a0))),(3,.d (zW eGroup a0.Groups))],[]⟩) .ret (fun y1=>⟨[(2,.d (di y1))],[]⟩) ?_ ?_ ?_
 refine zD (fun x=>⟨[(1,.d (.pt (eCollation.cells a0))),(3,.d (zW eGroup a0.Groups)),(4,.d (di x))],[]⟩) hy1 (wc) ?_
 rintro v4 sy1 p1
 replace p1:uG a0 v4=some sy1:=p1
 unfold uG at p1
 refine Q12 ?_
 refine q4 S30 ?_
 refine Q6 ?_
 refine yB p1 (fun p1=>?_) (fun p1=>?_)
 refine Q69 ?_
 have ⟨t19,ht19,p1⟩:=bE p1
 refine q11 S30 ht19 ?_
 refine q46 zL5 ?_
 refine yH (zZ (en:=eGroup) (l:=a0.Groups) (i:=v4) (v:=t19) (off:=0) (lq rfl) O9 rfl ht19 rfl) ?_
 have ⟨t22,ht22,p1⟩:=bE p1
 refine q8 (zLB ht22) ?_
 refine Q42 ?_
 refine yB p1 (fun p1=>?_) (fun p1=>?_)
 refine Q17 ?_
 cases p1
 intro q;cases q
 exact ⟨rfl,wc⟩
 refine Q28 ?_
 cases p1
 exact wc
 refine zG ?_
 cases p1
 intro q;cases q
 exact ⟨rfl,wc⟩
 rintro y1 rfl
 replace h:=eL h
 refine Q32 ?_
 have ⟨y2,hy2,h⟩:=bE h
 refine zK y2 (.exit 2) (fun y2=>⟨[(1,.d (.pt (eCollation.cells a0))),(3,.d (zW eGroup a0.Groups))],[]⟩) .ret (fun y2=>⟨[(2,.d (di y2))],[]⟩) ?_ ?_ ?_
 refine zD (fun x=>⟨[(1,.d (.pt (eCollation.cells a0))),(3,.d (zW eGroup a0.Groups)),(5,.d (di x))],[]⟩) hy2 (wc) ?_
 rintro v5 sy2 p2
 replace p2:uI a0 v5=some sy2:=p2
 unfold uI at p2
 refine Q12 ?_
 refine q4 S30 ?_
 refine Q6 ?_
 refine yB p2 (fun p2=>?_) (fun p2=>?_)
 refine Q8 ?_
 refine Q14 ?_
 have ⟨y3,hy3,p2⟩:=bE p2
 refine zK y3 (.exit 4) (fun y3=>⟨[(1,.d (.pt (eCollation.cells a0))),(3,.d (zW eGroup a0.Groups)),(5,.d (di v5))],[]⟩) .ret (fun y3=>⟨[(2,.d (di y3))],[]⟩) ?_ ?_ ?_
 refine zD (fun x=>⟨[(1,.d (.pt (eCollation.cells a0))),(3,.d (zW eGroup a0.Groups)),(5,.d (di v5)),(6,.d (di x))],[]⟩) hy3 (wc) ?_
 rintro v6 sy3 p3
 replace p3:uH v5 a0 v6=some sy3:=p3
 unfold uH at p3
 refine Q72 ?_
 refine yB p3 (fun p3=>?_) (fun p3=>?_)
 refine Q65 ?_
 refine z7 MX rfl ?_
 refine Q27 ?_
 have ⟨t37,ht37,p3⟩:=bE p3
 refine q23 S30 ht37 ?_
 refine q52 zL5 ?_
 refine vB (zZ (en:=eGroup) (l:=a0.Groups) (i:=v6) (v:=t37) (off:=0) (lq rfl) O9 rfl ht37 rfl) ?_
 refine Q27 ?_
 have ⟨t42,ht42,p3⟩:=bE p3
 refine q23 S30 ht42 ?_
 refine q52 zL5 ?_
 refine vB (zZ (en:=eGroup) (l:=a0.Groups) (i:=v5) (v:=t42) (off:=0) (lq rfl) O9 rfl ht42 rfl) ?_
 refine vB (zL0 (a:=t37.Name) (b:=t42.Name) (lq rfl) rfl rfl) ?_
 refine xQ ?_
 refine yB p3 (fun p3=>?_) (fun p3=>?_)
 refine Q17 ?_
 cases p3
 intro q;cases q
 exact ⟨rfl,wc⟩
 refine Q28 ?_
 cases p3
 exact wc
 refine zG ?_
 cases p3
 intro q;cases q
 exact ⟨rfl,wc⟩
 rintro y3 rfl
 replace p2:=eL p2
 refine Q11 ?_
 cases p2
 exact wc
 rintro y3 rfl
 replace p2:=eR p2
 cases p2
 intro q;cases q
 exact ⟨rfl,wc⟩
 refine zG ?_
 cases p2
 intro q;cases q
 exact ⟨rfl,wc⟩
 rintro y2 rfl
 replace h:=eL h
 refine Q32 ?_
 have ⟨y4,hy4,h⟩:=bE h
 refine zK y4 (.exit 6) (fun y4=>⟨[(3,.d (zW eGroup a0.Groups))],[]⟩) .ret (fun y4=>⟨[(2,.d (di y4))],[]⟩) ?_ ?_ ?_
 refine zD (fun x=>⟨[(1,.d (.pt (eCollation.cells a0))),(3,.d (zW eGroup a0.Groups)),(7,.d (di x))],[]⟩) hy4 (wc) ?_
 rintro v7 sy4 p4
 replace p4:uJ a0 v7=some sy4:=p4
 unfold uJ at p4
 refine Q12 ?_
 refine q4 S30 ?_
 refine Q6 ?_
 refine yB p4 (fun p4=>?_) (fun p4=>?_)
 refine Q65 ?_
 refine z7 MX rfl ?_
 refine Q27 ?_
 have ⟨t54,ht54,p4⟩:=bE p4
 refine q23 S30 ht54 ?_
 refine q52 zL6 ?_
 refine vB (zZ (en:=eGroup) (l:=a0.Groups) (i:=v7) (v:=t54) (off:=1) (lq rfl) O3 rfl ht54 rfl) ?_
 refine z1T ?_
 have ⟨b58,hb58,p4⟩:=bE p4
 refine vB ((zC (lq rfl) rfl).bool (oi hb58)) ?_
 refine q50 (.d (zW eGroup a0.Groups)) ?_
 refine q50 (.d (di v7)) ?_
 have ⟨t61,ht61,p4⟩:=bE p4
 refine daf (.ip (eGroup.all a0.Groups) (v7.toNat*eGroup.size)) rfl (fun hb=>by subst hb;exact kM (en:=eGroup) (lq rfl) S30 rfl rfl ht61) ?_
 refine q82 (.ip (eGroup.all a0.Groups) (v7.toNat*eGroup.size+2)) zL7 ?_
 refine daf (.d (di t61.Hi)) rfl (fun hb=>by subst hb;exact zZ (en:=eGroup) (l:=a0.Groups) (i:=v7) (v:=t61) (off:=2) (lq rfl) O3 rfl ht61 rfl) ?_
 refine q50 (.d (zW eGroup a0.Groups)) ?_
 refine q50 (.d (di v7)) ?_
 have ⟨t66,ht66,p4⟩:=bE p4
 refine daf (.ip (eGroup.all a0.Groups) (v7.toNat*eGroup.size)) rfl (fun hb=>by subst hb;exact kM (en:=eGroup) (lq rfl) S30 rfl rfl ht66) ?_
 refine q82 (.ip (eGroup.all a0.Groups) (v7.toNat*eGroup.size+1)) zL6 ?_
 refine daf (.d (di t66.Lo)) rfl (fun hb=>by subst hb;exact zZ (en:=eGroup) (l:=a0.Groups) (i:=v7) (v:=t66) (off:=1) (lq rfl) O3 rfl ht66 rfl) ?_
 refine daf (.d (db (decide (t61.Hi < t66.Lo)))) rfl (fun hb=>by subst hb;exact zKJ (lq rfl) rfl rfl) ?_
 refine q95 ?_
 have ⟨b71,hb71,p4⟩:=bE p4
 refine vB ((zC (lq rfl) rfl).bool (oi hb71)) ?_
 refine q50 (.d (zW eGroup a0.Groups)) ?_
 refine q50 (.d (di v7)) ?_
 have ⟨t74,ht74,p4⟩:=bE p4
 refine daf (.ip (eGroup.all a0.Groups) (v7.toNat*eGroup.size)) rfl (fun hb=>by subst hb;exact kM (en:=eGroup) (lq rfl) S30 rfl rfl ht74) ?_
 refine q82 (.ip (eGroup.all a0.Groups) (v7.toNat*eGroup.size+2)) zL7 ?_
 refine daf (.d (di t74.Hi)) rfl (fun hb=>by subst hb;exact zZ (en:=eGroup) (l:=a0.Groups) (i:=v7) (v:=t74) (off:=2) (lq rfl) O3 rfl ht74 rfl) ?_
 refine daf (.ip (eCollation.cells a0) (0+2)) rfl (fun hb=>by subst hb;exact xM (lq rfl) zK3 rfl) ?_
 refine daf (.d (di a0.Base)) rfl (fun hb=>by subst hb;exact kD (lq rfl) O3 rfl rfl) ?_
 refine daf (.d (db (decide (a0.Base≤t74.Hi)))) rfl (fun hb=>by subst hb;exact zH6 (lq rfl) rfl rfl) ?_
 refine q95 ?_
 refine xQ ?_
 refine yB p4 (fun p4=>?_) (fun p4=>?_)
 refine Q17 ?_
 cases p4
 intro q;cases q
 exact ⟨rfl,wc⟩
 refine Q28 ?_
 cases p4
 exact wc
 refine zG ?_
 cases p4
 intro q;cases q
 exact ⟨rfl,wc⟩
 rintro y4 rfl
 replace h:=eL h
 refine Q32 ?_
 have ⟨y5,hy5,h⟩:=bE h
 refine zK y5 (.exit 8) (fun y5=>⟨[],[]⟩) .ret (fun y5=>⟨[(2,.d (di y5))],[]⟩) ?_ ?_ ?_
 refine zD (fun x=>⟨[(3,.d (zW eGroup a0.Groups)),(8,.d (di x))],[]⟩) hy5 (wc) ?_
 rintro v8 sy5 p5
 replace p5:vA a0 v8=some sy5:=p5
 unfold vA at p5
 refine Q12 ?_
 refine q4 S30 ?_
 refine Q6 ?_
 refine yB p5 (fun p5=>?_) (fun p5=>?_)
 refine Q65 ?_
 refine z7 MX rfl ?_
 refine Q27 ?_
 have ⟨t89,ht89,p5⟩:=bE p5
 refine q23 S30 ht89 ?_
 refine q52 zL6 ?_
 refine vB (zZ (en:=eGroup) (l:=a0.Groups) (i:=v8) (v:=t89) (off:=1) (lq rfl) O3 rfl ht89 rfl) ?_
 refine Q27 ?_
 refine zVD ?_
 have ⟨t95,ht95,p5⟩:=bE p5
 refine q23 S30 ht95 ?_
 refine q52 zL7 ?_
 refine vB (zZ (en:=eGroup) (l:=a0.Groups) (i:=(wi (v8 - 1))) (v:=t95) (off:=2) (lq rfl) O3 rfl ht95 rfl) ?_
 refine z46 ?_
 refine vB (zMQ (lq rfl) rfl rfl) ?_
 refine xQ ?_
 refine yB p5 (fun p5=>?_) (fun p5=>?_)
 refine Q17 ?_
 cases p5
 intro q;cases q
 exact ⟨rfl,wc⟩
 refine Q28 ?_
 cases p5
 exact wc
 refine zG ?_
 cases p5
 intro q;cases q
 exact ⟨rfl,wc⟩
 rintro y5 rfl
 replace h:=eL h
 refine Q3 ?_
 cases h
 refine zB ?_
 exact zH rfl
 rintro y5 rfl
 replace h:=eR h
 cases h
 exact zH rfl
 rintro y4 rfl
 replace h:=eR h
 cases h
 exact zH rfl
 rintro y2 rfl
 replace h:=eR h
 cases h
 exact zH rfl
 rintro y1 rfl
 replace h:=eR h
 cases h
 exact zH rfl
theorem uY {a0 r} (h:vG a0=some r):zF Tryz.prog 48 [(di a0)] [(db r)]:=by
 refine co Tryz.func48 ?_;intro _ _ _ _
 unfold vG at h
 refine Q59 ?_
 refine q44 ?_
 have ⟨b5,hb5,h⟩:=bE h
 refine yH ((zC (lq rfl) rfl).bool (oi hb5)) ?_
 refine q13 (.d (di a0)) ?_
 refine q55 (.d (db (decide (a0≤1114111)))) ?_
 refine Q41 ?_
 cases h
 refine zB ?_
 exact zH rfl
theorem zFS {a0 r} (h:zBU a0=some r):zF Tryz.prog 117 [(di a0)] [(db r)]:=by
 refine co Tryz.func117 ?_;intro _ _ _ _
 unfold zBU at h
 refine Q59 ?_
 refine q44 ?_
 have ⟨b5,hb5,h⟩:=bE h
 refine yH ((zC (lq rfl) rfl).bool (oi hb5)) ?_
 refine q13 (.d (di a0)) ?_
 refine q55 (.d (db (decide (a0≤65535)))) ?_
 refine Q41 ?_
 cases h
 refine zB ?_
 exact zH rfl
theorem zQA {a0 r} (h:zD5 a0=some r):zF Tryz.prog 89 [(eElement.dv a0)] [(di r)]:=by
 refine co Tryz.func89 ?_;intro _ _ _ _
 unfold zD5 at h
 refine yEX ?_
 refine Q53 ?_
 refine Q85 ?_
 have ⟨t5,ht5,h⟩:=bE h
 refine q8 (zFS ht5) ?_
 refine q32 ?_
 have ⟨b7,hb7,h⟩:=bE h
 refine yH ((zC (lq rfl) rfl).bool (oi hb7)) ?_
 refine q25 (.ip (eElement.cells a0) (0+1)) zRK ?_
 refine q26 (.d (di a0.Secondary)) O3 ?_
 have ⟨t10,ht10,h⟩:=bE h
 refine sqf (.d (db t10)) rfl (fun hb=>by subst hb;exact xV (lq rfl) rfl (zFS ht10)) ?_
 refine z1J (.d (db (!t10))) ?_
 refine q18 ?_
 have ⟨b13,hb13,h⟩:=bE h
 refine yH ((zC (lq rfl) rfl).bool (oi hb13)) ?_
 refine q25 (.ip (eElement.cells a0) (0+2)) zRL ?_
 refine q26 (.d (di a0.Tertiary)) O3 ?_
 have ⟨t16,ht16,h⟩:=bE h
 refine sqf (.d (db t16)) rfl (fun hb=>by subst hb;exact xV (lq rfl) rfl (zFS ht16)) ?_
 refine z1J (.d (db (!t16))) ?_
 refine Q37 ?_
 refine yB h (fun h=>?_) (fun h=>?_)
 refine Q3 ?_
 cases h
 refine zB ?_
 exact zH rfl
 refine Q71 ?_
 refine Q85 ?_
 refine q29 ?_
 have ⟨b22,hb22,h⟩:=bE h
 refine yH ((zC (lq rfl) rfl).bool (oi hb22)) ?_
 refine q54 (.ip (eElement.cells a0) (0+1)) zRK ?_
 refine q62 (.d (di a0.Secondary)) O3 ?_
 refine q79 (.d (db (decide (a0.Secondary=0)))) ?_
 have ⟨b26,hb26,h⟩:=bE h
 refine sqt (.d (db b26)) rfl (fun hb=>by subst hb;exact (zC (lq rfl) rfl).bool (oi hb26)) ?_
 refine jR (x:= .ip (eElement.cells a0) (0+2)) rfl rfl rfl (lq rfl) (lq rfl) rfl (fun hb=>by obtain ⟨hb,hb1⟩:=zI hb;obtain rfl:b22=true:=hb;obtain rfl:=gF hb1;exact xM (lq rfl) zRL rfl) ?_
 refine jR (x:= .d (di a0.Tertiary)) rfl rfl rfl (lq rfl) (lq rfl) rfl (fun hb=>by obtain ⟨hb,hb1⟩:=zI hb;obtain rfl:b22=true:=hb;obtain rfl:=gF hb1;exact kD (lq rfl) O3 rfl rfl) ?_
 refine jR (x:= .d (db (decide (a0.Tertiary=0)))) rfl rfl rfl (lq rfl) (lq rfl) rfl (fun hb=>by obtain ⟨hb,hb1⟩:=zI hb;obtain rfl:b22=true:=hb;obtain rfl:=gF hb1;exact zGQ (lq rfl) rfl rfl) ?_
 refine z8F (.d (db (b26 ||(decide (a0.Tertiary=0))))) ?_
 refine q14 ?_
 have ⟨b32,hb32,h⟩:=bE h
 refine yH ((zC (lq rfl) rfl).bool (oi hb32)) ?_
 refine q25 (.ip (eElement.cells a0) (0+1)) zRK ?_
 refine q26 (.d (di a0.Secondary)) O3 ?_
 refine sqf (.d (db (!decide (a0.Secondary=0)))) rfl (fun hb=>by subst hb;exact zMQ (lq rfl) rfl rfl) ?_
 have ⟨b36,hb36,h⟩:=bE h
 refine sqf (.d (db b36)) rfl (fun hb=>by subst hb;exact (zC (lq rfl) rfl).bool (oi hb36)) ?_
 refine jR (x:= .ip (eElement.cells a0) (0+2)) rfl rfl rfl (lq rfl) (lq rfl) rfl (fun hb=>by obtain ⟨hb,hb1⟩:=zI hb;obtain rfl:=gF hb;obtain rfl:b36=true:=hb1;exact xM (lq rfl) zRL rfl) ?_
 refine jR (x:= .d (di a0.Tertiary)) rfl rfl rfl (lq rfl) (lq rfl) rfl (fun hb=>by obtain ⟨hb,hb1⟩:=zI hb;obtain rfl:=gF hb;obtain rfl:b36=true:=hb1;exact kD (lq rfl) O3 rfl rfl) ?_
 refine jR (x:= .d (db (decide (a0.Tertiary=0)))) rfl rfl rfl (lq rfl) (lq rfl) rfl (fun hb=>by obtain ⟨hb,hb1⟩:=zI hb;obtain rfl:=gF hb;obtain rfl:b36=true:=hb1;exact zGQ (lq rfl) rfl rfl) ?_
 refine q86 (.d (db (b36&&(decide (a0.Tertiary=0))))) ?_
 refine q18 ?_
 have ⟨b42,hb42,h⟩:=bE h
 refine yH ((zC (lq rfl) rfl).bool (oi hb42)) ?_
 refine q25 (.ip (eElement.cells a0) (0+3)) yAB ?_
 refine q26 (.d (db a0.Variable)) O4 ?_
 have ⟨b45,hb45,h⟩:=bE h
 refine sqf (.d (db b45)) rfl (fun hb=>by subst hb;exact (zC (lq rfl) rfl).bool (oi hb45)) ?_
 refine jR (x:= .ip (eElement.cells a0) (0+0)) rfl rfl rfl (lq rfl) (lq rfl) rfl (fun hb=>by obtain ⟨hb,hb1⟩:=zI hb;obtain rfl:=gF hb;obtain rfl:b45=true:=hb1;exact xM (lq rfl) zY4 rfl) ?_
 refine jR (x:= .d (di a0.Primary)) rfl rfl rfl (lq rfl) (lq rfl) rfl (fun hb=>by obtain ⟨hb,hb1⟩:=zI hb;obtain rfl:=gF hb;obtain rfl:b45=true:=hb1;exact kD (lq rfl) O3 rfl rfl) ?_
 refine jR (x:= .d (db (decide (a0.Primary=0)))) rfl rfl rfl (lq rfl) (lq rfl) rfl (fun hb=>by obtain ⟨hb,hb1⟩:=zI hb;obtain rfl:=gF hb;obtain rfl:b45=true:=hb1;exact zGQ (lq rfl) rfl rfl) ?_
 refine q86 (.d (db (b45&&(decide (a0.Primary=0))))) ?_
 refine Q37 ?_
 refine yB h (fun h=>?_) (fun h=>?_)
 refine Q3 ?_
 cases h
 refine zB ?_
 exact zH rfl
 refine Q58 ?_
 cases h
 refine zB ?_
 exact zH rfl
theorem zQB {a0 a1 r} (h:zD6 a0 a1=some r):zF Tryz.prog 60 [(eCollation.dv a0),(di a1)] [(di r)]:=by
 refine co Tryz.func60 ?_;intro _ _ _ _
 unfold zD6 at h
 refine Q84 ?_
 refine Q39 ?_
 refine Q70 ?_
 refine q0 ?_
 have ⟨t13,ht13,h⟩:=bE h
 refine q11 S29 ht13 ?_
 refine yH (xH (en:=eEntry) (l:=a0.Entries) (i:=a1) (v:=t13) (off:=0) (lq rfl) G41 rfl ht13 rfl rfl (by decide)) ?_
 refine kP rfl (kX (zs:=[(.slice none 0 0),(.slice none 0 0)]) (lq rfl) (by kernel_rfl) rfl rfl) ?_
 refine q16 G41 ?_
 refine zL ?_
 refine zV (zY (t:=5) (lq rfl) rfl rfl rfl) ?_
 refine Q31 ?_
 refine q5 zFP ?_
 refine q6 O33 ?_
 refine q4 yU ?_
 refine q3 ?_
 have ⟨b19,hb19,h⟩:=bE h
 refine yH ((zC (lq rfl) rfl).bool (oi hb19)) ?_
 refine q25 (.ip (eEntry.cells t13) (0+0)) zFP ?_
 refine q26 (.d (zW eI t13.Codes)) O33 ?_
 refine q64 (.d (di (t13.Codes.length:Int))) yU ?_
 refine q43 (.d (db (decide (8 < (t13.Codes.length:Int))))) ?_
 refine q18 ?_
 have ⟨b25,hb25,h⟩:=bE h
 refine yH ((zC (lq rfl) rfl).bool (oi hb25)) ?_
 refine q25 (.ip (eEntry.cells t13) (0+1)) zJO ?_
 refine q26 (.d (zW eElement t13.Elements)) O39 ?_
 refine q64 (.d (di (t13.Elements.length:Int))) S39 ?_
 refine q43 (.d (db (decide (16 < (t13.Elements.length:Int))))) ?_
 refine Q37 ?_
 refine yB h (fun h=>?_) (fun h=>?_)
 refine Q3 ?_
 cases h
 refine zB ?_
 exact zH rfl
 refine Q93 ?_
 have ⟨y1,hy1,h⟩:=bE h
 refine zK y1 (.exit 0) (fun y1=>⟨[(1,.d (di a1)),(2,.d (.pt (eCollation.cells a0))),(5,.d (.pt (eEntry.cells t13)))],[]⟩) .ret (fun y1=>⟨[(4,.d (di y1))],[]⟩) ?_ ?_ ?_
 refine zD (fun x=>⟨[(1,.d (di a1)),(2,.d (.pt (eCollation.cells a0))),(5,.d (.pt (eEntry.cells t13))),(6,.d (di x))],[]⟩) hy1 (wc) ?_
 rintro v6 sy1 p1
 replace p1:zC0 t13 v6=some sy1:=p1
 unfold zC0 at p1
 refine Q4 ?_
 refine q5 zFP ?_
 refine q6 O33 ?_
 refine Q83 ?_
 refine yB p1 (fun p1=>?_) (fun p1=>?_)
 refine Q29 ?_
 refine q5 zFP ?_
 refine q6 O33 ?_
 refine q0 ?_
 have ⟨t41,ht41,p1⟩:=bE p1
 refine q11 yU ht41 ?_
 refine q35 O3 ht41 ?_
 have ⟨t43,ht43,p1⟩:=bE p1
 refine q8 (uY ht43) ?_
 refine Q42 ?_
 refine yB p1 (fun p1=>?_) (fun p1=>?_)
 refine Q17 ?_
 cases p1
 intro q;cases q
 exact ⟨rfl,wc⟩
 refine Q28 ?_
 cases p1
 exact wc
 refine zG ?_
 cases p1
 intro q;cases q
 exact ⟨rfl,wc⟩
 rintro y1 rfl
 replace h:=eL h
 refine Q32 ?_
 have ⟨y2,hy2,h⟩:=bE h
 refine zK y2 (.exit 2) (fun y2=>⟨[(1,.d (di a1)),(2,.d (.pt (eCollation.cells a0))),(5,.d (.pt (eEntry.cells t13)))],[]⟩) .ret (fun y2=>⟨[(4,.d (di y2))],[]⟩) ?_ ?_ ?_
 refine zD (fun x=>⟨[(1,.d (di a1)),(2,.d (.pt (eCollation.cells a0))),(5,.d (.pt (eEntry.cells t13))),(7,.d (di x))],[]⟩) hy2 (wc) ?_
 rintro v7 sy2 p2
 replace p2:zAE t13 v7=some sy2:=p2
 unfold zAE at p2
 refine Q4 ?_
 refine q5 zJO ?_
 refine q6 O39 ?_
 refine q4 S39 ?_
 refine Q6 ?_
 refine yB p2 (fun p2=>?_) (fun p2=>?_)
 refine Q29 ?_
 refine q5 zJO ?_
 refine q6 O39 ?_
 refine q0 ?_
 have ⟨t55,ht55,p2⟩:=bE p2
 refine q11 S39 ht55 ?_
 refine yB2 G64 ht55 ?_
 have ⟨t57,ht57,p2⟩:=bE p2
 refine q8 (zQA ht57) ?_
 refine Q62 ?_
 refine yB p2 (fun p2=>?_) (fun p2=>?_)
 refine Q35 ?_
 refine zB ?_
 cases p2
 intro q;cases q
 exact ⟨rfl,wc⟩
 refine Q28 ?_
 cases p2
 exact wc
 refine zG ?_
 cases p2
 intro q;cases q
 exact ⟨rfl,wc⟩
 rintro y2 rfl
 replace h:=eL h
 refine Q32 ?_
 have ⟨y3,hy3,h⟩:=bE h
 refine zK y3 (.exit 4) (fun y3=>⟨[(1,.d (di a1)),(2,.d (.pt (eCollation.cells a0))),(5,.d (.pt (eEntry.cells t13)))],[]⟩) .ret (fun y3=>⟨[(4,.d (di y3))],[]⟩) ?_ ?_ ?_
 refine zD (fun x=>⟨[(1,.d (di a1)),(2,.d (.pt (eCollation.cells a0))),(5,.d (.pt (eEntry.cells t13))),(9,.d (di x))],[]⟩) hy3 (wc) ?_
 rintro v9 sy3 p3
 replace p3:zC1 t13 a0 v9=some sy3:=p3
 unfold zC1 at p3
 refine Q4 ?_
 refine q5 zJO ?_
 refine q6 O39 ?_
 refine q4 S39 ?_
 refine Q6 ?_
 refine yB p3 (fun p3=>?_) (fun p3=>?_)
 refine Q65 ?_
 refine z7 MX rfl ?_
 refine q19 zJO ?_
 refine q33 O39 ?_
 refine q7 ?_
 have ⟨t71,ht71,p3⟩:=bE p3
 refine q23 S39 ht71 ?_
 refine q52 zY4 ?_
 refine vB (zZ (en:=eElement) (l:=t13.Elements) (i:=v9) (v:=t71) (off:=0) (lq rfl) O3 rfl ht71 rfl) ?_
 refine q19 zK3 ?_
 refine q33 O3 ?_
 refine vB (zH6 (lq rfl) rfl rfl) ?_
 refine xQ ?_
 refine yB p3 (fun p3=>?_) (fun p3=>?_)
 refine Q17 ?_
 cases p3
 intro q;cases q
 exact ⟨rfl,wc⟩
 refine Q28 ?_
 cases p3
 exact wc
 refine zG ?_
 cases p3
 intro q;cases q
 exact ⟨rfl,wc⟩
 rintro y3 rfl
 replace h:=eL h
 refine kL<|kL ?_
 refine z7 MX rfl ?_
 refine q7 ?_
 refine zXS ?_
 have ⟨b79,hb79,h⟩:=bE h
 refine vB ((zC (lq rfl) rfl).bool (oi hb79)) ?_
 refine q97 (.ip (eCollation.cells a0) (0+0)) zU9 ?_
 refine q98 (.d (zW eEntry a0.Entries)) O29 ?_
 refine q59 (.d (di a1)) ?_
 refine z1N (.d (di (wi (a1 - 1)))) ?_
 have ⟨t84,ht84,h⟩:=bE h
 refine dat (.ip (eEntry.all a0.Entries) ((wi (a1 - 1)).toNat*eEntry.size)) rfl (fun hb=>by subst hb;exact kM (en:=eEntry) (lq rfl) S29 rfl rfl ht84) ?_
 refine q99 (.ip (eEntry.all a0.Entries) ((wi (a1 - 1)).toNat*eEntry.size+0)) zFP ?_
 refine dat (.d (zW eI t84.Codes)) rfl (fun hb=>by subst hb;exact zZ (en:=eEntry) (l:=a0.Entries) (i:=(wi (a1 - 1))) (v:=t84) (off:=0) (lq rfl) O33 rfl ht84 rfl) ?_
 refine q97 (.ip (eEntry.cells t13) (0+0)) zFP ?_
 refine q98 (.d (zW eI t13.Codes)) O33 ?_
 have ⟨t89,ht89,h⟩:=bE h
 refine dat (.d (di t89)) rfl (fun hb=>by subst hb;exact xV (lq rfl) rfl (zHT ht89)) ?_
 refine dat (.d (db (decide (0≤t89)))) rfl (fun hb=>by subst hb;exact zH6 (lq rfl) rfl rfl) ?_
 refine Q98 ?_
 refine yB h (fun h=>?_) (fun h=>?_)
 refine Q3 ?_
 cases h
 refine zB ?_
 exact zH rfl
 refine Q58 ?_
 cases h
 refine zB ?_
 exact zH rfl
 rintro y3 rfl
 replace h:=eR h
 cases h
 exact zH rfl
 rintro y2 rfl
 replace h:=eR h
 cases h
 exact zH rfl
 rintro y1 rfl
 replace h:=eR h
 cases h
 exact zH rfl
theorem zQC {a0 r} (h:zD7 a0=some r):zF Tryz.prog 26 [(eCollation.dv a0)] [(di r)]:=by
 refine co Tryz.func26 ?_;intro _ _ _ _
 unfold zD7 at h
 refine Q84 ?_
 refine Q53 ?_
 refine q5 zK3 ?_
 refine z8U ?_
 have ⟨b9,hb9,h⟩:=bE h
 refine yH ((zC (lq rfl) rfl).bool (oi hb9)) ?_
 refine q25 (.ip (eCollation.cells a0) (0+2)) zK3 ?_
 refine q26 (.d (di a0.Base)) O3 ?_
 refine q43 (.d (db (decide (65502 < a0.Base)))) ?_
 refine q18 ?_
 have ⟨b14,hb14,h⟩:=bE h
 refine yH ((zC (lq rfl) rfl).bool (oi hb14)) ?_
 refine q25 (.ip (eCollation.cells a0) (0+3)) z4Q ?_
 refine q26 (.d (di a0.Second)) O3 ?_
 have ⟨t17,ht17,h⟩:=bE h
 refine sqf (.d (db t17)) rfl (fun hb=>by subst hb;exact xV (lq rfl) rfl (zIL ht17)) ?_
 refine z1J (.d (db (!t17))) ?_
 refine q18 ?_
 have ⟨b20,hb20,h⟩:=bE h
 refine yH ((zC (lq rfl) rfl).bool (oi hb20)) ?_
 refine q25 (.ip (eCollation.cells a0) (0+4)) z4R ?_
 refine q26 (.d (di a0.Third)) O3 ?_
 have ⟨t23,ht23,h⟩:=bE h
 refine sqf (.d (db t23)) rfl (fun hb=>by subst hb;exact xV (lq rfl) rfl (zIL ht23)) ?_
 refine z1J (.d (db (!t23))) ?_
 refine Q37 ?_
 refine yB h (fun h=>?_) (fun h=>?_)
 refine Q3 ?_
 cases h
 refine zB ?_
 exact zH rfl
 refine Q71 ?_
 refine q21 G32 ?_
 have ⟨t27,ht27,h⟩:=bE h
 refine q8 (zO2 ht27) ?_
 refine Q62 ?_
 refine yB h (fun h=>?_) (fun h=>?_)
 refine Q35 ?_
 cases h
 refine zB ?_
 exact zH rfl
 refine Q93 ?_
 have ⟨y1,hy1,h⟩:=bE h
 refine zK y1 (.exit 0) (fun y1=>⟨[],[]⟩) .ret (fun y1=>⟨[(2,.d (di y1))],[]⟩) ?_ ?_ ?_
 refine zD (fun x=>⟨[(1,.d (.pt (eCollation.cells a0))),(4,.d (di x))],[]⟩) hy1 (wc) ?_
 rintro v4 sy1 p1
 replace p1:zAF a0 v4=some sy1:=p1
 unfold zAF at p1
 refine Q4 ?_
 refine z5E ?_
 refine Q6 ?_
 refine yB p1 (fun p1=>?_) (fun p1=>?_)
 refine Q29 ?_
 refine q21 G32 ?_
 refine q0 ?_
 have ⟨t40,ht40,p1⟩:=bE p1
 refine q8 (zQB ht40) ?_
 refine Q62 ?_
 refine yB p1 (fun p1=>?_) (fun p1=>?_)
 refine Q35 ?_
 refine zB ?_
 cases p1
 intro q;cases q
 exact ⟨rfl,wc⟩
 refine Q28 ?_
 cases p1
 exact wc
 refine zG ?_
 cases p1
 intro q;cases q
 exact ⟨rfl,wc⟩
 rintro y1 rfl
 replace h:=eL h
 refine Q3 ?_
 cases h
 refine zB ?_
 exact zH rfl
 rintro y1 rfl
 replace h:=eR h
 cases h
 exact zH rfl
theorem zSP {a0 r} (h:zFK a0=some r):zF Tryz.prog 8 [(eCollation.dv a0)] [(eCollation.dv r)]:=by
 refine co Tryz.func8 ?_;intro _ _ _ _
 unfold zFK at h
 refine Q84 ?_
 refine yB6 ?_
 refine z15 ?_
 refine q21 G32 ?_
 have ⟨t4,ht4,h⟩:=bE h
 refine q8 (zQC ht4) ?_
 refine Q33 ?_
 refine yB h (fun h=>?_) (fun h=>?_)
 refine Q0 ?_
 refine yH ((zCW (lq rfl) B32 rfl rfl).nils (bs:=eCollation.cells ({Entries:=[],Groups:=[],Base:=64448,Second:=32,Third:=2}:Collation)) (nlN (nlN (nlE (nlE (nlE nl0)))))) ?_
 refine q16 G32 ?_
 refine zL ?_
 cases h
 refine zB ?_
 exact vH rfl rfl G32 rfl
 refine Q50 ?_
 refine q21 G32 ?_
 refine q16 G32 ?_
 refine zL ?_
 cases h
 refine zB ?_
 exact vH rfl rfl G32 rfl
theorem zFT {a0 r} (h:wC a0=some r):zF Tryz.prog 28 [(eNorm.dv a0)] [(eNorm.dv r)]:=by
 refine co Tryz.func28 ?_;intro _ _ _ _
 unfold wC at h
 refine Q40 ?_
 refine yB5 ?_
 refine z15 ?_
 refine q21 G28 ?_
 have ⟨t4,ht4,h⟩:=bE h
 refine q8 (zGH ht4) ?_
 refine Q33 ?_
 refine yB h (fun h=>?_) (fun h=>?_)
 refine Q0 ?_
 refine yH ((zCW (lq rfl) B28 rfl rfl).nils (bs:=eNorm.cells ({Classes:=[],Decomp:=[],Excluded:=(({Ranges:=[]}):Set)}:Norm)) (nlN (nlN (nlN nl0)))) ?_
 refine q16 G28 ?_
 refine zL ?_
 cases h
 refine zB ?_
 exact vH rfl rfl G28 rfl
 refine Q50 ?_
 refine q21 G28 ?_
 refine q16 G28 ?_
 refine zL ?_
 cases h
 refine zB ?_
 exact vH rfl rfl G28 rfl
end Go.Proofs.YtjcbhabmkcdcnaaGreatDoor.Walk


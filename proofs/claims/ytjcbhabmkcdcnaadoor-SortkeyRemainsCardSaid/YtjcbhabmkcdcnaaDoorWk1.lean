/- Each function of the program answers as its plain counterpart does, where that answers. Conditions: none. -/
import Derived.Test.YtjcbhabmkcdcnaaDoorMir
import Derived.Test.YtjcbhabmkcdcnaaDoorLa3
import Derived.Test.YtjcbhabmkcdcnaaDoorProg
set_option linter.unusedSimpArgs false
set_option linter.unusedVariables false
set_option linter.unnecessarySimpa false
namespace Go.Proofs.YtjcbhabmkcdcnaaDoor.Walk
open Go.AV Go.M Go.RowKit Go.Proofs
theorem z9P:ArTy Tryd.prog 136 4 2 113 [(.int IntKind.i64 (0)),(.int IntKind.i64 (0)),(.int IntKind.i64 (0)),(.int IntKind.i64 (0)),(.int IntKind.i64 (0)),(.int IntKind.i64 (0)),(.int IntKind.i64 (0)),(.int IntKind.i64 (0))]:=ArTy.of Tryd.underlying136 (by kernel_rfl) (by decide) (by kernel_rfl) rfl
theorem zIP:ArTy Tryd.prog 145 3 1 3 [(.int IntKind.i64 (0)),(.int IntKind.i64 (0)),(.int IntKind.i64 (0))]:=ArTy.of Tryd.underlying145 (by kernel_rfl) (by decide) (by kernel_rfl) rfl
theorem A61:ArTy Tryd.prog 61 4 1 32 [(.slice none 0 0),(.slice none 0 0),(.slice none 0 0),(.slice none 0 0)]:=ArTy.of Tryd.underlying61 (by kernel_rfl) (by decide) (by kernel_rfl) rfl
theorem A64:ArTy Tryd.prog 64 4 1 3 [(.int IntKind.i64 (0)),(.int IntKind.i64 (0)),(.int IntKind.i64 (0)),(.int IntKind.i64 (0))]:=ArTy.of Tryd.underlying64 (by kernel_rfl) (by decide) (by kernel_rfl) rfl
theorem A95:ArTy Tryd.prog 95 9 1 3 [(.int IntKind.i64 (0)),(.int IntKind.i64 (0)),(.int IntKind.i64 (0)),(.int IntKind.i64 (0)),(.int IntKind.i64 (0)),(.int IntKind.i64 (0)),(.int IntKind.i64 (0)),(.int IntKind.i64 (0)),(.int IntKind.i64 (0))]:=ArTy.of Tryd.underlying95 (by kernel_rfl) (by decide) (by kernel_rfl) rfl
theorem z47:StTy Tryd.prog 113 [(0,1),(1,1)] [(.int IntKind.i64 (0)),(.int IntKind.i64 (0))]:=fx Tryd.underlying113
theorem z9Q:StTy Tryd.prog 140 [(0,1),(1,1)] [(.int IntKind.i64 (0)),(.string ⟨#[]⟩)]:=fx Tryd.underlying140
theorem B24:StTy Tryd.prog 24 [(0,1),(1,1),(2,1),(3,1)] [(.int IntKind.i64 (0)),(.int IntKind.i64 (0)),(.bool false),(.bool false)]:=fx Tryd.underlying24
theorem B37:StTy Tryd.prog 37 [(0,1),(1,1),(2,1),(3,1)] [(.int IntKind.i64 (0)),(.int IntKind.i64 (0)),(.int IntKind.i64 (0)),(.bool false)]:=fx Tryd.underlying37
theorem B43:StTy Tryd.prog 43 [(0,1)] [(.slice none 0 0)]:=fx Tryd.underlying43
theorem B45:StTy Tryd.prog 45 [(0,1),(1,1),(2,1)] [(.slice none 0 0),(.slice none 0 0),(.slice none 0 0)]:=fx Tryd.underlying45
theorem B49:StTy Tryd.prog 49 [(0,1),(1,1),(2,1),(3,1),(4,1)] [(.slice none 0 0),(.slice none 0 0),(.int IntKind.i64 (0)),(.int IntKind.i64 (0)),(.int IntKind.i64 (0))]:=fx Tryd.underlying49
theorem B58:StTy Tryd.prog 58 [(0,1),(1,1)] [(.slice none 0 0),(.slice none 0 0)]:=fx Tryd.underlying58
theorem B93:StTy Tryd.prog 93 [(0,5),(5,1),(6,1),(7,1),(8,1)] [(.slice none 0 0),(.slice none 0 0),(.int IntKind.i64 (0)),(.int IntKind.i64 (0)),(.int IntKind.i64 (0)),(.map none),(.int IntKind.i64 (0)),(.slice none 0 0),(.int IntKind.i64 (0))]:=fx Tryd.underlying93
theorem u5:AggTy Tryd.prog 113 2:=fx Tryd.underlying113
theorem z9R:AggTy Tryd.prog 136 8:=fx Tryd.underlying136
theorem z7Y:AggTy Tryd.prog 140 2:=fx Tryd.underlying140
theorem zP9:AggTy Tryd.prog 145 3:=fx Tryd.underlying145
theorem G24:AggTy Tryd.prog 24 4:=fx Tryd.underlying24
theorem G37:AggTy Tryd.prog 37 4:=fx Tryd.underlying37
theorem G43:AggTy Tryd.prog 43 1:=fx Tryd.underlying43
theorem G45:AggTy Tryd.prog 45 3:=fx Tryd.underlying45
theorem G49:AggTy Tryd.prog 49 5:=fx Tryd.underlying49
theorem G51:AggTy Tryd.prog 51 12:=fx Tryd.underlying51
theorem G58:AggTy Tryd.prog 58 2:=fx Tryd.underlying58
theorem G64:AggTy Tryd.prog 64 4:=fx Tryd.underlying64
theorem G77:AggTy Tryd.prog 77 3:=fx Tryd.underlying77
theorem G80:AggTy Tryd.prog 80 3:=fx Tryd.underlying80
theorem G95:AggTy Tryd.prog 95 9:=fx Tryd.underlying95
theorem G99:AggTy Tryd.prog 99 3:=fx Tryd.underlying99
theorem K3:KeyTy Tryd.prog 3 kI:=z4W Tryd.underlying3
theorem K9:KeyTy Tryd.prog 9 kS:=z4X Tryd.underlying9
theorem zG8:FldTy Tryd.prog 113 0 0 1 3:=fx Tryd.underlying113
theorem zDS:FldTy Tryd.prog 113 1 1 1 3:=fx Tryd.underlying113
theorem zTA:FldTy Tryd.prog 24 0 0 1 3:=fx Tryd.underlying24
theorem zTB:FldTy Tryd.prog 24 1 1 1 3:=fx Tryd.underlying24
theorem z70:FldTy Tryd.prog 24 2 2 1 4:=fx Tryd.underlying24
theorem z3I:FldTy Tryd.prog 24 3 3 1 4:=fx Tryd.underlying24
theorem z3J:FldTy Tryd.prog 37 0 0 1 3:=fx Tryd.underlying37
theorem zTC:FldTy Tryd.prog 37 1 1 1 3:=fx Tryd.underlying37
theorem zTD:FldTy Tryd.prog 37 2 2 1 3:=fx Tryd.underlying37
theorem z3K:FldTy Tryd.prog 37 3 3 1 4:=fx Tryd.underlying37
theorem zM5:FldTy Tryd.prog 43 0 0 1 41:=fx Tryd.underlying43
theorem zM6:FldTy Tryd.prog 45 0 0 1 39:=fx Tryd.underlying45
theorem zM7:FldTy Tryd.prog 45 1 1 1 40:=fx Tryd.underlying45
theorem z3L:FldTy Tryd.prog 45 2 2 1 43:=fx Tryd.underlying45
theorem zKY:FldTy Tryd.prog 49 0 0 1 46:=fx Tryd.underlying49
theorem zJF:FldTy Tryd.prog 49 1 1 1 47:=fx Tryd.underlying49
theorem zQA:FldTy Tryd.prog 49 2 2 1 3:=fx Tryd.underlying49
theorem z3M:FldTy Tryd.prog 49 3 3 1 3:=fx Tryd.underlying49
theorem z3N:FldTy Tryd.prog 49 4 4 1 3:=fx Tryd.underlying49
theorem zQB:FldTy Tryd.prog 51 0 0 3 45:=fx Tryd.underlying51
theorem zQC:FldTy Tryd.prog 51 1 3 5 49:=fx Tryd.underlying51
theorem zM8:FldTy Tryd.prog 51 2 8 4 24:=fx Tryd.underlying51
theorem zX4:FldTy Tryd.prog 53 0 0 1 32:=fx Tryd.underlying53
theorem zX5:FldTy Tryd.prog 53 1 1 1 32:=fx Tryd.underlying53
theorem zTE:FldTy Tryd.prog 53 2 2 1 3:=fx Tryd.underlying53
theorem zTF:FldTy Tryd.prog 53 3 3 1 3:=fx Tryd.underlying53
theorem zJG:FldTy Tryd.prog 58 0 0 1 32:=fx Tryd.underlying58
theorem zQD:FldTy Tryd.prog 58 1 1 1 22:=fx Tryd.underlying58
theorem zGV:FldTy Tryd.prog 77 0 0 1 3:=fx Tryd.underlying77
theorem zM9:FldTy Tryd.prog 77 1 1 1 32:=fx Tryd.underlying77
theorem zHY:FldTy Tryd.prog 77 2 2 1 9:=fx Tryd.underlying77
theorem zTG:FldTy Tryd.prog 80 0 0 1 9:=fx Tryd.underlying80
theorem zX6:FldTy Tryd.prog 80 1 1 1 3:=fx Tryd.underlying80
theorem zX7:FldTy Tryd.prog 80 2 2 1 3:=fx Tryd.underlying80
theorem zX8:FldTy Tryd.prog 93 0 0 5 49:=fx Tryd.underlying93
theorem z3O:FldTy Tryd.prog 93 1 5 1 91:=fx Tryd.underlying93
theorem zTH:FldTy Tryd.prog 93 2 6 1 3:=fx Tryd.underlying93
theorem zKZ:FldTy Tryd.prog 93 3 7 1 39:=fx Tryd.underlying93
theorem zX9:FldTy Tryd.prog 93 4 8 1 3:=fx Tryd.underlying93
theorem zK0:FldTy Tryd.prog 99 0 0 1 3:=fx Tryd.underlying99
theorem zK1:FldTy Tryd.prog 99 1 1 1 3:=fx Tryd.underlying99
theorem zK2:FldTy Tryd.prog 99 2 2 1 3:=fx Tryd.underlying99
theorem z71:MapTy Tryd.prog 104 3 32 (.slice none 0 0):=MapTy.of Tryd.underlying104 (by kernel_rfl)
theorem z72:MapTy Tryd.prog 134 9 4 (.bool false):=MapTy.of Tryd.underlying134 (by kernel_rfl)
theorem z73:MapTy Tryd.prog 138 140 4 (.bool false):=MapTy.of Tryd.underlying138 (by kernel_rfl)
theorem z48:MapTy Tryd.prog 144 3 3 (.int IntKind.i64 (0)):=MapTy.of Tryd.underlying144 (by kernel_rfl)
theorem M91:MapTy Tryd.prog 91 95 22 (.slice none 0 0):=MapTy.of Tryd.underlying91 (by kernel_rfl)
theorem z49:OneTy Tryd.prog 103:=fx Tryd.underlying103
theorem z5A:OneTy Tryd.prog 104:=fx Tryd.underlying104
theorem z1F:OneTy Tryd.prog 144:=fx Tryd.underlying144
theorem O22:OneTy Tryd.prog 22:=fx Tryd.underlying22
theorem O3:OneTy Tryd.prog 3:=fx Tryd.underlying3
theorem O32:OneTy Tryd.prog 32:=fx Tryd.underlying32
theorem O39:OneTy Tryd.prog 39:=fx Tryd.underlying39
theorem O4:OneTy Tryd.prog 4:=fx Tryd.underlying4
theorem O40:OneTy Tryd.prog 40:=fx Tryd.underlying40
theorem O41:OneTy Tryd.prog 41:=fx Tryd.underlying41
theorem O46:OneTy Tryd.prog 46:=fx Tryd.underlying46
theorem O47:OneTy Tryd.prog 47:=fx Tryd.underlying47
theorem O81:OneTy Tryd.prog 81:=fx Tryd.underlying81
theorem O87:OneTy Tryd.prog 87:=fx Tryd.underlying87
theorem O9:OneTy Tryd.prog 9:=fx Tryd.underlying9
theorem O91:OneTy Tryd.prog 91:=fx Tryd.underlying91
theorem S22:SlTy Tryd.prog 22 37 4 32 (.agg #[(.int IntKind.i64 (0)),(.int IntKind.i64 (0)),(.int IntKind.i64 (0)),(.bool false)]):=fx Tryd.underlying22
theorem S29:SlTy Tryd.prog 29 32 1 24 (.slice none 0 0):=fx Tryd.underlying29
theorem yX:SlTy Tryd.prog 32 3 1 8 (.int IntKind.i64 (0)):=fx Tryd.underlying32
theorem S39:SlTy Tryd.prog 39 99 3 24 (.agg #[(.int IntKind.i64 (0)),(.int IntKind.i64 (0)),(.int IntKind.i64 (0))]):=fx Tryd.underlying39
theorem S40:SlTy Tryd.prog 40 77 3 48 (.agg #[(.int IntKind.i64 (0)),(.slice none 0 0),(.string ⟨#[]⟩)]):=fx Tryd.underlying40
theorem S41:SlTy Tryd.prog 41 113 2 16 (.agg #[(.int IntKind.i64 (0)),(.int IntKind.i64 (0))]):=fx Tryd.underlying41
theorem S46:SlTy Tryd.prog 46 58 2 48 (.agg #[(.slice none 0 0),(.slice none 0 0)]):=fx Tryd.underlying46
theorem S47:SlTy Tryd.prog 47 80 3 32 (.agg #[(.string ⟨#[]⟩),(.int IntKind.i64 (0)),(.int IntKind.i64 (0))]):=fx Tryd.underlying47
theorem S68:SlTy Tryd.prog 68 5 1 1 (.int IntKind.u8 (0)):=fx Tryd.underlying68
theorem Z0:vV Tryd.prog 0=some [.int .i64 4352,.int .i64 4370,.int .i64 4449,.int .i64 4469,.int .i64 4520,.int .i64 4546,.int .i64 44032,.int .i64 55203]:=by kernel_rfl
set_option maxRecDepth 10000 in
theorem z9T:EqTy Tryd.prog 113 eRange:=EqTy.of (vals:=fun (x:Range)=>[.int IntKind.i64 x.Lo,.int IntKind.i64 x.Hi]) (cs:=fun (a b:Range)=>[decide (a.Lo=b.Lo),decide (a.Hi=b.Hi)]) Tryd.underlying113 (by kernel_rfl) (by kernel_rfl) (fun _=>rfl) (fun a b w=>(zNY (d:=9998) rfl O3 (zNY (d:=9998) rfl O3 zSY Tryd.underlying3 rfl rfl) Tryd.underlying3 rfl rfl)) (fun a b=>by cases a;cases b;simp)
set_option maxRecDepth 10000 in
theorem z9U:EqTy Tryd.prog 140 eMapping_key:=EqTy.of (vals:=fun (x:Mapping_key)=>[.int IntKind.i64 x.from_,.string ⟨x.tag.toArray⟩]) (cs:=fun (a b:Mapping_key)=>[decide (a.from_=b.from_),decide (a.tag=b.tag)]) Tryd.underlying140 (by kernel_rfl) (by kernel_rfl) (fun _=>rfl) (fun a b w=>(zNY (d:=9998) rfl O3 (z02 (d:=9998) rfl O9 zSY Tryd.underlying9 rfl rfl) Tryd.underlying3 rfl rfl)) (fun a b=>by cases a;cases b;simp)
theorem z9V:EqTy Tryd.prog 145 eA3Int:=EqTy.ofA (vals:=fun (x:A3Int)=>[.int IntKind.i64 x.x0,.int IntKind.i64 x.x1,.int IntKind.i64 x.x2]) (cs:=fun (a b:A3Int)=>[decide (a.x0=b.x0),decide (a.x1=b.x1),decide (a.x2=b.x2)]) zIP O3 (by kernel_rfl) (fun _=>rfl) (fun a b w=>(Pw.cons ⟨_,_,rfl,rfl,Go.AV.run_equalIn_int Tryd.underlying3 _ _ _ _⟩ (Pw.cons ⟨_,_,rfl,rfl,Go.AV.run_equalIn_int Tryd.underlying3 _ _ _ _⟩ (Pw.cons ⟨_,_,rfl,rfl,Go.AV.run_equalIn_int Tryd.underlying3 _ _ _ _⟩ Pw.nil)))) (fun a b=>by cases a;cases b;simp)
theorem E64:EqTy Tryd.prog 64 eA4Int:=EqTy.ofA (vals:=fun (x:A4Int)=>[.int IntKind.i64 x.x0,.int IntKind.i64 x.x1,.int IntKind.i64 x.x2,.int IntKind.i64 x.x3]) (cs:=fun (a b:A4Int)=>[decide (a.x0=b.x0),decide (a.x1=b.x1),decide (a.x2=b.x2),decide (a.x3=b.x3)]) A64 O3 (by kernel_rfl) (fun _=>rfl) (fun a b w=>(Pw.cons ⟨_,_,rfl,rfl,Go.AV.run_equalIn_int Tryd.underlying3 _ _ _ _⟩ (Pw.cons ⟨_,_,rfl,rfl,Go.AV.run_equalIn_int Tryd.underlying3 _ _ _ _⟩ (Pw.cons ⟨_,_,rfl,rfl,Go.AV.run_equalIn_int Tryd.underlying3 _ _ _ _⟩ (Pw.cons ⟨_,_,rfl,rfl,Go.AV.run_equalIn_int Tryd.underlying3 _ _ _ _⟩ Pw.nil))))) (fun a b=>by cases a;cases b;simp)
theorem E95:EqTy Tryd.prog 95 eA9Int:=EqTy.ofA (vals:=fun (x:A9Int)=>[.int IntKind.i64 x.x0,.int IntKind.i64 x.x1,.int IntKind.i64 x.x2,.int IntKind.i64 x.x3,.int IntKind.i64 x.x4,.int IntKind.i64 x.x5,.int IntKind.i64 x.x6,.int IntKind.i64 x.x7,.int IntKind.i64 x.x8]) (cs:=fun (a b:A9Int)=>[decide (a.x0=b.x0),decide (a.x1=b.x1),decide (a.x2=b.x2),decide (a.x3=b.x3),decide (a.x4=b.x4),decide (a.x5=b.x5),decide (a.x6=b.x6),decide (a.x7=b.x7),decide (a.x8=b.x8)]) A95 O3 (by kernel_rfl) (fun _=>rfl) (fun a b w=>(Pw.cons ⟨_,_,rfl,rfl,Go.AV.run_equalIn_int Tryd.underlying3 _ _ _ _⟩ (Pw.cons ⟨_,_,rfl,rfl,Go.AV.run_equalIn_int Tryd.underlying3 _ _ _ _⟩ (Pw.cons ⟨_,_,rfl,rfl,Go.AV.run_equalIn_int Tryd.underlying3 _ _ _ _⟩ (Pw.cons ⟨_,_,rfl,rfl,Go.AV.run_equalIn_int Tryd.underlying3 _ _ _ _⟩ (Pw.cons ⟨_,_,rfl,rfl,Go.AV.run_equalIn_int Tryd.underlying3 _ _ _ _⟩ (Pw.cons ⟨_,_,rfl,rfl,Go.AV.run_equalIn_int Tryd.underlying3 _ _ _ _⟩ (Pw.cons ⟨_,_,rfl,rfl,Go.AV.run_equalIn_int Tryd.underlying3 _ _ _ _⟩ (Pw.cons ⟨_,_,rfl,rfl,Go.AV.run_equalIn_int Tryd.underlying3 _ _ _ _⟩ (Pw.cons ⟨_,_,rfl,rfl,Go.AV.run_equalIn_int Tryd.underlying3 _ _ _ _⟩ Pw.nil)))))))))) (fun a b=>by cases a;cases b;simp)
theorem z76:KeyTy Tryd.prog 140 zCK:=zXP (vals:=fun (x:Mapping_key)=>[.int IntKind.i64 x.from_,.string ⟨x.tag.toArray⟩]) Tryd.underlying140 z9U (fun _=>rfl) (fun _=>rfl) (fun _=>rfl) (fun _=>by simp [Instr.sameBits,zKS]) (fun a b w=>zR3 Tryd.underlying140 (List.forall_mem_cons.2 ⟨⟨O3,⟨_,Tryd.underlying3,rfl⟩,lq rfl⟩,(List.forall_mem_cons.2 ⟨⟨O9,⟨_,Tryd.underlying9,rfl⟩,lq rfl⟩,(fun _ h=>by cases h)⟩)⟩) b w)
theorem K95:KeyTy Tryd.prog 95 zBR:=zXP (vals:=fun (x:A9Int)=>[.int IntKind.i64 x.x0,.int IntKind.i64 x.x1,.int IntKind.i64 x.x2,.int IntKind.i64 x.x3,.int IntKind.i64 x.x4,.int IntKind.i64 x.x5,.int IntKind.i64 x.x6,.int IntKind.i64 x.x7,.int IntKind.i64 x.x8]) Tryd.underlying95 E95 (fun _=>rfl) (fun _=>rfl) (fun _=>rfl) (fun _=>by simp [Instr.sameBits,zKS]) (fun a b w=>zVO A95 O3 Tryd.underlying3 rfl rfl b w)
theorem MX:Tryd.prog.follows .mixedOrders=true:=by kernel_rfl
section
variable {P:Program} {r:Option Nat} {E:Env} {S S':AState} {ops:Array Oper} {o:Oper} {rest:List Oper} {J:AState→Prop} {d j t:Nat} {x:AV} {b:Bool} {G H I:Prop}
theorem q0 (k:H) (h:H→G:=by exact fun k=>yK (zC (lq rfl) rfl) k):G:=h k
theorem q1 (k:H) (h:H→G:=by exact fun k=>yK (zKN (lq rfl) rfl) k):G:=h k
theorem q2 (k:H) (h:H→G:=by exact fun k=>yK (zMC (lq rfl) rfl rfl) k):G:=h k
theorem q3 {F0:Prop} (f0:F0) (k:H) (h:F0→H→G:=by exact fun f0 k=>yK (zAG (lq rfl) f0 rfl rfl) k):G:=h f0 k
theorem q4 (k:H) (h:H→G:=by exact fun k=>yK (zPR (lq rfl) rfl rfl) k):G:=h k
theorem q5 {F0:Prop} (f0:F0) (k:H) (h:F0→H→G:=by exact fun f0 k=>yK (zA7 (lq rfl) f0 rfl) k):G:=h f0 k
theorem q6 {F0:Prop} (f0:F0) (k:H) (h:F0→H→G:=by exact fun f0 k=>yK (zMS (lq rfl) f0 rfl) k):G:=h f0 k
theorem q7 {F0:Prop} (f0:F0) (k:H) (h:F0→H→G:=by exact fun f0 k=>yK (uK (lq rfl) rfl f0) k):G:=h f0 k
theorem q8 (k:H) (h:H→G:=by exact fun k=>daa (zC (lq rfl) rfl) k):G:=h k
theorem q9 (k:H) (h:H→G:=by exact fun k=>yK (zG3 (lq rfl) rfl) k):G:=h k
theorem q10 {F0:Prop} (f0:F0) (k:H) (h:F0→H→G:=by exact fun f0 k=>xd rfl (zHV f0 rfl rfl rfl rfl rfl rfl) k):G:=h f0 k
theorem q11 {F0:Prop} (f0:F0) {F1:Prop} (f1:F1) (k:H) (h:F0→F1→H→G:=by exact fun f0 f1 k=>xc rfl (zB2 (lq rfl) f0 rfl rfl rfl f1) k):G:=h f0 f1 k
theorem q12 (k:H) (h:H→G:=by exact fun k=>yK (zMG (lq rfl) rfl rfl) k):G:=h k
theorem q13 {F0:Prop} (f0:F0) (k:H) (h:F0→H→G:=by exact fun f0 k=>kN rfl (zHV f0 rfl rfl rfl rfl rfl rfl) k):G:=h f0 k
theorem q14 {F0:Prop} (f0:F0) {F1:Prop} (f1:F1) (k:H) (h:F0→F1→H→G:=by exact fun f0 f1 k=>yK (zBV (lq rfl) f0 rfl rfl f1) k):G:=h f0 f1 k
theorem q15 {F0:Prop} (f0:F0) {F1:Prop} (f1:F1) {F2:Prop} (f2:F2) (k:H) (h:F0→F1→F2→H→G:=by exact fun f0 f1 f2 k=>xd rfl (zP4 f0 rfl rfl rfl f1 f2 rfl rfl rfl rfl) k):G:=h f0 f1 f2 k
theorem q16 (k:H) (h:H→G:=by exact fun k=>yK (zEG (lq rfl) rfl rfl) k):G:=h k
theorem q17 {F0:Prop} (f0:F0) (k:H) (h:F0→H→G:=by exact fun f0 k=>daa (zA7 (lq rfl) f0 rfl) k):G:=h f0 k
theorem q18 (x:AV) {F0:Prop} (f0:F0) (k:Sq P r E ops rest (S.put d (.cond (gd false b) x)) J) (ha:GdO o ops S E j t d b false:=by exact rfl) (h:F0→b=false→AOp P r E S o d x:=by exact fun f0 hb=>by subst hb;exact zA7 (lq rfl) f0 rfl):Sq P r E ops (o::rest) S J:=sqf x ha (h f0) k
theorem q19 (x:AV) {F0:Prop} (f0:F0) (k:Sq P r E ops rest (S.put d (.cond (gd false b) x)) J) (ha:GdO o ops S E j t d b false:=by exact rfl) (h:F0→b=false→AOp P r E S o d x:=by exact fun f0 hb=>by subst hb;exact zAG (lq rfl) f0 rfl rfl):Sq P r E ops (o::rest) S J:=sqf x ha (h f0) k
theorem q20 (x:AV) (k:Sq P r E ops rest (S.put d (.cond (gd true b) x)) J) (ha:GdO o ops S E j t d b true:=by exact rfl) (h:b=true→AOp P r E S o d x:=by exact fun hb=>by subst hb;exact zC (lq rfl) rfl):Sq P r E ops (o::rest) S J:=sqt x ha h k
theorem q21 (x:AV) (k:Sq P r E ops rest (S.put d (.cond (gd false b) x)) J) (ha:GdO o ops S E j t d b false:=by exact rfl) (h:b=false→AOp P r E S o d x:=by exact fun hb=>by subst hb;exact zC (lq rfl) rfl):Sq P r E ops (o::rest) S J:=sqf x ha h k
theorem q22 (k:H) (h:H→G:=by exact fun k=>yK (zNT (lq rfl) rfl) k):G:=h k
theorem q23 {F0:Prop} (f0:F0) {F1:Prop} (f1:F1) (k:H) (h:F0→F1→H→G:=by exact fun f0 f1 k=>xc rfl (zEQ (lq rfl) f0 rfl rfl f1 rfl) k):G:=h f0 f1 k
theorem q24 {F0:Prop} (f0:F0) (k:H) (h:F0→H→G:=by exact fun f0 k=>yK (uJ (lq rfl) f0 rfl rfl rfl) k):G:=h f0 k
theorem q25 {F0:Prop} (f0:F0) {F1:Prop} (f1:F1) (k:H) (h:F0→F1→H→G:=by exact fun f0 f1 k=>xc rfl (zB1 (lq rfl) f0 rfl rfl rfl f1) k):G:=h f0 f1 k
theorem q26 {F0:Prop} (f0:F0) (k:H) (h:F0→H→G:=by exact fun f0 k=>daa (uK (lq rfl) rfl f0) k):G:=h f0 k
theorem q27 {F0:Prop} (f0:F0) (k:H) (h:F0→H→G:=by exact fun f0 k=>daa (zAG (lq rfl) f0 rfl rfl) k):G:=h f0 k
theorem q28 {F0:Prop} (f0:F0) {F1:Prop} (f1:F1) (k:H) (h:F0→F1→H→G:=by exact fun f0 f1 k=>yK (z4S (lq rfl) f0 f1 rfl) k):G:=h f0 f1 k
theorem q29 (k:H) (h:H→G:=by exact fun k=>yK (zME (lq rfl) rfl rfl) k):G:=h k
theorem q30 (k:H) (h:H→G:=by exact fun k=>yK (zXE (lq rfl) rfl rfl) k):G:=h k
theorem q31 (k:H) (h:H→G:=by exact fun k=>xd rfl (yN (zs:=[(.int IntKind.i64 (0)),(.int IntKind.i64 (0)),(.int IntKind.i64 (0))]) (lq rfl) (by kernel_rfl) rfl rfl) k):G:=h k
theorem q32 (x:AV) (k:Sq P r E ops rest (S.put d (.cond (gd false b) x)) J) (ha:GdO o ops S E j t d b false:=by exact rfl) (h:b=false→AOp P r E S o d x:=by exact fun hb=>by subst hb;exact zWX (lq rfl) rfl rfl):Sq P r E ops (o::rest) S J:=sqf x ha h k
theorem q33 {F0:Prop} (f0:F0) (k:H) (h:F0→H→G:=by exact fun f0 k=>yK (zHR (lq rfl) f0 rfl rfl) k):G:=h f0 k
theorem q34 {F0:Prop} (f0:F0) {F1:Prop} (f1:F1) (k:H) (h:F0→F1→H→G:=by exact fun f0 f1 k=>kN rfl (zXJ (lq rfl) f0 rfl rfl rfl f1 (by decide) (by decide) rfl rfl) k):G:=h f0 f1 k
theorem q35 {F0:Prop} (f0:F0) (k:H) (h:F0→H→G:=by exact fun f0 k=>yK (zI6 (lq rfl) f0 rfl rfl rfl rfl (by decide) rfl) k):G:=h f0 k
theorem q36 (k:H) (h:H→G:=by exact fun k=>yK (zMD (lq rfl) rfl rfl) k):G:=h k
theorem q37 {F0:Prop} (f0:F0) {F1:Prop} (f1:F1) (k:H) (m:I) (h:F0→F1→H→I→G:=by exact fun f0 f1 k m=>xa rfl (wN (en:=eSpan) (off:=0) (lq rfl) f0 rfl f1 rfl rfl (by decide)) k m):G:=h f0 f1 k m
theorem q38 {F0:Prop} (f0:F0) (k:H) (h:F0→H→G:=by exact fun f0 k=>kN rfl (zGN f0 rfl rfl (lq rfl) rfl rfl rfl) k):G:=h f0 k
theorem q39 (k:H) (h:H→G:=by exact fun k=>yK (zMF (lq rfl) rfl) k):G:=h k
theorem q40 (k:H) (h:H→G:=by exact fun k=>yK (zWX (lq rfl) rfl rfl) k):G:=h k
theorem q41 {F0:Prop} (f0:F0) (k:H) (h:F0→H→G:=by exact fun f0 k=>yK (zCA (lq rfl) f0 rfl) k):G:=h f0 k
theorem q42 {F0:Prop} (f0:F0) {F1:Prop} (f1:F1) (k:H) (h:F0→F1→H→G:=by exact fun f0 f1 k=>daa (zBV (lq rfl) f0 rfl rfl f1) k):G:=h f0 f1 k
theorem q43 (k:H) (h:H→G:=by exact fun k=>daa (zKN (lq rfl) rfl) k):G:=h k
theorem q44 (k:H) (h:H→G:=by exact fun k=>yK (zIF (lq rfl) rfl rfl) k):G:=h k
theorem q45 (k:H) (h:H→G:=by exact fun k=>yK (z7I (lq rfl) rfl rfl (by decide)) k):G:=h k
theorem q46 {F0:Prop} (f0:F0) (k:H) (h:F0→H→G:=by exact fun f0 k=>yK (zJM (lq rfl) f0 rfl rfl (by decide)) k):G:=h f0 k
theorem q47 (k:H) (h:H→G:=by exact fun k=>yK (zHS (size:=3) (lq rfl) rfl rfl) k):G:=h k
theorem q48 (k:H) (h:H→G:=by exact fun k=>yK (zKK (lq rfl) rfl rfl) k):G:=h k
theorem q49 {F0:Prop} (f0:F0) {F1:Prop} (f1:F1) (k:H) (h:F0→F1→H→G:=by exact fun f0 f1 k=>yK (wU (en:=eI) (off:=0) (lq rfl) f0 rfl f1 rfl) k):G:=h f0 f1 k
theorem q50 {F0:Prop} (f0:F0) {F1:Prop} (f1:F1) (k:H) (h:F0→F1→H→G:=by exact fun f0 f1 k=>xc rfl (wN (en:=eSpan) (off:=0) (lq rfl) f0 rfl f1 rfl rfl (by decide)) k):G:=h f0 f1 k
theorem q51 {F0:Prop} (f0:F0) (k:H) (h:F0→H→G:=by exact fun f0 k=>yK (zDG (lq rfl) f0 rfl rfl) k):G:=h f0 k
theorem q52 (x:AV) {F0:Prop} (f0:F0) (k:Sq P r E ops rest (S.put d (.cond (gd true b) x)) J) (ha:GdO o ops S E j t d b true:=by exact rfl) (h:F0→b=true→AOp P r E S o d x:=by exact fun f0 hb=>by subst hb;exact zA7 (lq rfl) f0 rfl):Sq P r E ops (o::rest) S J:=sqt x ha (h f0) k
theorem q53 (x:AV) {F0:Prop} (f0:F0) (k:Sq P r E ops rest (S.put d (.cond (gd false b) x)) J) (ha:GdO o ops S E j t d b false:=by exact rfl) (h:F0→b=false→AOp P r E S o d x:=by exact fun f0 hb=>by subst hb;exact zMS (lq rfl) f0 rfl):Sq P r E ops (o::rest) S J:=sqf x ha (h f0) k
theorem q54 (x:AV) (k:DA P r E ops rest (S.put d (.cond (gd true b) x)) J) (ha:GdO o ops S E j t d b true:=by exact rfl) (h:b=true→AOp P r E S o d x:=by exact fun hb=>by subst hb;exact zC (lq rfl) rfl):DA P r E ops (o::rest) S J:=dat x ha h k
theorem q55 (x:AV) {F0:Prop} (f0:F0) (k:Sq P r E ops rest (S.put d (.cond (gd true b) x)) J) (ha:GdO o ops S E j t d b true:=by exact rfl) (h:F0→b=true→AOp P r E S o d x:=by exact fun f0 hb=>by subst hb;exact zAG (lq rfl) f0 rfl rfl):Sq P r E ops (o::rest) S J:=sqt x ha (h f0) k
theorem q56 {F0:Prop} (f0:F0) {F1:Prop} (f1:F1) (k:H) (h:F0→F1→H→G:=by exact fun f0 f1 k=>xd rfl (zXX f0 rfl rfl rfl rfl f1 rfl) k):G:=h f0 f1 k
theorem q57 {F0:Prop} (f0:F0) {F1:Prop} (f1:F1) (k:H) (m:I) (h:F0→F1→H→I→G:=by exact fun f0 f1 k m=>xa rfl (zEQ (lq rfl) f0 rfl rfl f1 rfl) k m):G:=h f0 f1 k m
theorem q58 {F0:Prop} (f0:F0) (k:H) (h:F0→H→G:=by exact fun f0 k=>daa (zCX (lq rfl) f0 rfl rfl rfl) k):G:=h f0 k
theorem q59 {F0:Prop} (f0:F0) (k:H) (h:F0→H→G:=by exact fun f0 k=>yK (zXN (lq rfl) f0 rfl rfl) k):G:=h f0 k
theorem q60 {F0:Prop} (f0:F0) (k:H) (h:F0→H→G:=by exact fun f0 k=>xc rfl (zI6 (lq rfl) f0 rfl rfl rfl rfl (by decide) rfl) k):G:=h f0 k
theorem q61 (k:H) (h:H→G:=by exact fun k=>yK (zHS (size:=4) (lq rfl) rfl rfl) k):G:=h k
theorem q62 (x:AV) (k:Sq P r E ops rest (S.put d (.cond (gd true b) x)) J) (ha:GdO o ops S E j t d b true:=by exact rfl) (h:b=true→AOp P r E S o d x:=by exact fun hb=>by subst hb;exact zMD (lq rfl) rfl rfl):Sq P r E ops (o::rest) S J:=sqt x ha h k
theorem q63 (k:H) (h:H→G:=by exact fun k=>daa (zG3 (lq rfl) rfl) k):G:=h k
theorem q64 (x:AV) (k:Sq P r E ops rest (S.put d (.cond (gd true b) x)) J) (ha:GdO o ops S E j t d b true:=by exact rfl) (h:b=true→AOp P r E S o d x:=by exact fun hb=>by subst hb;exact zMC (lq rfl) rfl rfl):Sq P r E ops (o::rest) S J:=sqt x ha h k
theorem q65 {F0:Prop} (f0:F0) (k:H) (h:F0→H→G:=by exact fun f0 k=>yK (zF6 (lq rfl) f0 rfl) k):G:=h f0 k
theorem q66 (k:H) (h:H→G:=by exact fun k=>yK (zI5 (lq rfl) rfl rfl) k):G:=h k
theorem q67 (k:H) (h:H→G:=by exact fun k=>yK (zKM (lq rfl) rfl) k):G:=h k
theorem q68 {F0:Prop} (f0:F0) (k:H) (h:F0→H→G:=by exact fun f0 k=>kN rfl (zJK f0 rfl rfl (lq rfl) rfl rfl rfl) k):G:=h f0 k
theorem q69 (k:H) (h:H→G:=by exact fun k=>daa (zEG (lq rfl) rfl rfl) k):G:=h k
theorem q70 {F0:Prop} (f0:F0) {F1:Prop} (f1:F1) (k:H) (h:F0→F1→H→G:=by exact fun f0 f1 k=>daa (wU (en:=eI) (off:=0) (lq rfl) f0 rfl f1 rfl) k):G:=h f0 f1 k
theorem q71 {F0:Prop} (f0:F0) {F1:Prop} (f1:F1) (k:H) (h:F0→F1→H→G:=by exact fun f0 f1 k=>yK (wN (en:=eMapping) (off:=0) (lq rfl) f0 rfl f1 rfl rfl (by decide)) k):G:=h f0 f1 k
theorem q72 {F0:Prop} (f0:F0) (k:H) (h:F0→H→G:=by exact fun f0 k=>daa (zHR (lq rfl) f0 rfl rfl) k):G:=h f0 k
theorem q73 {F0:Prop} (f0:F0) {F1:Prop} (f1:F1) (k:H) (m:I) (h:F0→F1→H→I→G:=by exact fun f0 f1 k m=>xa rfl (zB2 (lq rfl) f0 rfl rfl rfl f1) k m):G:=h f0 f1 k m
theorem q74 (k:H) (h:H→G:=by exact fun k=>yK (zHS (size:=1) (lq rfl) rfl rfl) k):G:=h k
theorem q75 (k:H) (h:H→G:=by exact fun k=>kN rfl (zU7 (lq rfl) rfl rfl) k):G:=h k
theorem q76 (x:AV) (k:Sq P r E ops rest (S.put d (.cond (gd true b) x)) J) (ha:GdO o ops S E j t d b true:=by exact rfl) (h:b=true→AOp P r E S o d x:=by exact fun hb=>by subst hb;exact zI5 (lq rfl) rfl rfl):Sq P r E ops (o::rest) S J:=sqt x ha h k
theorem q77 {F0:Prop} (f0:F0) (k:H) (h:F0→H→G:=by exact fun f0 k=>daa (zCA (lq rfl) f0 rfl) k):G:=h f0 k
theorem q78 (k:H) (h:H→G:=by exact fun k=>kN rfl (yN (zs:=[(.int IntKind.i64 (0)),(.int IntKind.i64 (0))]) (lq rfl) (by kernel_rfl) rfl rfl) k):G:=h k
theorem q79 (k:H) (h:H→G:=by exact fun k=>kN rfl (yN (zs:=[(.int IntKind.i64 (0)),(.slice none 0 0),(.string ⟨#[]⟩)]) (lq rfl) (by kernel_rfl) rfl rfl) k):G:=h k
theorem q80 {F0:Prop} (f0:F0) (k:H) (m:I) (h:F0→H→I→G:=by exact fun f0 k m=>xa rfl (zI6 (lq rfl) f0 rfl rfl rfl rfl (by decide) rfl) k m):G:=h f0 k m
theorem q81 (k:H) (h:H→G:=by exact fun k=>xd rfl (yN (zs:=[(.slice none 0 0),(.slice none 0 0),(.int IntKind.i64 (0)),(.int IntKind.i64 (0)),(.int IntKind.i64 (0))]) (lq rfl) (by kernel_rfl) rfl rfl) k):G:=h k
theorem q82 (x:AV) (k:Sq P r E ops rest (S.put d (.cond (gd false b) x)) J) (ha:GdO o ops S E j t d b false:=by exact rfl) (h:b=false→AOp P r E S o d x:=by exact fun hb=>by subst hb;exact zMD (lq rfl) rfl rfl):Sq P r E ops (o::rest) S J:=sqf x ha h k
theorem q83 (k:H) (h:H→G:=by exact fun k=>yK (zHS (size:=5) (lq rfl) rfl rfl) k):G:=h k
theorem q84 (x:AV) (k:Sq P r E ops rest (S.put d (.cond (gd false b) x)) J) (ha:GdO o ops S E j t d b false:=by exact rfl) (h:b=false→AOp P r E S o d x:=by exact fun hb=>by subst hb;exact zMC (lq rfl) rfl rfl):Sq P r E ops (o::rest) S J:=sqf x ha h k
theorem q85 (k:H) (h:H→G:=by exact fun k=>daa (zWX (lq rfl) rfl rfl) k):G:=h k
theorem q86 (x:AV) {F0:Prop} (f0:F0) (k:DA P r E ops rest (S.put d (.cond (gd true b) x)) J) (ha:GdO o ops S E j t d b true:=by exact rfl) (h:F0→b=true→AOp P r E S o d x:=by exact fun f0 hb=>by subst hb;exact zA7 (lq rfl) f0 rfl):DA P r E ops (o::rest) S J:=dat x ha (h f0) k
theorem q87 (x:AV) {F0:Prop} (f0:F0) (k:DA P r E ops rest (S.put d (.cond (gd true b) x)) J) (ha:GdO o ops S E j t d b true:=by exact rfl) (h:F0→b=true→AOp P r E S o d x:=by exact fun f0 hb=>by subst hb;exact zAG (lq rfl) f0 rfl rfl):DA P r E ops (o::rest) S J:=dat x ha (h f0) k
theorem q88 (x:AV) (k:Sq P r E ops rest (S.put d (.cond (gd false b) x)) J) (ha:GdO o ops S E j t d b false:=by exact rfl) (h:b=false→AOp P r E S o d x:=by exact fun hb=>by subst hb;exact zMF (lq rfl) rfl):Sq P r E ops (o::rest) S J:=sqf x ha h k
theorem q89 (k:H) (h:H→G:=by exact fun k=>kN rfl (yN (zs:=[(.int IntKind.i64 (0)),(.int IntKind.i64 (0)),(.int IntKind.i64 (0))]) (lq rfl) (by kernel_rfl) rfl rfl) k):G:=h k
theorem q90 {F0:Prop} (f0:F0) (k:H) (h:F0→H→G:=by exact fun f0 k=>yK (vW (lq rfl) f0 rfl) k):G:=h f0 k
theorem q91 {F0:Prop} (f0:F0) (k:H) (h:F0→H→G:=by exact fun f0 k=>yK (zVF (lq rfl) f0 rfl rfl (by decide)) k):G:=h f0 k
theorem q92 (x:AV) {F0:Prop} (f0:F0) (k:Sq P r E ops rest (S.put d (.cond (gd false b) x)) J) (ha:GdO o ops S E j t d b false:=by exact rfl) (h:F0→b=false→AOp P r E S o d x:=by exact fun f0 hb=>by subst hb;exact vW (lq rfl) f0 rfl):Sq P r E ops (o::rest) S J:=sqf x ha (h f0) k
theorem q93 {F0:Prop} (f0:F0) (k:H) (h:F0→H→G:=by exact fun f0 k=>xd rfl (zGN f0 rfl rfl (lq rfl) rfl rfl rfl) k):G:=h f0 k
theorem q94 {F0:Prop} (f0:F0) (k:H) (h:F0→H→G:=by exact fun f0 k=>daa (vW (lq rfl) f0 rfl) k):G:=h f0 k
theorem q95 {F0:Prop} (f0:F0) {F1:Prop} (f1:F1) (k:H) (h:F0→F1→H→G:=by exact fun f0 f1 k=>daa (zB2 (lq rfl) f0 rfl rfl rfl f1) k):G:=h f0 f1 k
theorem q96 {F0:Prop} (f0:F0) {F1:Prop} (f1:F1) (k:H) (h:F0→F1→H→G:=by exact fun f0 f1 k=>daa (zEQ (lq rfl) f0 rfl rfl f1 rfl) k):G:=h f0 f1 k
theorem q97 (k:H) (h:H→G:=by exact fun k=>daa (zC1 (lq rfl) rfl) k):G:=h k
theorem q98 (k:H) (h:H→G:=by exact fun k=>yK (zDD (lq rfl) rfl) k):G:=h k
theorem q99 {F0:Prop} (f0:F0) {F1:Prop} (f1:F1) (k:H) (h:F0→F1→H→G:=by exact fun f0 f1 k=>yK (wN (en:=eElement) (off:=0) (lq rfl) f0 rfl f1 rfl rfl (by decide)) k):G:=h f0 f1 k
theorem z5L (k:H) (h:H→G:=by exact fun k=>kN rfl (yN (zs:=[(.int IntKind.i64 (0)),(.int IntKind.i64 (0)),(.int IntKind.i64 (0)),(.bool false)]) (lq rfl) (by kernel_rfl) rfl rfl) k):G:=h k
theorem zYD (x:AV) (k:Sq P r E ops rest (S.put d (.cond (gd false b) x)) J) (ha:GdO o ops S E j t d b false:=by exact rfl) (h:b=false→AOp P r E S o d x:=by exact fun hb=>by subst hb;exact zKK (lq rfl) rfl rfl):Sq P r E ops (o::rest) S J:=sqf x ha h k
theorem zYE (x:AV) (k:Sq P r E ops rest (S.put d (.cond (gd false b) x)) J) (ha:GdO o ops S E j t d b false:=by exact rfl) (h:b=false→AOp P r E S o d x:=by exact fun hb=>by subst hb;exact zEG (lq rfl) rfl rfl):Sq P r E ops (o::rest) S J:=sqf x ha h k
theorem z1O (k:H) (h:H→G:=by exact fun k=>yK (zXG (lq rfl) rfl rfl) k):G:=h k
theorem zYF (k:H) (h:H→G:=by exact fun k=>kN rfl (zVC (lq rfl) rfl) k):G:=h k
theorem zYG (x:AV) (k:DA P r E ops rest (S.put d (.cond (gd true b) x)) J) (ha:GdO o ops S E j t d b true:=by exact rfl) (h:b=true→AOp P r E S o d x:=by exact fun hb=>by subst hb;exact zXE (lq rfl) rfl rfl):DA P r E ops (o::rest) S J:=dat x ha h k
theorem zYH (k:H) (h:H→G:=by exact fun k=>daa (zKL (lq rfl) rfl) k):G:=h k
theorem zYI (k:H) (h:H→G:=by exact fun k=>daa (zIN (lq rfl) rfl) k):G:=h k
theorem zYJ (k:H) (m:I) (h:H→I→G:=by exact fun k m=>xb rfl (yN (zs:=[(.int IntKind.i64 (0)),(.int IntKind.i64 (0)),(.int IntKind.i64 (0))]) (lq rfl) (by kernel_rfl) rfl rfl) k m):G:=h k m
theorem zYK (k:H) (h:H→G:=by exact fun k=>daa (zXE (lq rfl) rfl rfl) k):G:=h k
theorem zYL (x:AV) (k:DA P r E ops rest (S.put d (.cond (gd true b) x)) J) (ha:GdO o ops S E j t d b true:=by exact rfl) (h:b=true→AOp P r E S o d x:=by exact fun hb=>by subst hb;exact zG3 (lq rfl) rfl):DA P r E ops (o::rest) S J:=dat x ha h k
theorem zYM {F0:Prop} (f0:F0) (k:H) (h:F0→H→G:=by exact fun f0 k=>daa (zF6 (lq rfl) f0 rfl) k):G:=h f0 k
theorem zYN (k:H) (h:H→G:=by exact fun k=>daa (zMC (lq rfl) rfl rfl) k):G:=h k
theorem z8A (k:H) (h:H→G:=by exact fun k=>daa (zMF (lq rfl) rfl) k):G:=h k
theorem zYO (k:H) (h:H→G:=by exact fun k=>yK (zRV (lq rfl) rfl rfl) k):G:=h k
theorem z1P {F0:Prop} (f0:F0) (k:H) (h:F0→H→G:=by exact fun f0 k=>yK (z4V (lq rfl) f0 rfl rfl) k):G:=h f0 k
theorem z1Q {F0:Prop} (f0:F0) {F1:Prop} (f1:F1) (k:H) (m:I) (h:F0→F1→H→I→G:=by exact fun f0 f1 k m=>xa rfl (zB1 (lq rfl) f0 rfl rfl rfl f1) k m):G:=h f0 f1 k m
theorem z1R {F0:Prop} (f0:F0) {F1:Prop} (f1:F1) (k:H) (h:F0→F1→H→G:=by exact fun f0 f1 k=>yK (wN (en:=eGroup) (off:=0) (lq rfl) f0 rfl f1 rfl rfl (by decide)) k):G:=h f0 f1 k
theorem z1S (k:H) (h:H→G:=by exact fun k=>kN rfl (yN (zs:=[(.string ⟨#[]⟩),(.int IntKind.i64 (0)),(.int IntKind.i64 (0))]) (lq rfl) (by kernel_rfl) rfl rfl) k):G:=h k
theorem z1T {F0:Prop} (f0:F0) {F1:Prop} (f1:F1) (k:H) (h:F0→F1→H→G:=by exact fun f0 f1 k=>kN rfl (zPU f0 f1 rfl rfl rfl rfl rfl rfl) k):G:=h f0 f1 k
theorem z1U (k:H) (h:H→G:=by exact fun k=>yK (z7M (lq rfl) rfl rfl) k):G:=h k
theorem z1V (k:H) (h:H→G:=by exact fun k=>yK (zKL (lq rfl) rfl) k):G:=h k
theorem z1W {F0:Prop} (f0:F0) {F1:Prop} (f1:F1) (k:H) (h:F0→F1→H→G:=by exact fun f0 f1 k=>yK (wN (en:=eSpan) (off:=0) (lq rfl) f0 rfl f1 rfl rfl (by decide)) k):G:=h f0 f1 k
theorem z1X {F0:Prop} (f0:F0) (k:H) (h:F0→H→G:=by exact fun f0 k=>yK (z3C (lq rfl) rfl rfl f0) k):G:=h f0 k
theorem z1Y (x:AV) {F0:Prop} (f0:F0) (k:Sq P r E ops rest (S.put d (.cond (gd true b) x)) J) (ha:GdO o ops S E j t d b true:=by exact rfl) (h:F0→b=true→AOp P r E S o d x:=by exact fun f0 hb=>by subst hb;exact zMS (lq rfl) f0 rfl):Sq P r E ops (o::rest) S J:=sqt x ha (h f0) k
theorem z1Z {F0:Prop} (f0:F0) (k:H) (h:F0→H→G:=by exact fun f0 k=>yK (z40 (lq rfl) f0 rfl rfl) k):G:=h f0 k
theorem z10 (k:H) (h:H→G:=by exact fun k=>daa (zPR (lq rfl) rfl rfl) k):G:=h k
theorem z11 {F0:Prop} (f0:F0) (k:H) (h:F0→H→G:=by exact fun f0 k=>xc rfl (zHR (lq rfl) f0 rfl rfl) k):G:=h f0 k
end
section
variable {G H:Prop}
theorem Q0 (k:H) (h:H→G:=by intro k;refine kQ ?_;exact wY k):G:=h k
theorem Q1 (k:H) (h:H→G:=by intro k;refine q1 ?_;exact zF k):G:=h k
theorem Q2 (k:H) (h:H→G:=by intro k;refine Q0 ?_;exact q0 k):G:=h k
theorem Q3 (k:H) (h:H→G:=by intro k;refine Q0 ?_;exact Q1 k):G:=h k
theorem Q4 (k:H) (h:H→G:=by intro k;refine kQ ?_;exact Q2 k):G:=h k
theorem Q5 (k:H) (h:H→G:=by intro k;refine zI ?_;exact kQ k):G:=h k
theorem Q6 (k:H) (h:H→G:=by intro k;refine q0 ?_;exact zF k):G:=h k
theorem Q7 (k:H) (h:H→G:=by intro k;refine q2 ?_;exact zF k):G:=h k
theorem Q8 (k:H) (h:H→G:=by intro k;refine wY ?_;exact q0 k):G:=h k
theorem Q9 (k:H) (h:H→G:=by intro k;refine Q5 ?_;exact yQ k):G:=h k
theorem Q10 (k:H) (h:H→G:=by intro k;refine Q1 ?_;exact Q2 k):G:=h k
theorem Q11 (k:H) (h:H→G:=by intro k;refine kQ ?_;exact Q0 k):G:=h k
theorem Q12 (k:H) (h:H→G:=by intro k;refine Q0 ?_;exact Q7 k):G:=h k
theorem Q13 (k:H) (h:H→G:=by intro k;refine Q12 ?_;exact kQ k):G:=h k
theorem Q14 (k:H) (h:H→G:=by intro k;refine Q4 ?_;exact q0 k):G:=h k
theorem Q15 (k:H) (h:H→G:=by intro k;refine wY ?_;exact q4 k):G:=h k
theorem Q16 (k:H) (h:H→G:=by intro k;refine Q15 ?_;exact Q6 k):G:=h k
theorem Q17 (k:H) (h:H→G:=by intro k;refine Q6 ?_;exact yQ k):G:=h k
theorem Q18 (k:H) (h:H→G:=by intro k;refine q4 ?_;exact Q1 k):G:=h k
theorem Q19 (k:H) (h:H→G:=by intro k;refine q22 ?_;exact zF k):G:=h k
theorem Q20 (k:H) (h:H→G:=by intro k;refine q0 ?_;exact q0 k):G:=h k
theorem Q21 (k:H) (h:H→G:=by intro k;refine Q8 ?_;exact Q18 k):G:=h k
theorem Q22 (k:H) (h:H→G:=by intro k;refine Q3 ?_;exact zB k):G:=h k
theorem Q23 (k:H) (h:H→G:=by intro k;refine xn [12] ?_;exact q10 G99 k):G:=h k
theorem Q24 (k:H) (h:H→G:=by intro k;refine q1 ?_;exact Q1 k):G:=h k
theorem Q25 (k:H) (h:H→G:=by intro k;refine Q9 ?_;exact Q0 k):G:=h k
theorem Q26 (k:H) (h:H→G:=by intro k;refine q12 ?_;exact zF k):G:=h k
theorem Q27 (k:H) (h:H→G:=by intro k;refine Q0 ?_;exact q9 k):G:=h k
theorem Q28 (k:H) (h:H→G:=by intro k;refine Q2 ?_;exact q0 k):G:=h k
theorem Q29 (k:H) (h:H→G:=by intro k;refine wY ?_;exact q9 k):G:=h k
theorem Q30 (k:H) (h:H→G:=by intro k;refine xn [11] ?_;exact q10 G99 k):G:=h k
theorem Q31 (k:H) (h:H→G:=by intro k;refine Q30 ?_;exact Q23 k):G:=h k
theorem Q32 (k:H) (h:H→G:=by intro k;refine Q2 ?_;exact Q1 k):G:=h k
theorem Q33 (k:H) (h:H→G:=by intro k;refine q29 ?_;exact zF k):G:=h k
theorem Q34 (k:H) (h:H→G:=by intro k;refine zF ?_;exact Q0 k):G:=h k
theorem Q35 (k:H) (h:H→G:=by intro k;refine q16 ?_;exact Q1 k):G:=h k
theorem Q36 (k:H) (h:H→G:=by intro k;refine zI ?_;exact Q16 k):G:=h k
theorem Q37 (k:H) (h:H→G:=by intro k;refine Q3 ?_;exact yQ k):G:=h k
theorem Q38 (k:H) (h:H→G:=by intro k;refine q8 ?_;exact q8 k):G:=h k
theorem Q39 (k:H) (h:H→G:=by intro k;refine Q3 ?_;exact Q4 k):G:=h k
theorem Q40 (k:H) (h:H→G:=by intro k;refine zI ?_;exact Q0 k):G:=h k
theorem Q41 (k:H) (h:H→G:=by intro k;refine q39 ?_;exact zF k):G:=h k
theorem Q42 (k:H) (h:H→G:=by intro k;refine kQ ?_;exact yQ k):G:=h k
theorem Q43 (k:H) (h:H→G:=by intro k;refine zI ?_;exact Q3 k):G:=h k
theorem Q44 (k:H) (h:H→G:=by intro k;refine Q0 ?_;exact q47 k):G:=h k
theorem Q45 (k:H) (h:H→G:=by intro k;refine Q1 ?_;exact Q0 k):G:=h k
theorem Q46 (k:H) (h:H→G:=by intro k;refine q40 ?_;exact zF k):G:=h k
theorem Q47 (k:H) (h:H→G:=by intro k;refine q16 ?_;exact zF k):G:=h k
theorem Q48 (k:H) (h:H→G:=by intro k;refine Q1 ?_;exact Q11 k):G:=h k
theorem Q49 (k:H) (h:H→G:=by intro k;refine Q14 ?_;exact Q7 k):G:=h k
theorem Q50 (k:H) (h:H→G:=by intro k;refine q43 ?_;exact wZ k):G:=h k
theorem Q51 (k:H) (h:H→G:=by intro k;refine q31 ?_;exact Q31 k):G:=h k
theorem Q52 (k:H) (h:H→G:=by intro k;refine q30 ?_;exact Q1 k):G:=h k
theorem Q53 (k:H) (h:H→G:=by intro k;refine q1 ?_;exact Q10 k):G:=h k
theorem Q54 (k:H) (h:H→G:=by intro k;refine Q3 ?_;exact Q2 k):G:=h k
theorem Q55 (k:H) (h:H→G:=by intro k;refine Q5 ?_;exact Q0 k):G:=h k
theorem Q56 (k:H) (h:H→G:=by intro k;refine q38 O3 ?_;exact zF k):G:=h k
theorem Q57 (k:H) (h:H→G:=by intro k;refine Q8 ?_;exact q0 k):G:=h k
theorem Q58 (k:H) (h:H→G:=by intro k;refine q6 yX ?_;exact Q17 k):G:=h k
theorem Q59 (k:H) (h:H→G:=by intro k;refine zI ?_;exact Q21 k):G:=h k
theorem Q60 (k:H) (h:H→G:=by intro k;refine Q27 ?_;exact Q20 k):G:=h k
theorem Q61 (k:H) (h:H→G:=by intro k;refine Q0 ?_;exact q61 k):G:=h k
theorem Q62 (k:H) (h:H→G:=by intro k;refine q5 z3J ?_;exact q3 O3 k):G:=h k
theorem Q63 (k:H) (h:H→G:=by intro k;refine q36 ?_;exact zF k):G:=h k
theorem Q64 (k:H) (h:H→G:=by intro k;refine yQ ?_;exact Q2 k):G:=h k
theorem Q65 (k:H) (h:H→G:=by intro k;refine Q10 ?_;exact q0 k):G:=h k
theorem Q66 (k:H) (h:H→G:=by intro k;refine kQ ?_;exact Q37 k):G:=h k
theorem Q67 (k:H) (h:H→G:=by intro k;refine Q1 ?_;exact kQ k):G:=h k
theorem Q68 (k:H) (h:H→G:=by intro k;refine Q8 ?_;exact Q1 k):G:=h k
theorem Q69 (k:H) (h:H→G:=by intro k;refine q67 ?_;exact q44 k):G:=h k
theorem Q70 (k:H) (h:H→G:=by intro k;refine Q69 ?_;exact q44 k):G:=h k
theorem Q71 (k:H) (h:H→G:=by intro k;refine q5 zM7 ?_;exact q3 O40 k):G:=h k
theorem Q72 (k:H) (h:H→G:=by intro k;refine q3 O3 ?_;exact q2 k):G:=h k
theorem Q73 (k:H) (h:H→G:=by intro k;refine q36 ?_;exact Q1 k):G:=h k
theorem Q74 (k:H) (h:H→G:=by intro k;refine Q4 ?_;exact zF k):G:=h k
theorem Q75 (k:H) (h:H→G:=by intro k;refine yQ ?_;exact Q28 k):G:=h k
theorem Q76 (k:H) (h:H→G:=by intro k;refine q63 ?_;exact q8 k):G:=h k
theorem Q77 (k:H) (h:H→G:=by intro k;refine xn [11] ?_;exact q10 G49 k):G:=h k
theorem Q78 (k:H) (h:H→G:=by intro k;refine zF ?_;exact Q11 k):G:=h k
theorem Q79 (k:H) (h:H→G:=by intro k;refine q13 G24 ?_;exact zF k):G:=h k
theorem Q80 (k:H) (h:H→G:=by intro k;refine xm 0 ?_;exact xm 1 k):G:=h k
theorem Q81 (k:H) (h:H→G:=by intro k;refine q13 u5 ?_;exact zF k):G:=h k
theorem Q82 (k:H) (h:H→G:=by intro k;refine q6 S40 ?_;exact Q17 k):G:=h k
theorem Q83 (k:H) (h:H→G:=by intro k;refine q79 ?_;exact q13 G77 k):G:=h k
theorem Q84 (k:H) (h:H→G:=by intro k;refine Q83 ?_;exact zF k):G:=h k
theorem Q85 (k:H) (h:H→G:=by intro k;refine Q60 ?_;exact q0 k):G:=h k
theorem Q86 (k:H) (h:H→G:=by intro k;refine Q29 ?_;exact Q20 k):G:=h k
theorem Q87 (k:H) (h:H→G:=by intro k;refine q4 ?_;exact q28 Tryd.underlying3 Tryd.underlying70 k):G:=h k
theorem Q88 (k:H) (h:H→G:=by intro k;refine Q87 ?_;exact q45 k):G:=h k
theorem Q89 (k:H) (h:H→G:=by intro k;refine Q88 ?_;exact q28 Tryd.underlying70 Tryd.underlying3 k):G:=h k
theorem Q90 (k:H) (h:H→G:=by intro k;refine Q24 ?_;exact Q4 k):G:=h k
theorem Q91 (k:H) (h:H→G:=by intro k;refine Q5 ?_;exact Q37 k):G:=h k
end
theorem zCC {a0 r} (h:xI a0=some r):zG Tryd.prog 9 [(eOptions.dv a0)] [(di r)]:=by
 refine co Tryd.func9 ?_;intro _ _ _ _
 unfold xI at h
 refine Q61 ?_
 refine Q48 ?_
 refine q5 zTA ?_
 refine Q72 ?_
 have ⟨b6,hb6,h⟩:=bE h
 refine yK ((zC (lq rfl) rfl).bool (oi hb6)) ?_
 refine q18 (.ip (eOptions.cells a0) (0+0)) zTA ?_
 refine q19 (.d (di a0.Strength)) O3 ?_
 refine q32 (.d (db (decide (4 < a0.Strength)))) ?_
 refine Q26 ?_
 refine yY h (fun h=>?_) (fun h=>?_)
 refine Q3 ?_
 cases h
 refine zB ?_
 exact zL rfl
 refine Q55 ?_
 refine q5 zTB ?_
 refine q3 O3 ?_
 refine zF<|yQ<|Q11 ?_
 refine Q73 ?_
 have ⟨y1,hy1,h⟩:=bE h
 refine tl .normal ⟨[(13,.d (db y1))],[]⟩ ?_ ?_
 refine yY hy1 (fun hy1=>?_) (fun hy1=>?_)
 refine zI ?_
 cases hy1
 exact zJ (wc)
 refine Q0 ?_
 refine Q73 ?_
 refine yY hy1 (fun hy1=>?_) (fun hy1=>?_)
 refine zI ?_
 cases hy1
 exact zJ (wc)
 refine wY<|Q73 ?_
 cases hy1
 exact zJ (wc)
 refine yY h (fun h=>?_) (fun h=>?_)
 refine Q3 ?_
 cases h
 refine zB ?_
 exact zL rfl
 refine Q43 ?_
 cases h
 refine zB ?_
 exact zL rfl
theorem zCG {a0 r} (h:xS a0=some r):zG Tryd.prog 22 [(eOptions.dv a0)] [(eOptions.dv r)]:=by
 refine co Tryd.func22 ?_;intro _ _ _ _
 unfold xS at h
 refine Q61 ?_
 refine kN rfl (yN (zs:=[(.int IntKind.i64 (0)),(.int IntKind.i64 (0)),(.bool false),(.bool false)]) (lq rfl) (by kernel_rfl) rfl rfl) ?_
 refine Q78 ?_
 refine q33 G24 ?_
 have ⟨t4,ht4,h⟩:=bE h
 refine q7 (zCC ht4) ?_
 refine Q33 ?_
 refine yY h (fun h=>?_) (fun h=>?_)
 refine Q0 ?_
 refine q51 B24 ?_
 refine Q79 ?_
 cases h
 refine zB ?_
 exact zAJ rfl rfl G24 rfl
 refine Q40 ?_
 refine q33 G24 ?_
 refine Q79 ?_
 cases h
 refine zB ?_
 exact zAJ rfl rfl G24 rfl
theorem zFA {a0} {a1} {a2} {r:A4Int×Bool} (h:xZ a0 a1 a2=some r):GC Tryd.prog 31 [.d (eElement.dv a0),.d (.pt [(di a1)]),.ptr 3002 0] [(3002,.box 4 [.d (db a2)])] [3002] [.d (eA4Int.dv r.1)] [(3002,.box 4 [.d (db r.2)])]:=by
 refine zA5 Tryd.func31 (by kernel_rfl) rfl (lq rfl) (lq rfl) fun w0 I0 hG0 p0=>?_
 unfold xZ at h
 refine Q61 ?_
 refine kN rfl (yN (zs:=[(.int IntKind.i64 (0)),(.int IntKind.i64 (0)),(.int IntKind.i64 (0)),(.int IntKind.i64 (0))]) (lq rfl) (by kernel_rfl) rfl rfl) ?_
 refine Q34 ?_
 refine Q62 ?_
 refine q5 zTC ?_
 refine q3 O3 ?_
 refine q5 zTD ?_
 refine q3 O3 ?_
 refine q59 A64 ?_
 refine kN rfl (yN (zs:=[(.int IntKind.i64 (0)),(.int IntKind.i64 (0)),(.int IntKind.i64 (0)),(.int IntKind.i64 (0))]) (lq rfl) (by kernel_rfl) rfl rfl) ?_
 refine q13 G64 ?_
 refine Q78 ?_
 refine yK ((k9 (lq rfl) G64 rfl rfl rfl rfl).data rfl) ?_
 refine q59 A64 ?_
 refine yK (zSZ (en:=eA4Int) (a:=({x0:=({x0:=a0.Primary,x1:=a0.Secondary,x2:=a0.Tertiary,x3:=0}:A4Int).x0,x1:=({x0:=a0.Primary,x1:=a0.Secondary,x2:=a0.Tertiary,x3:=0}:A4Int).x1,x2:=({x0:=a0.Primary,x1:=a0.Secondary,x2:=a0.Tertiary,x3:=0}:A4Int).x2,x3:=({x0:=a0.Primary,x1:=a0.Secondary,x2:=a0.Tertiary,x3:=0}:A4Int).x3}:A4Int)) (b:=({x0:=0,x1:=0,x2:=0,x3:=0}:A4Int)) (lq rfl) E64 rfl rfl) ?_
 refine zF ?_
 have ⟨y1,hy1,h⟩:=bE h
 refine tl .normal ⟨[(1,.d (.pt [(di a1)])),(2,.ptr 3002 0),(3,.d (.pt (eElement.cells a0))),(4,.ptr 4 0),(5,.ptr 5 0)],[(4,.box 64 [.d (di 0),.d (di 0),.d (di 0),.d (di 0)]),(5,.box 64 [.d (di (({x0:=a0.Primary,x1:=a0.Secondary,x2:=a0.Tertiary,x3:=0}:A4Int).x0)),.d (di (({x0:=a0.Primary,x1:=a0.Secondary,x2:=a0.Tertiary,x3:=0}:A4Int).x1)),.d (di (({x0:=a0.Primary,x1:=a0.Secondary,x2:=a0.Tertiary,x3:=0}:A4Int).x2)),.d (di y1)]),(3002,.box 4 [.d (db a2)])]⟩ ?_ ?_
 refine yY hy1 (fun hy1=>?_) (fun hy1=>?_)
 refine wY<|q46 A64 ?_
 refine Q56 ?_
 cases hy1
 exact zJ (wc)
 refine zI ?_
 cases hy1
 exact zJ (wc)
 refine Q11 ?_
 refine q65 O3 ?_
 refine Q63 ?_
 refine yY h (fun h=>?_) (fun h=>?_)
 refine Q0 ?_
 refine yK ((k9 (lq rfl) G64 rfl rfl rfl rfl).data rfl) ?_
 refine q13 G64 ?_
 refine zF ?_
 cases h
 refine zB ?_
 exact ⟨⟨_,_,_,_,_,rfl,rfl,rfl,.inr ⟨_,G64,rfl,rfl⟩,rfl⟩,⟨rfl,trivial⟩⟩
 refine Q55 ?_
 refine q5 z3K ?_
 refine q3 O4 ?_
 refine zF ?_
 have ⟨y2,hy2,h⟩:=bE h
 refine tl .normal ⟨[(1,.d (.pt [(di a1)])),(2,.ptr 3002 0),(4,.ptr 4 0),(5,.ptr 5 0)],[(4,.box 64 [.d (di 0),.d (di 0),.d (di 0),.d (di 0)]),(5,.box 64 [.d (di y2.1),.d (di y2.2.1),.d (di y2.2.2.1),.d (di y2.2.2.2.1)]),(3002,.box 4 [.d (db y2.2.2.2.2)])]⟩ ?_ ?_
 refine yY hy2 (fun hy2=>?_) (fun hy2=>?_)
 refine Q0 ?_
 refine q38 O4 ?_
 refine zF<|wY<|Q62 ?_
 refine q59 A64 ?_
 refine q13 G64 ?_
 refine zF ?_
 cases hy2
 exact zJ (wc)
 refine Q0 ?_
 refine Q62 ?_
 refine Q33 ?_
 refine yY hy2 (fun hy2=>?_) (fun hy2=>?_)
 refine wY<|q38 O4 ?_
 refine zF ?_
 cases hy2
 exact zJ (wc)
 refine Q0 ?_
 refine q24 O4 ?_
 refine zF ?_
 refine yY hy2 (fun hy2=>?_) (fun hy2=>?_)
 refine wY<|q59 A64 ?_
 refine q13 G64 ?_
 refine zF ?_
 cases hy2
 exact zJ (wc)
 refine zI ?_
 cases hy2
 exact zJ (wc)
 refine Q11 ?_
 refine q65 O3 ?_
 refine Q63 ?_
 have ⟨y3,hy3,h⟩:=bE h
 refine tl .normal ⟨[(2,.ptr 3002 0),(4,.ptr 4 0),(5,.ptr 5 0)],[(4,.box 64 [.d (di 0),.d (di 0),.d (di 0),.d (di 0)]),(5,.box 64 [.d (di y2.1),.d (di y2.2.1),.d (di y2.2.2.1),.d (di y3)]),(3002,.box 4 [.d (db y2.2.2.2.2)])]⟩ ?_ ?_
 refine yY hy3 (fun hy3=>?_) (fun hy3=>?_)
 refine wY<|q46 A64 ?_
 refine Q56 ?_
 cases hy3
 exact zJ (wc)
 refine zI ?_
 cases hy3
 exact zJ (wc)
 refine Q0 ?_
 refine yK ((k9 (lq rfl) G64 rfl rfl rfl rfl).data rfl) ?_
 refine q13 G64 ?_
 refine zF ?_
 cases h
 refine zB ?_
 exact ⟨⟨_,_,_,_,_,rfl,rfl,rfl,.inr ⟨_,G64,rfl,rfl⟩,rfl⟩,⟨rfl,trivial⟩⟩
theorem zGI {a0} {r:Unit} (h:uZ a0=some r):GCA Tryd.prog 23 [.d (di a0)] [] [] (.clo 31 [.d (.pt [(di a0)]),.ptr 3 0]) [(3,.box 4 [.d (db false)])]:=by
 refine zXB Tryd.func23 (by kernel_rfl) rfl (lq rfl) (lq rfl) rfl fun w0 I0 hG0 p0=>?_
 unfold uZ at h
 refine Q0 ?_
 refine q74 ?_
 refine Q45 ?_
 refine kN rfl (yN (zs:=[(.bool false)]) (lq rfl) (by kernel_rfl) rfl rfl) ?_
 refine q38 O4 ?_
 refine Q34 ?_
 refine yK (zIO (cs:=[.d (.pt [(di a0)]),.ptr 3 0]) (lq rfl) ⟨_,_,rfl,rfl,⟨_,_,rfl,rfl,rfl⟩⟩) ?_
 refine q98 ?_
 refine zF ?_
 cases h
 refine zB ?_
 exact ⟨rfl,⟨rfl,trivial⟩⟩
set_option maxHeartbeats 8000000 in
theorem zDU {a0} {r:(List Int)} (h:jJ a0=some r):GC Tryd.prog 24 [.row 3000] [(3000,.row 3 eI.size false (eI.all a0))] [3000] [] [(3000,.row 3 eI.size false (eI.all r))]:=by
 refine zA5 Tryd.func24 (by kernel_rfl) rfl (lq rfl) (lq rfl) fun w0 I0 hG0 p0=>?_
 unfold jJ at h
 refine Q27 ?_
 refine z1P yX ?_
 refine q30 ?_
 refine Q24 ?_
 refine yQ ?_
 have ⟨y1,hy1,h⟩:=bE h
 refine tl (.exit 0) ⟨[(0,.row 3000)],[(3000,.row 3 eI.size false (eI.all y1))]⟩ ?_ ?_
 refine zE (fun x=>⟨[(0,.row 3000),(2,.d (di x.1)),(3,.d (di x.2.1))],[(3000,.row 3 eI.size false (eI.all x.2.2))]⟩) hy1 (wc) ?_
 rintro ⟨v2,v3,r3000⟩ sy1 p1
 replace p1:kW v2 v3 r3000=some sy1:=p1
 unfold kW at p1
 refine Q49 ?_
 refine yY p1 (fun p1=>?_) (fun p1=>?_)
 refine Q9 ?_
 have ⟨t20,ht20,p1⟩:=bE p1
 have ⟨t24,ht24,p1⟩:=bE p1
 have ⟨t26,ht26,p1⟩:=bE p1
 have ⟨r3000_3x13,hr3000_3x13,p1⟩:=bE p1
 have ⟨t27,ht27,p1⟩:=bE p1
 have ⟨r3000_3x15,hr3000_3x15,p1⟩:=bE p1
 refine tl .normal ⟨[(0,.row 3000),(2,.d (di v2)),(3,.d (di v3))],[(3000,.row 3 eI.size false (eI.all r3000_3x15))]⟩ ?_ ?_
 refine zBX MX ?_
 refine Q80 ?_
 refine xm 2 ?_
 refine xm 3 ?_
 refine xm 4 ?_
 refine xm 5 ?_
 refine xm 8 ?_
 refine xm 9 ?_
 refine xn [6,10] ?_
 refine z1Q yX ht20 ?_ ?_
 refine xn [7,10] ?_
 refine xa rfl (vH (en:=eI) (l:=r3000) (i:=v3) (v:=t20) (off:=0) (lq rfl) O3 rfl rfl ht20 rfl) ?_ ?_
 refine xn [10] ?_
 refine q25 yX ht24 ?_
 refine xn [11] ?_
 refine xc rfl (vH (en:=eI) (l:=r3000) (i:=v2) (v:=t24) (off:=0) (lq rfl) O3 rfl rfl ht24 rfl) ?_
 refine xn [12] ?_
 refine q25 yX ht26 ?_
 refine xn [13] ?_
 refine xd rfl (zAI (en:=eI) (l:=r3000) (i:=v2) (v:=t26) (off:=0) O3 rfl rfl rfl ht26 rfl (by decide) hr3000_3x13 rfl rfl) ?_
 refine xn [14] ?_
 refine q25 yX ht27 ?_
 refine xn [15] ?_
 refine xd rfl (zAI (en:=eI) (l:=r3000_3x13) (i:=v3) (v:=t27) (off:=0) O3 rfl rfl rfl ht27 rfl (by decide) hr3000_3x15 rfl rfl) ?_
 exact ae
 refine q25 yX ht24 ?_
 refine xn [7,11] ?_
 refine xa rfl (vH (en:=eI) (l:=r3000) (i:=v3) (v:=t20) (off:=0) (lq rfl) O3 rfl rfl ht20 rfl) ?_ ?_
 refine xn [11] ?_
 refine xc rfl (vH (en:=eI) (l:=r3000) (i:=v2) (v:=t24) (off:=0) (lq rfl) O3 rfl rfl ht24 rfl) ?_
 refine xn [12] ?_
 refine q25 yX ht26 ?_
 refine xn [13] ?_
 refine xd rfl (zAI (en:=eI) (l:=r3000) (i:=v2) (v:=t26) (off:=0) O3 rfl rfl rfl ht26 rfl (by decide) hr3000_3x13 rfl rfl) ?_
 refine xn [14] ?_
 refine q25 yX ht27 ?_
 refine xn [15] ?_
 refine xd rfl (zAI (en:=eI) (l:=r3000_3x13) (i:=v3) (v:=t27) (off:=0) O3 rfl rfl rfl ht27 rfl (by decide) hr3000_3x15 rfl rfl) ?_
 exact ae
 refine xc rfl (vH (en:=eI) (l:=r3000) (i:=v2) (v:=t24) (off:=0) (lq rfl) O3 rfl rfl ht24 rfl) ?_
 refine xn [7] ?_
 refine xc rfl (vH (en:=eI) (l:=r3000) (i:=v3) (v:=t20) (off:=0) (lq rfl) O3 rfl rfl ht20 rfl) ?_
 refine xn [12] ?_
 refine q25 yX ht26 ?_
 refine xn [13] ?_
 refine xd rfl (zAI (en:=eI) (l:=r3000) (i:=v2) (v:=t26) (off:=0) O3 rfl rfl rfl ht26 rfl (by decide) hr3000_3x13 rfl rfl) ?_
 refine xn [14] ?_
 refine q25 yX ht27 ?_
 refine xn [15] ?_
 refine xd rfl (zAI (en:=eI) (l:=r3000_3x13) (i:=v3) (v:=t27) (off:=0) O3 rfl rfl rfl ht27 rfl (by decide) hr3000_3x15 rfl rfl) ?_
 exact ae
 refine q25 yX ht24 ?_
 refine xn [6,11] ?_
 refine z1Q yX ht20 ?_ ?_
 refine xn [7,11] ?_
 refine xa rfl (vH (en:=eI) (l:=r3000) (i:=v3) (v:=t20) (off:=0) (lq rfl) O3 rfl rfl ht20 rfl) ?_ ?_
 refine xn [11] ?_
 refine xc rfl (vH (en:=eI) (l:=r3000) (i:=v2) (v:=t24) (off:=0) (lq rfl) O3 rfl rfl ht24 rfl) ?_
 refine xn [12] ?_
 refine q25 yX ht26 ?_
 refine xn [13] ?_
 refine xd rfl (zAI (en:=eI) (l:=r3000) (i:=v2) (v:=t26) (off:=0) O3 rfl rfl rfl ht26 rfl (by decide) hr3000_3x13 rfl rfl) ?_
 refine xn [14] ?_
 refine q25 yX ht27 ?_
 refine xn [15] ?_
 refine xd rfl (zAI (en:=eI) (l:=r3000_3x13) (i:=v3) (v:=t27) (off:=0) O3 rfl rfl rfl ht27 rfl (by decide) hr3000_3x15 rfl rfl) ?_
 exact ae
 refine xc rfl (vH (en:=eI) (l:=r3000) (i:=v2) (v:=t24) (off:=0) (lq rfl) O3 rfl rfl ht24 rfl) ?_
 refine xn [7] ?_
 refine xc rfl (vH (en:=eI) (l:=r3000) (i:=v3) (v:=t20) (off:=0) (lq rfl) O3 rfl rfl ht20 rfl) ?_
 refine xn [12] ?_
 refine q25 yX ht26 ?_
 refine xn [13] ?_
 refine xd rfl (zAI (en:=eI) (l:=r3000) (i:=v2) (v:=t26) (off:=0) O3 rfl rfl rfl ht26 rfl (by decide) hr3000_3x13 rfl rfl) ?_
 refine xn [14] ?_
 refine q25 yX ht27 ?_
 refine xn [15] ?_
 refine xd rfl (zAI (en:=eI) (l:=r3000_3x13) (i:=v3) (v:=t27) (off:=0) O3 rfl rfl rfl ht27 rfl (by decide) hr3000_3x15 rfl rfl) ?_
 exact ae
 refine xc rfl (vH (en:=eI) (l:=r3000) (i:=v2) (v:=t24) (off:=0) (lq rfl) O3 rfl rfl ht24 rfl) ?_
 refine xn [6] ?_
 refine q25 yX ht20 ?_
 refine xn [7] ?_
 refine xc rfl (vH (en:=eI) (l:=r3000) (i:=v3) (v:=t20) (off:=0) (lq rfl) O3 rfl rfl ht20 rfl) ?_
 refine xn [12] ?_
 refine q25 yX ht26 ?_
 refine xn [13] ?_
 refine xd rfl (zAI (en:=eI) (l:=r3000) (i:=v2) (v:=t26) (off:=0) O3 rfl rfl rfl ht26 rfl (by decide) hr3000_3x13 rfl rfl) ?_
 refine xn [14] ?_
 refine q25 yX ht27 ?_
 refine xn [15] ?_
 refine xd rfl (zAI (en:=eI) (l:=r3000_3x13) (i:=v3) (v:=t27) (off:=0) O3 rfl rfl rfl ht27 rfl (by decide) hr3000_3x15 rfl rfl) ?_
 exact ae
 refine Q8 ?_
 refine q4 ?_
 refine q0 ?_
 refine q30 ?_
 refine Q24 ?_
 cases p1
 exact wc
 refine zH ?_
 cases p1
 intro q;cases q
 exact zJ (wc)
 cases h
 exact ⟨rfl,⟨rfl,trivial⟩⟩
theorem zDJ {a0 a1 r} (h:vC a0 a1=some r):zG Tryd.prog 12 [(z8 eElement a0),(eOptions.dv a1)] [(z8 (eL eI) r)]:=by
 refine co Tryd.func12 ?_;intro _ _ _ _
 unfold vC at h
 refine Q0 ?_
 refine q75 ?_
 refine Q45 ?_
 refine yK ((k9 (lq rfl) G24 rfl rfl rfl rfl).data rfl) ?_
 have ⟨t12,ht12,h⟩:=bE h
 refine q7 (zCG ht12) ?_
 refine q13 G24 ?_
 refine Q34 ?_
 refine kN rfl (yN (zs:=[(.slice none 0 0),(.slice none 0 0),(.slice none 0 0),(.slice none 0 0)]) (lq rfl) (by kernel_rfl) rfl rfl) ?_
 refine zF ?_
 refine zN (zBC (bid:=5) (off:=0) 4100 3 eI.size (lq rfl) (by decide) rfl rfl rfl) ?_
 refine zN (zBC (bid:=5) (off:=1) 4101 3 eI.size (lq rfl) (by decide) rfl rfl rfl) ?_
 refine zN (zBC (bid:=5) (off:=2) 4102 3 eI.size (lq rfl) (by decide) rfl rfl rfl) ?_
 refine zN (zBC (bid:=5) (off:=3) 4103 3 eI.size (lq rfl) (by decide) rfl rfl rfl) ?_
 refine Q0 ?_
 refine q41 zTB ?_
 refine q24 O3 ?_
 have ⟨t15,ht15,h⟩:=bE h
 refine kN rfl (zN4 [(3,2515)] (zGI ht15) (lq rfl) (by decide) ⟨rfl,trivial⟩ rfl rfl trivial rfl rfl rfl (fun _=>rfl) rfl) ?_
 refine q98 ?_
 refine zF<|Q4 ?_
 refine q6 S22 ?_
 refine Q17 ?_
 have ⟨y1,hy1,h⟩:=bE h
 refine tl (.exit 0) ⟨[(3,.ptr 3 0),(5,.ptr 5 0)],[(3,.box 24 [.d (di t12.Strength),.d (di t12.Variable),.d (db t12.Backward),.d (db t12.Identical)]),(5,.box 61 [.row 4100,.row 4101,.row 4102,.row 4103]),(4100,.row 3 eI.size false (eI.all y1.1)),(4101,.row 3 eI.size false (eI.all y1.2.1)),(4102,.row 3 eI.size false (eI.all y1.2.2.1)),(4103,.row 3 eI.size false (eI.all y1.2.2.2))]⟩ ?_ ?_
 refine zE (fun x=>⟨[(3,.ptr 3 0),(5,.ptr 5 0),(6,.clo 31 [.d (.pt [(di t12.Variable)]),.ptr 2515 0]),(16,.d (z8 eElement a0)),(17,.d (di (a0.length:Int))),(18,.d (di x.1))],[(3,.box 24 [.d (di t12.Strength),.d (di t12.Variable),.d (db t12.Backward),.d (db t12.Identical)]),(5,.box 61 [.row 4100,.row 4101,.row 4102,.row 4103]),(2515,.box 4 [.d (db x.2.1)]),(4100,.row 3 eI.size false (eI.all x.2.2.1)),(4101,.row 3 eI.size false (eI.all x.2.2.2.1)),(4102,.row 3 eI.size false (eI.all x.2.2.2.2.1)),(4103,.row 3 eI.size false (eI.all x.2.2.2.2.2))]⟩) hy1 (wc) ?_
 rintro ⟨v18,k2515_0,r4100,r4101,r4102,r4103⟩ sy1 p1
 replace p1:xH a0 t12 v18 k2515_0 r4100 r4101 r4102 r4103=some sy1:=p1
 unfold xH at p1
 refine Q13 ?_
 refine yY p1 (fun p1=>?_) (fun p1=>?_)
 refine Q25 ?_
 have ⟨t20,ht20,p1⟩:=bE p1
 refine q14 S22 ht20 ?_
 refine q99 G37 ht20 ?_
 refine z5L ?_
 refine q13 G37 ?_
 refine zF ?_
 refine zN (z0 (t:=8) (lq rfl) rfl rfl rfl) ?_
 refine Q0 ?_
 refine yK (zA4 (lq rfl) rfl) ?_
 refine q33 G37 ?_
 have ⟨t24,ht24,p1⟩:=bE p1
 refine kN rfl (zJ0 [(3002,2515)] (zFA ht24) (lq rfl) (by decide) rfl ⟨rfl,rfl,rfl,trivial⟩ rfl rfl ⟨rfl,trivial⟩ rfl rfl rfl (fun _=>rfl) rfl) ?_
 refine Q17 ?_
 have ⟨y2,hy2,p1⟩:=bE p1
 refine tl (.exit 2) ⟨[(3,.ptr 3 0),(5,.ptr 5 0),(6,.clo 31 [.d (.pt [(di t12.Variable)]),.ptr 2515 0]),(16,.d (z8 eElement a0)),(17,.d (di (a0.length:Int))),(18,.d (di v18))],[(3,.box 24 [.d (di t12.Strength),.d (di t12.Variable),.d (db t12.Backward),.d (db t12.Identical)]),(5,.box 61 [.row 4100,.row 4101,.row 4102,.row 4103]),(2515,.box 4 [.d (db t24.2)]),(4100,.row 3 eI.size false (eI.all y2.1)),(4101,.row 3 eI.size false (eI.all y2.2.1)),(4102,.row 3 eI.size false (eI.all y2.2.2.1)),(4103,.row 3 eI.size false (eI.all y2.2.2.2))]⟩ ?_ ?_
 refine zE (fun x=>⟨[(3,.ptr 3 0),(5,.ptr 5 0),(6,.clo 31 [.d (.pt [(di t12.Variable)]),.ptr 2515 0]),(16,.d (z8 eElement a0)),(17,.d (di (a0.length:Int))),(18,.d (di v18)),(24,.d (eA4Int.dv t24.1)),(25,.d (di x.1))],[(3,.box 24 [.d (di t12.Strength),.d (di t12.Variable),.d (db t12.Backward),.d (db t12.Identical)]),(5,.box 61 [.row 4100,.row 4101,.row 4102,.row 4103]),(2515,.box 4 [.d (db t24.2)]),(4100,.row 3 eI.size false (eI.all x.2.1)),(4101,.row 3 eI.size false (eI.all x.2.2.1)),(4102,.row 3 eI.size false (eI.all x.2.2.2.1)),(4103,.row 3 eI.size false (eI.all x.2.2.2.2))]⟩) hy2 (wc) ?_
 rintro ⟨v25,r4100,r4101,r4102,r4103⟩ sy2 p2
 replace p2:kX t24 v25 r4100 r4101 r4102 r4103=some sy2:=p2
 unfold kX at p2
 rcases zX1 p2 with ⟨c,p2⟩ | p2
 obtain rfl:v25=0:=c
 refine Q13 ?_
 refine zFI rfl ⟨fun _=>?_,fun c=>(by cases c)⟩
 refine Q5 ?_
 have ⟨y3,hy3,p2⟩:=bE p2
 refine tl .normal ⟨[(3,.ptr 3 0),(5,.ptr 5 0),(6,.clo 31 [.d (.pt [(di t12.Variable)]),.ptr 2515 0]),(16,.d (z8 eElement a0)),(17,.d (di (a0.length:Int))),(18,.d (di v18)),(24,.d (eA4Int.dv t24.1)),(25,.d (di (0:Int)))],[(3,.box 24 [.d (di t12.Strength),.d (di t12.Variable),.d (db t12.Backward),.d (db t12.Identical)]),(5,.box 61 [.row 4100,.row 4101,.row 4102,.row 4103]),(2515,.box 4 [.d (db t24.2)]),(4100,.row 3 eI.size false (eI.all y3)),(4101,.row 3 eI.size false (eI.all r4101)),(4102,.row 3 eI.size false (eI.all r4102)),(4103,.row 3 eI.size false (eI.all r4103))]⟩ ?_ ?_
 refine Q64 ?_
 have ⟨t28,ht28,hy3⟩:=bE hy3
 refine yK (zFP (en:=eI) (l:=[t24.1.x0,t24.1.x1,t24.1.x2,t24.1.x3]) (lq rfl) A64 O3 (fun _=>rfl) rfl rfl rfl ht28) ?_
 refine Q53 ?_
 refine Q33 ?_
 refine yY hy3 (fun hy3=>?_) (fun hy3=>?_)
 refine Q57 ?_
 refine q46 A61 ?_
 refine q24 O32 ?_
 refine q0 ?_
 refine q35 yX ?_
 have ⟨r4100_4,hr4100_4,hy3⟩:=bE hy3
 refine q34 yX hr4100_4 ?_
 refine q46 A61 ?_
 refine q68 O32 ?_
 refine zF ?_
 cases hy3
 exact zJ (wc)
 refine zI ?_
 cases hy3
 exact zJ (wc)
 refine Q16 ?_
 cases p2
 exact wc
 rcases zX1 p2 with ⟨c,p2⟩ | p2
 obtain rfl:v25=1:=c
 refine Q13 ?_
 refine zFI rfl ⟨fun _=>?_,fun c=>(by cases c)⟩
 refine Q5 ?_
 have ⟨y5,hy5,p2⟩:=bE p2
 refine tl .normal ⟨[(3,.ptr 3 0),(5,.ptr 5 0),(6,.clo 31 [.d (.pt [(di t12.Variable)]),.ptr 2515 0]),(16,.d (z8 eElement a0)),(17,.d (di (a0.length:Int))),(18,.d (di v18)),(24,.d (eA4Int.dv t24.1)),(25,.d (di (1:Int)))],[(3,.box 24 [.d (di t12.Strength),.d (di t12.Variable),.d (db t12.Backward),.d (db t12.Identical)]),(5,.box 61 [.row 4100,.row 4101,.row 4102,.row 4103]),(2515,.box 4 [.d (db t24.2)]),(4100,.row 3 eI.size false (eI.all r4100)),(4101,.row 3 eI.size false (eI.all y5)),(4102,.row 3 eI.size false (eI.all r4102)),(4103,.row 3 eI.size false (eI.all r4103))]⟩ ?_ ?_
 refine Q64 ?_
 have ⟨t28,ht28,hy5⟩:=bE hy5
 refine yK (zFP (en:=eI) (l:=[t24.1.x0,t24.1.x1,t24.1.x2,t24.1.x3]) (lq rfl) A64 O3 (fun _=>rfl) rfl rfl rfl ht28) ?_
 refine Q53 ?_
 refine Q33 ?_
 refine yY hy5 (fun hy5=>?_) (fun hy5=>?_)
 refine Q57 ?_
 refine q46 A61 ?_
 refine q24 O32 ?_
 refine q0 ?_
 refine q35 yX ?_
 have ⟨r4101_6,hr4101_6,hy5⟩:=bE hy5
 refine q34 yX hr4101_6 ?_
 refine q46 A61 ?_
 refine q68 O32 ?_
 refine zF ?_
 cases hy5
 exact zJ (wc)
 refine zI ?_
 cases hy5
 exact zJ (wc)
 refine Q16 ?_
 cases p2
 exact wc
 rcases zX1 p2 with ⟨c,p2⟩ | p2
 obtain rfl:v25=2:=c
 refine Q13 ?_
 refine zFI rfl ⟨fun _=>?_,fun c=>(by cases c)⟩
 refine Q5 ?_
 have ⟨y7,hy7,p2⟩:=bE p2
 refine tl .normal ⟨[(3,.ptr 3 0),(5,.ptr 5 0),(6,.clo 31 [.d (.pt [(di t12.Variable)]),.ptr 2515 0]),(16,.d (z8 eElement a0)),(17,.d (di (a0.length:Int))),(18,.d (di v18)),(24,.d (eA4Int.dv t24.1)),(25,.d (di (2:Int)))],[(3,.box 24 [.d (di t12.Strength),.d (di t12.Variable),.d (db t12.Backward),.d (db t12.Identical)]),(5,.box 61 [.row 4100,.row 4101,.row 4102,.row 4103]),(2515,.box 4 [.d (db t24.2)]),(4100,.row 3 eI.size false (eI.all r4100)),(4101,.row 3 eI.size false (eI.all r4101)),(4102,.row 3 eI.size false (eI.all y7)),(4103,.row 3 eI.size false (eI.all r4103))]⟩ ?_ ?_
 refine Q64 ?_
 have ⟨t28,ht28,hy7⟩:=bE hy7
 refine yK (zFP (en:=eI) (l:=[t24.1.x0,t24.1.x1,t24.1.x2,t24.1.x3]) (lq rfl) A64 O3 (fun _=>rfl) rfl rfl rfl ht28) ?_
 refine Q53 ?_
 refine Q33 ?_
 refine yY hy7 (fun hy7=>?_) (fun hy7=>?_)
 refine Q57 ?_
 refine q46 A61 ?_
 refine q24 O32 ?_
 refine q0 ?_
 refine q35 yX ?_
 have ⟨r4102_8,hr4102_8,hy7⟩:=bE hy7
 refine q34 yX hr4102_8 ?_
 refine q46 A61 ?_
 refine q68 O32 ?_
 refine zF ?_
 cases hy7
 exact zJ (wc)
 refine zI ?_
 cases hy7
 exact zJ (wc)
 refine Q16 ?_
 cases p2
 exact wc
 rcases zX1 p2 with ⟨c,p2⟩ | p2
 obtain rfl:v25=3:=c
 refine Q13 ?_
 refine zFI rfl ⟨fun _=>?_,fun c=>(by cases c)⟩
 refine Q5 ?_
 have ⟨y9,hy9,p2⟩:=bE p2
 refine tl .normal ⟨[(3,.ptr 3 0),(5,.ptr 5 0),(6,.clo 31 [.d (.pt [(di t12.Variable)]),.ptr 2515 0]),(16,.d (z8 eElement a0)),(17,.d (di (a0.length:Int))),(18,.d (di v18)),(24,.d (eA4Int.dv t24.1)),(25,.d (di (3:Int)))],[(3,.box 24 [.d (di t12.Strength),.d (di t12.Variable),.d (db t12.Backward),.d (db t12.Identical)]),(5,.box 61 [.row 4100,.row 4101,.row 4102,.row 4103]),(2515,.box 4 [.d (db t24.2)]),(4100,.row 3 eI.size false (eI.all r4100)),(4101,.row 3 eI.size false (eI.all r4101)),(4102,.row 3 eI.size false (eI.all r4102)),(4103,.row 3 eI.size false (eI.all y9))]⟩ ?_ ?_
 refine Q64 ?_
 have ⟨t28,ht28,hy9⟩:=bE hy9
 refine yK (zFP (en:=eI) (l:=[t24.1.x0,t24.1.x1,t24.1.x2,t24.1.x3]) (lq rfl) A64 O3 (fun _=>rfl) rfl rfl rfl ht28) ?_
 refine Q53 ?_
 refine Q33 ?_
 refine yY hy9 (fun hy9=>?_) (fun hy9=>?_)
 refine Q57 ?_
 refine q46 A61 ?_
 refine q24 O32 ?_
 refine q0 ?_
 refine q35 yX ?_
 have ⟨r4103_10,hr4103_10,hy9⟩:=bE hy9
 refine q34 yX hr4103_10 ?_
 refine q46 A61 ?_
 refine q68 O32 ?_
 refine zF ?_
 cases hy9
 exact zJ (wc)
 refine zI ?_
 cases hy9
 exact zJ (wc)
 refine Q16 ?_
 cases p2
 exact wc
 rcases zX1 p2 with ⟨c,p2⟩ | p2
 obtain rfl:v25=4:=c
 refine Q13 ?_
 refine zFI rfl ⟨fun c=>(by cases c),fun _=>?_⟩
 refine zH ?_
 cases p2
 intro q;cases q
 exact zJ (wc)
 cases p2
 refine Q16 ?_
 cases p1
 exact wc
 refine zH ?_
 cases p1
 intro q;cases q
 exact zJ (wc)
 refine Q11 ?_
 refine q41 z70 ?_
 refine q24 O4 ?_
 refine zF ?_
 have ⟨y11,hy11,h⟩:=bE h
 refine tl .normal ⟨[(3,.ptr 3 0),(5,.ptr 5 0)],[(3,.box 24 [.d (di t12.Strength),.d (di t12.Variable),.d (db t12.Backward),.d (db t12.Identical)]),(5,.box 61 [.row 4100,.row 4101,.row 4102,.row 4103]),(4100,.row 3 eI.size false (eI.all y1.1)),(4101,.row 3 eI.size false (eI.all y11)),(4102,.row 3 eI.size false (eI.all y1.2.2.1)),(4103,.row 3 eI.size false (eI.all y1.2.2.2))]⟩ ?_ ?_
 refine yY hy11 (fun hy11=>?_) (fun hy11=>?_)
 refine wY<|q46 A61 ?_
 refine q24 O32 ?_
 have ⟨t45,ht45,hy11⟩:=bE hy11
 refine kN rfl (zBO [(3000,4101)] (zDU ht45) (lq rfl) (by decide) ⟨rfl,trivial⟩ rfl rfl ⟨rfl,trivial⟩ rfl rfl rfl (fun _=>rfl) rfl) ?_
 refine zF ?_
 cases hy11
 exact zJ (wc)
 refine zI ?_
 cases hy11
 exact zJ (wc)
 refine kQ ?_
 refine zN (zCH (bid:=5) (off:=0) rfl rfl rfl) ?_
 refine zN (zCH (bid:=5) (off:=1) rfl rfl rfl) ?_
 refine zN (zCH (bid:=5) (off:=2) rfl rfl rfl) ?_
 refine zN (zCH (bid:=5) (off:=3) rfl rfl rfl) ?_
 refine zN (z0 (t:=5) (lq rfl) rfl rfl rfl) ?_
 refine wY<|q41 zTA ?_
 refine q24 O3 ?_
 have ⟨t48,ht48,h⟩:=bE h
 refine yK (zR6 (en:=(eL eI)) (l:=[({x0:=y1.1,x1:=y11,x2:=y1.2.2.1,x3:=y1.2.2.2}:A4ListInt).x0,({x0:=y1.1,x1:=y11,x2:=y1.2.2.1,x3:=y1.2.2.2}:A4ListInt).x1,({x0:=y1.1,x1:=y11,x2:=y1.2.2.1,x3:=y1.2.2.2}:A4ListInt).x2,({x0:=y1.1,x1:=y11,x2:=y1.2.2.1,x3:=y1.2.2.2}:A4ListInt).x3]) (lq rfl) A61 rfl (by decide) rfl rfl ht48) ?_
 have ⟨r49_12,hr49_12,h⟩:=bE h
 refine kN rfl (zVQ (en:=(eL eI)) (m:=t48) (id:=49) (lq rfl) S29 rfl rfl hr49_12 (by decide) (by decide) rfl rfl) ?_
 refine Q19 ?_
 cases h
 refine zB ?_
 exact zL rfl
theorem zB6 {a0 r} (h:wP a0=some r):zG Tryd.prog 54 [(di a0)] [(db r)]:=by
 refine co Tryd.func54 ?_;intro _ _ _ _
 unfold wP at h
 refine Q54 ?_
 refine q48 ?_
 have ⟨b5,hb5,h⟩:=bE h
 refine yK ((zC (lq rfl) rfl).bool (oi hb5)) ?_
 refine q20 (.d (di a0)) ?_
 refine q76 (.d (db (decide (a0≤65535)))) ?_
 refine Q35 ?_
 cases h
 refine zB ?_
 exact zL rfl
theorem zG9 {a0 r} (h:vZ a0=some r):zG Tryd.prog 75 [(ds a0)] [(db r)]:=by
 refine co Tryd.func75 ?_;intro _ _ _ _
 unfold vZ at h
 refine Q39 ?_
 refine yK (zIL (s:=a0) (lq rfl) Tryd.underlying9 rfl) ?_
 refine Q17 ?_
 have ⟨y1,hy1,h⟩:=bE h
 refine yB y1 (.exit 0) (fun y1=>⟨[(0,.d (ds a0))],[]⟩) .ret (fun y1=>⟨[(2,.d (db y1))],[]⟩) ?_ ?_ ?_
 refine zE (fun x=>⟨[(0,.d (ds a0)),(6,.d (di (a0.length:Int))),(7,.d (di x))],[]⟩) hy1 (wc) ?_
 rintro v7 sy1 p1
 replace p1:jY a0 v7=some sy1:=p1
 unfold jY at p1
 refine Q13 ?_
 refine yY p1 (fun p1=>?_) (fun p1=>?_)
 refine Q9 ?_
 refine Q2 ?_
 refine Q65 ?_
 have ⟨t12,ht12,p1⟩:=bE p1
 refine yK (zKR (s:=a0) (lq rfl) Tryd.underlying9 rfl rfl ht12) ?_
 refine Q10 ?_
 refine q48 ?_
 have ⟨b15,hb15,p1⟩:=bE p1
 refine yK ((zC (lq rfl) rfl).bool (oi hb15)) ?_
 refine q20 (.d (dby t12)) ?_
 refine q76 (.d (db (decide (t12≤90)))) ?_
 refine q16 ?_
 have ⟨b19,hb19,p1⟩:=bE p1
 refine yK ((zC (lq rfl) rfl).bool (oi hb19)) ?_
 refine q21 (.d (dby t12)) ?_
 refine zYD (.d (db (decide (97≤t12)))) ?_
 have ⟨b22,hb22,p1⟩:=bE p1
 refine sqf (.d (db b22)) rfl (fun hb=>by subst hb;exact (zC (lq rfl) rfl).bool (oi hb22)) ?_
 refine zBK (x:= .d (dby t12)) rfl rfl rfl (lq rfl) (lq rfl) rfl (fun hb=>by obtain ⟨hb,hb1⟩:=jO hb;obtain rfl:=gF hb;obtain rfl:b22=true:=hb1;exact zC (lq rfl) rfl) ?_
 refine zBK (x:= .d (db (decide (t12≤122)))) rfl rfl rfl (lq rfl) (lq rfl) rfl (fun hb=>by obtain ⟨hb,hb1⟩:=jO hb;obtain rfl:=gF hb;obtain rfl:b22=true:=hb1;exact zI5 (lq rfl) rfl rfl) ?_
 refine zYE (.d (db (b22&&(decide (t12≤122))))) ?_
 refine q12 ?_
 have ⟨b27,hb27,p1⟩:=bE p1
 refine yK ((zC (lq rfl) rfl).bool (oi hb27)) ?_
 refine q21 (.d (dby t12)) ?_
 refine zYD (.d (db (decide (48≤t12)))) ?_
 have ⟨b30,hb30,p1⟩:=bE p1
 refine sqf (.d (db b30)) rfl (fun hb=>by subst hb;exact (zC (lq rfl) rfl).bool (oi hb30)) ?_
 refine zBK (x:= .d (dby t12)) rfl rfl rfl (lq rfl) (lq rfl) rfl (fun hb=>by obtain ⟨hb,hb1⟩:=jO hb;obtain rfl:=gF hb;obtain rfl:b30=true:=hb1;exact zC (lq rfl) rfl) ?_
 refine zBK (x:= .d (db (decide (t12≤57)))) rfl rfl rfl (lq rfl) (lq rfl) rfl (fun hb=>by obtain ⟨hb,hb1⟩:=jO hb;obtain rfl:=gF hb;obtain rfl:b30=true:=hb1;exact zI5 (lq rfl) rfl rfl) ?_
 refine zYE (.d (db (b30&&(decide (t12≤57))))) ?_
 refine q12 ?_
 have ⟨b35,hb35,p1⟩:=bE p1
 refine yK ((zC (lq rfl) rfl).bool (oi hb35)) ?_
 refine q21 (.d (dby t12)) ?_
 refine q82 (.d (db (decide (t12=95)))) ?_
 refine q12 ?_
 refine Q41 ?_
 refine yY p1 (fun p1=>?_) (fun p1=>?_)
 refine Q22 ?_
 cases p1
 intro q;cases q
 exact ⟨rfl,wc⟩
 refine Q36 ?_
 cases p1
 exact wc
 refine zH ?_
 cases p1
 intro q;cases q
 exact ⟨rfl,wc⟩
 rintro y1 rfl
 replace h:=eL h
 refine Q2 ?_
 refine z1O ?_
 have ⟨b43,hb43,h⟩:=bE h
 refine yK ((zC (lq rfl) rfl).bool (oi hb43)) ?_
 refine q20 (.d (ds a0)) ?_
 refine sqt (.d (di (a0.length:Int))) rfl (fun hb=>by subst hb;exact zIL (s:=a0) (lq rfl) Tryd.underlying9 rfl) ?_
 refine q76 (.d (db (decide ((a0.length:Int)≤32)))) ?_
 refine Q35 ?_
 cases h
 refine zB ?_
 exact zL rfl
 rintro y1 rfl
 replace h:=eR h
 cases h
 exact zL rfl
theorem zD6 {a0 r} (h:j7 a0=some r):zG Tryd.prog 55 [(eCollation.dv a0)] [(di r)]:=by
 refine co Tryd.func55 ?_;intro _ _ _ _
 unfold j7 at h
 refine Q0 ?_
 refine q83 ?_
 refine Q48 ?_
 refine q5 zJF ?_
 refine q3 O47 ?_
 refine q6 S47 ?_
 refine Q17 ?_
 have ⟨y1,hy1,h⟩:=bE h
 refine yB y1 (.exit 0) (fun y1=>⟨[(1,.d (.pt (eCollation.cells a0)))],[]⟩) .ret (fun y1=>⟨[(2,.d (di y1))],[]⟩) ?_ ?_ ?_
 refine zE (fun x=>⟨[(1,.d (.pt (eCollation.cells a0))),(13,.d (z8 eGroup a0.Groups)),(14,.d (di (a0.Groups.length:Int))),(15,.d (di x))],[]⟩) hy1 (wc) ?_
 rintro v15 sy1 p1
 replace p1:k4 a0 v15=some sy1:=p1
 unfold k4 at p1
 refine Q13 ?_
 refine yY p1 (fun p1=>?_) (fun p1=>?_)
 refine Q25 ?_
 have ⟨t17,ht17,p1⟩:=bE p1
 refine q14 S47 ht17 ?_
 refine z1R G80 ht17 ?_
 refine z1S ?_
 refine q13 G80 ?_
 refine zF ?_
 refine zN (z0 (t:=4) (lq rfl) rfl rfl rfl) ?_
 refine Q0 ?_
 refine q5 zTG ?_
 refine q3 O9 ?_
 have ⟨t21,ht21,p1⟩:=bE p1
 refine q7 (zG9 ht21) ?_
 refine Q41 ?_
 refine yY p1 (fun p1=>?_) (fun p1=>?_)
 refine Q22 ?_
 cases p1
 intro q;cases q
 exact ⟨rfl,wc⟩
 refine Q36 ?_
 cases p1
 exact wc
 refine zH ?_
 cases p1
 intro q;cases q
 exact ⟨rfl,wc⟩
 rintro y1 rfl
 replace h:=eL h
 refine Q0 ?_
 refine zYF ?_
 refine Q19 ?_
 refine Q11 ?_
 refine q5 zJF ?_
 refine q3 O47 ?_
 refine q6 S47 ?_
 refine Q17 ?_
 have ⟨y2,hy2,h⟩:=bE h
 refine yB y2 (.exit 2) (fun y2=>⟨[(1,.d (.pt (eCollation.cells a0)))],[]⟩) .ret (fun y2=>⟨[(2,.d (di y2))],[]⟩) ?_ ?_ ?_
 refine zE (fun x=>⟨[(1,.d (.pt (eCollation.cells a0))),(5,.row 24),(26,.d (z8 eGroup a0.Groups)),(27,.d (di (a0.Groups.length:Int))),(28,.d (di x.1))],[(24,.map (xL kS eB x.2))]⟩) hy2 (wc) ?_
 rintro ⟨v28,r24⟩ sy2 p2
 replace p2:kL a0 v28 r24=some sy2:=p2
 unfold kL at p2
 refine Q13 ?_
 refine yY p2 (fun p2=>?_) (fun p2=>?_)
 refine Q25 ?_
 have ⟨t30,ht30,p2⟩:=bE p2
 refine q14 S47 ht30 ?_
 refine z1R G80 ht30 ?_
 refine z1S ?_
 refine q13 G80 ?_
 refine zF ?_
 refine zN (z0 (t:=7) (lq rfl) rfl rfl rfl) ?_
 refine Q11 ?_
 refine q9 ?_
 refine q5 zTG ?_
 refine q3 O9 ?_
 refine yK (zXL (kv:=kS) (ev:=eB) (mp:=r24) (k:=t30.Name) (zero:=false) (lq rfl) z72 K9 rfl rfl rfl (fun _ _=> .v _)) ?_
 refine zF ?_
 refine yY p2 (fun p2=>?_) (fun p2=>?_)
 refine Q22 ?_
 cases p2
 intro q;cases q
 exact ⟨rfl,wc⟩
 refine zI<|Q29 ?_
 refine q5 zTG ?_
 refine q3 O9 ?_
 refine z1T z72 K9 ?_
 refine zF<|Q16 ?_
 cases p2
 exact wc
 refine zH ?_
 cases p2
 intro q;cases q
 exact ⟨rfl,wc⟩
 rintro y2 rfl
 replace h:=eL h
 refine Q11 ?_
 refine q5 zJF ?_
 refine q3 O47 ?_
 refine q6 S47 ?_
 refine Q17 ?_
 have ⟨y3,hy3,h⟩:=bE h
 refine yB y3 (.exit 4) (fun y3=>⟨[(1,.d (.pt (eCollation.cells a0)))],[]⟩) .ret (fun y3=>⟨[(2,.d (di y3))],[]⟩) ?_ ?_ ?_
 refine zE (fun x=>⟨[(1,.d (.pt (eCollation.cells a0))),(41,.d (z8 eGroup a0.Groups)),(42,.d (di (a0.Groups.length:Int))),(43,.d (di x))],[]⟩) hy3 (wc) ?_
 rintro v43 sy3 p3
 replace p3:k5 a0 v43=some sy3:=p3
 unfold k5 at p3
 refine Q13 ?_
 refine yY p3 (fun p3=>?_) (fun p3=>?_)
 refine Q25 ?_
 have ⟨t45,ht45,p3⟩:=bE p3
 refine q14 S47 ht45 ?_
 refine z1R G80 ht45 ?_
 refine z1S ?_
 refine q13 G80 ?_
 refine zF ?_
 refine zN (z0 (t:=9) (lq rfl) rfl rfl rfl) ?_
 refine Q0 ?_
 refine q5 zX6 ?_
 refine Q72 ?_
 have ⟨b50,hb50,p3⟩:=bE p3
 refine yK ((zC (lq rfl) rfl).bool (oi hb50)) ?_
 refine q18 (.ip (eGroup.cells t45) (0+2)) zX7 ?_
 refine q19 (.d (di t45.Hi)) O3 ?_
 refine q18 (.ip (eGroup.cells t45) (0+1)) zX6 ?_
 refine q19 (.d (di t45.Lo)) O3 ?_
 refine q84 (.d (db (decide (t45.Hi < t45.Lo)))) ?_
 refine q12 ?_
 have ⟨b57,hb57,p3⟩:=bE p3
 refine yK ((zC (lq rfl) rfl).bool (oi hb57)) ?_
 refine q18 (.ip (eGroup.cells t45) (0+2)) zX7 ?_
 refine q19 (.d (di t45.Hi)) O3 ?_
 refine q18 (.ip (eCollation.cells a0) (0+2)) zQA ?_
 refine q19 (.d (di a0.Base)) O3 ?_
 refine zYD (.d (db (decide (a0.Base≤t45.Hi)))) ?_
 refine Q26 ?_
 refine yY p3 (fun p3=>?_) (fun p3=>?_)
 refine Q22 ?_
 cases p3
 intro q;cases q
 exact ⟨rfl,wc⟩
 refine Q36 ?_
 cases p3
 exact wc
 refine zH ?_
 cases p3
 intro q;cases q
 exact ⟨rfl,wc⟩
 rintro y3 rfl
 replace h:=eL h
 refine Q11 ?_
 refine q5 zJF ?_
 refine q3 O47 ?_
 refine q6 S47 ?_
 refine Q17 ?_
 have ⟨y4,hy4,h⟩:=bE h
 refine yB y4 (.exit 6) (fun y4=>⟨[],[]⟩) .ret (fun y4=>⟨[(2,.d (di y4))],[]⟩) ?_ ?_ ?_
 refine zE (fun x=>⟨[(1,.d (.pt (eCollation.cells a0))),(66,.d (z8 eGroup a0.Groups)),(67,.d (di (a0.Groups.length:Int))),(68,.d (di x))],[]⟩) hy4 (wc) ?_
 rintro v68 sy4 p4
 replace p4:k6 a0 v68=some sy4:=p4
 unfold k6 at p4
 refine Q13 ?_
 refine yY p4 (fun p4=>?_) (fun p4=>?_)
 refine Q9 ?_
 refine Q2 ?_
 have ⟨t71,ht71,p4⟩:=bE p4
 refine q14 S47 ht71 ?_
 refine z1R G80 ht71 ?_
 refine z1S ?_
 refine q1 ?_
 refine q13 G80 ?_
 refine zF ?_
 refine zN (z0 (t:=11) (lq rfl) rfl rfl rfl) ?_
 refine kQ ?_
 refine kH MX rfl ?_
 refine q8 ?_
 refine q85 ?_
 have ⟨b75,hb75,p4⟩:=bE p4
 refine daa ((zC (lq rfl) rfl).bool (oi hb75)) ?_
 refine q86 (.ip (eGroup.cells t71) (0+1)) zX6 ?_
 refine q87 (.d (di t71.Lo)) O3 ?_
 refine q86 (.ip (eCollation.cells a0) (0+1)) zJF ?_
 refine q87 (.d (z8 eGroup a0.Groups)) O47 ?_
 refine q54 (.d (di v68)) ?_
 refine zYG (.d (di (wi (v68 - 1)))) ?_
 have ⟨t82,ht82,p4⟩:=bE p4
 refine dat (.ip (eGroup.all a0.Groups) ((wi (v68 - 1)).toNat*eGroup.size)) rfl (fun hb=>by subst hb;exact zBV (en:=eGroup) (lq rfl) S47 rfl rfl ht82) ?_
 refine dat (.ip (eGroup.all a0.Groups) ((wi (v68 - 1)).toNat*eGroup.size+2)) rfl (fun hb=>by subst hb;exact vW (lq rfl) zX7 rfl) ?_
 refine dat (.d (di t82.Hi)) rfl (fun hb=>by subst hb;exact wU (en:=eGroup) (l:=a0.Groups) (i:=(wi (v68 - 1))) (v:=t82) (off:=2) (lq rfl) O3 rfl ht82 rfl) ?_
 refine dat (.d (di (wi (t82.Hi+1)))) rfl (fun hb=>by subst hb;exact zPR (lq rfl) rfl rfl) ?_
 refine dat (.d (db (!decide (t71.Lo=(wi (t82.Hi+1)))))) rfl (fun hb=>by subst hb;exact zME (lq rfl) rfl rfl) ?_
 refine q69 ?_
 refine wZ ?_
 refine yY p4 (fun p4=>?_) (fun p4=>?_)
 refine Q22 ?_
 cases p4
 intro q;cases q
 exact ⟨rfl,wc⟩
 refine Q36 ?_
 cases p4
 exact wc
 refine zH ?_
 cases p4
 intro q;cases q
 exact ⟨rfl,wc⟩
 rintro y4 rfl
 replace h:=eL h
 refine Q3 ?_
 cases h
 refine zB ?_
 exact zL rfl
 rintro y4 rfl
 replace h:=eR h
 cases h
 exact zL rfl
 rintro y3 rfl
 replace h:=eR h
 cases h
 exact zL rfl
 rintro y2 rfl
 replace h:=eR h
 cases h
 exact zL rfl
 rintro y1 rfl
 replace h:=eR h
 cases h
 exact zL rfl
theorem u0 {a0 r} (h:xY a0=some r):zG Tryd.prog 64 [(di a0)] [(db r)]:=by
 refine co Tryd.func64 ?_;intro _ _ _ _
 unfold xY at h
 refine Q54 ?_
 refine q48 ?_
 have ⟨b5,hb5,h⟩:=bE h
 refine yK ((zC (lq rfl) rfl).bool (oi hb5)) ?_
 refine q20 (.d (di a0)) ?_
 refine q76 (.d (db (decide (a0≤1114111)))) ?_
 refine Q35 ?_
 cases h
 refine zB ?_
 exact zL rfl
theorem zJP {a0 r} (h:zAS a0=some r):zG Tryd.prog 76 [(eElement.dv a0)] [(di r)]:=by
 refine co Tryd.func76 ?_;intro _ _ _ _
 unfold zAS at h
 refine Q61 ?_
 refine Q48 ?_
 refine Q62 ?_
 refine q5 zTC ?_
 refine q3 O3 ?_
 refine q5 zTD ?_
 refine q3 O3 ?_
 refine q59 zIP ?_
 refine Q17 ?_
 have ⟨y1,hy1,h⟩:=bE h
 refine yB y1 (.exit 0) (fun y1=>⟨[(1,.d (.pt (eElement.cells a0)))],[]⟩) .ret (fun y1=>⟨[(2,.d (di y1))],[]⟩) ?_ ?_ ?_
 refine zE (fun x=>⟨[(1,.d (.pt (eElement.cells a0))),(11,.d (eA3Int.dv ({x0:=a0.Primary,x1:=a0.Secondary,x2:=a0.Tertiary}:A3Int))),(12,.d (di x))],[]⟩) hy1 (wc) ?_
 rintro v12 sy1 p1
 replace p1:wE a0 v12=some sy1:=p1
 unfold wE at p1
 refine Q13 ?_
 refine yY p1 (fun p1=>?_) (fun p1=>?_)
 refine Q25 ?_
 have ⟨t14,ht14,p1⟩:=bE p1
 refine yK (zFP (en:=eI) (l:=[({x0:=a0.Primary,x1:=a0.Secondary,x2:=a0.Tertiary}:A3Int).x0,({x0:=a0.Primary,x1:=a0.Secondary,x2:=a0.Tertiary}:A3Int).x1,({x0:=a0.Primary,x1:=a0.Secondary,x2:=a0.Tertiary}:A3Int).x2]) (lq rfl) zIP O3 (fun _=>rfl) rfl rfl rfl ht14) ?_
 refine Q10 ?_
 refine q2 ?_
 have ⟨b17,hb17,p1⟩:=bE p1
 refine yK ((zC (lq rfl) rfl).bool (oi hb17)) ?_
 refine q21 (.d (di t14)) ?_
 refine q32 (.d (db (decide (65535 < t14)))) ?_
 refine Q26 ?_
 refine yY p1 (fun p1=>?_) (fun p1=>?_)
 refine Q22 ?_
 cases p1
 intro q;cases q
 exact ⟨rfl,wc⟩
 refine Q36 ?_
 cases p1
 exact wc
 refine zH ?_
 cases p1
 intro q;cases q
 exact ⟨rfl,wc⟩
 rintro y1 rfl
 replace h:=eL h
 refine Q42 ?_
 refine Q0 ?_
 refine Q62 ?_
 refine q29 ?_
 have ⟨b26,hb26,h⟩:=bE h
 refine yK ((zC (lq rfl) rfl).bool (oi hb26)) ?_
 refine q52 (.ip (eElement.cells a0) (0+1)) zTC ?_
 refine q55 (.d (di a0.Secondary)) O3 ?_
 refine q62 (.d (db (decide (a0.Secondary=0)))) ?_
 have ⟨b30,hb30,h⟩:=bE h
 refine sqt (.d (db b30)) rfl (fun hb=>by subst hb;exact (zC (lq rfl) rfl).bool (oi hb30)) ?_
 refine zBK (x:= .ip (eElement.cells a0) (0+2)) rfl rfl rfl (lq rfl) (lq rfl) rfl (fun hb=>by obtain ⟨hb,hb1⟩:=jO hb;obtain rfl:b26=true:=hb;obtain rfl:=gF hb1;exact zA7 (lq rfl) zTD rfl) ?_
 refine zBK (x:= .d (di a0.Tertiary)) rfl rfl rfl (lq rfl) (lq rfl) rfl (fun hb=>by obtain ⟨hb,hb1⟩:=jO hb;obtain rfl:b26=true:=hb;obtain rfl:=gF hb1;exact zAG (lq rfl) O3 rfl rfl) ?_
 refine zBK (x:= .d (db (decide (a0.Tertiary=0)))) rfl rfl rfl (lq rfl) (lq rfl) rfl (fun hb=>by obtain ⟨hb,hb1⟩:=jO hb;obtain rfl:b26=true:=hb;obtain rfl:=gF hb1;exact zMD (lq rfl) rfl rfl) ?_
 refine sqt (.d (db (b30 ||(decide (a0.Tertiary=0))))) rfl (fun hb=>by subst hb;exact zMG (lq rfl) rfl rfl) ?_
 refine Q35 ?_
 refine yY h (fun h=>?_) (fun h=>?_)
 refine Q3 ?_
 cases h
 refine zB ?_
 exact zL rfl
 refine Q0 ?_
 refine q5 zTC ?_
 refine q3 O3 ?_
 refine q29 ?_
 have ⟨b40,hb40,h⟩:=bE h
 refine yK ((zC (lq rfl) rfl).bool (oi hb40)) ?_
 refine q52 (.ip (eElement.cells a0) (0+2)) zTD ?_
 refine q55 (.d (di a0.Tertiary)) O3 ?_
 refine q62 (.d (db (decide (a0.Tertiary=0)))) ?_
 refine Q35 ?_
 refine yY h (fun h=>?_) (fun h=>?_)
 refine Q3 ?_
 cases h
 refine zB ?_
 exact zL rfl
 refine Q0 ?_
 refine q5 z3K ?_
 refine q3 O4 ?_
 have ⟨b48,hb48,h⟩:=bE h
 refine yK ((zC (lq rfl) rfl).bool (oi hb48)) ?_
 refine q52 (.ip (eElement.cells a0) (0+0)) z3J ?_
 refine q55 (.d (di a0.Primary)) O3 ?_
 refine q62 (.d (db (decide (a0.Primary=0)))) ?_
 refine Q35 ?_
 refine yY h (fun h=>?_) (fun h=>?_)
 refine Q3 ?_
 cases h
 refine zB ?_
 exact zL rfl
 refine Q43 ?_
 cases h
 refine zB ?_
 exact zL rfl
 rintro y1 rfl
 replace h:=eR h
 cases h
 exact zL rfl
theorem zET {a0 a1 r} (h:xM a0 a1=some r):zG Tryd.prog 56 [(eEntry.dv a0),(di a1)] [(di r)]:=by
 refine co Tryd.func56 ?_;intro _ _ _ _
 unfold xM at h
 refine Q0 ?_
 refine yK (zHS (size:=2) (lq rfl) rfl rfl) ?_
 refine Q48 ?_
 refine q5 zJG ?_
 refine q3 O32 ?_
 refine q6 yX ?_
 refine q2 ?_
 have ⟨b16,hb16,h⟩:=bE h
 refine yK ((zC (lq rfl) rfl).bool (oi hb16)) ?_
 refine q18 (.ip (eEntry.cells a0) (0+0)) zJG ?_
 refine q19 (.d (z8 eI a0.Codes)) O32 ?_
 refine q53 (.d (di (a0.Codes.length:Int))) yX ?_
 refine q32 (.d (db (decide (8 < (a0.Codes.length:Int))))) ?_
 refine q12 ?_
 have ⟨b22,hb22,h⟩:=bE h
 refine yK ((zC (lq rfl) rfl).bool (oi hb22)) ?_
 refine q18 (.ip (eEntry.cells a0) (0+1)) zQD ?_
 refine q19 (.d (z8 eElement a0.Elements)) O22 ?_
 refine q53 (.d (di (a0.Elements.length:Int))) S22 ?_
 refine q32 (.d (db (decide (16 < (a0.Elements.length:Int))))) ?_
 refine Q26 ?_
 refine yY h (fun h=>?_) (fun h=>?_)
 refine Q3 ?_
 cases h
 refine zB ?_
 exact zL rfl
 refine Q55 ?_
 refine q5 zJG ?_
 refine q3 O32 ?_
 refine Q58 ?_
 have ⟨y1,hy1,h⟩:=bE h
 refine yB y1 (.exit 0) (fun y1=>⟨[(1,.d (di a1)),(2,.d (.pt (eEntry.cells a0)))],[]⟩) .ret (fun y1=>⟨[(4,.d (di y1))],[]⟩) ?_ ?_ ?_
 refine zE (fun x=>⟨[(1,.d (di a1)),(2,.d (.pt (eEntry.cells a0))),(29,.d (z8 eI a0.Codes)),(30,.d (di (a0.Codes.length:Int))),(31,.d (di x))],[]⟩) hy1 (wc) ?_
 rintro v31 sy1 p1
 replace p1:jD a0 v31=some sy1:=p1
 unfold jD at p1
 refine Q13 ?_
 refine yY p1 (fun p1=>?_) (fun p1=>?_)
 refine Q25 ?_
 have ⟨t33,ht33,p1⟩:=bE p1
 refine q14 yX ht33 ?_
 refine q49 O3 ht33 ?_
 refine Q10 ?_
 have ⟨t36,ht36,p1⟩:=bE p1
 refine q7 (u0 ht36) ?_
 refine Q41 ?_
 refine yY p1 (fun p1=>?_) (fun p1=>?_)
 refine Q22 ?_
 cases p1
 intro q;cases q
 exact ⟨rfl,wc⟩
 refine Q36 ?_
 cases p1
 exact wc
 refine zH ?_
 cases p1
 intro q;cases q
 exact ⟨rfl,wc⟩
 rintro y1 rfl
 replace h:=eL h
 refine Q11 ?_
 refine q5 zQD ?_
 refine q3 O22 ?_
 refine q6 S22 ?_
 refine Q17 ?_
 have ⟨y2,hy2,h⟩:=bE h
 refine yB y2 (.exit 2) (fun y2=>⟨[(1,.d (di a1)),(2,.d (.pt (eEntry.cells a0)))],[]⟩) .ret (fun y2=>⟨[(4,.d (di y2))],[]⟩) ?_ ?_ ?_
 refine zE (fun x=>⟨[(1,.d (di a1)),(2,.d (.pt (eEntry.cells a0))),(40,.d (z8 eElement a0.Elements)),(41,.d (di (a0.Elements.length:Int))),(42,.d (di x))],[]⟩) hy2 (wc) ?_
 rintro v42 sy2 p2
 replace p2:jE a0 v42=some sy2:=p2
 unfold jE at p2
 refine Q13 ?_
 refine yY p2 (fun p2=>?_) (fun p2=>?_)
 refine Q25 ?_
 have ⟨t44,ht44,p2⟩:=bE p2
 refine q14 S22 ht44 ?_
 refine q99 G37 ht44 ?_
 refine z5L ?_
 refine q13 G37 ?_
 refine zF ?_
 refine zN (z0 (t:=8) (lq rfl) rfl rfl rfl) ?_
 refine Q0 ?_
 refine q33 G37 ?_
 have ⟨t47,ht47,p2⟩:=bE p2
 refine q7 (zJP ht47) ?_
 refine Q10 ?_
 refine Q33 ?_
 refine yY p2 (fun p2=>?_) (fun p2=>?_)
 refine Q32 ?_
 refine zB ?_
 cases p2
 intro q;cases q
 exact ⟨rfl,wc⟩
 refine Q36 ?_
 cases p2
 exact wc
 refine zH ?_
 cases p2
 intro q;cases q
 exact ⟨rfl,wc⟩
 rintro y2 rfl
 replace h:=eL h
 refine Q11 ?_
 refine q5 zQD ?_
 refine q3 O22 ?_
 refine q6 S22 ?_
 refine Q17 ?_
 have ⟨y3,hy3,h⟩:=bE h
 refine yB y3 (.exit 4) (fun y3=>⟨[],[]⟩) .ret (fun y3=>⟨[(4,.d (di y3))],[]⟩) ?_ ?_ ?_
 refine zE (fun x=>⟨[(1,.d (di a1)),(53,.d (z8 eElement a0.Elements)),(54,.d (di (a0.Elements.length:Int))),(55,.d (di x))],[]⟩) hy3 (wc) ?_
 rintro v55 sy3 p3
 replace p3:jF a0 a1 v55=some sy3:=p3
 unfold jF at p3
 refine Q13 ?_
 refine yY p3 (fun p3=>?_) (fun p3=>?_)
 refine Q25 ?_
 have ⟨t57,ht57,p3⟩:=bE p3
 refine q14 S22 ht57 ?_
 refine q99 G37 ht57 ?_
 refine z5L ?_
 refine q13 G37 ?_
 refine zF ?_
 refine zN (z0 (t:=11) (lq rfl) rfl rfl rfl) ?_
 refine Q0 ?_
 refine Q62 ?_
 refine q0 ?_
 refine q48 ?_
 refine zF ?_
 refine yY p3 (fun p3=>?_) (fun p3=>?_)
 refine Q22 ?_
 cases p3
 intro q;cases q
 exact ⟨rfl,wc⟩
 refine Q36 ?_
 cases p3
 exact wc
 refine zH ?_
 cases p3
 intro q;cases q
 exact ⟨rfl,wc⟩
 rintro y3 rfl
 replace h:=eL h
 refine Q3 ?_
 cases h
 refine zB ?_
 exact zL rfl
 rintro y3 rfl
 replace h:=eR h
 cases h
 exact zL rfl
 rintro y2 rfl
 replace h:=eR h
 cases h
 exact zL rfl
 rintro y1 rfl
 replace h:=eR h
 cases h
 exact zL rfl
theorem zE3 {a0 r} (h:zAT a0=some r):zG Tryd.prog 72 [(di a0)] [(db r)]:=by
 refine co Tryd.func72 ?_;intro _ _ _ _
 unfold zAT at h
 refine Q3 ?_
 refine Q28 ?_
 refine q29 ?_
 refine Q1 ?_
 cases h
 refine zB ?_
 exact zL rfl
theorem jX {a0 a1 r} (h:kZ a0 a1=some r):zG Tryd.prog 52 [(di a0),(di a1)] [(di r)]:=by
 refine co Tryd.func52 ?_;intro _ _ _ _
 unfold kZ at h
 refine Q54 ?_
 have ⟨t8,ht8,h⟩:=bE h
 refine q7 (zE3 ht8) ?_
 refine Q10 ?_
 have ⟨t10,ht10,h⟩:=bE h
 refine q7 (zE3 ht10) ?_
 refine Q1 ?_
 refine Q74 ?_
 refine yY h (fun h=>?_) (fun h=>?_)
 refine Q74 ?_
 refine yY h (fun h=>?_) (fun h=>?_)
 refine Q3 ?_
 cases h
 refine zB ?_
 exact zL rfl
 refine Q43 ?_
 cases h
 refine zB ?_
 exact zL rfl
 refine zI<|Q74 ?_
 refine yY h (fun h=>?_) (fun h=>?_)
 refine Q3 ?_
 cases h
 refine zB ?_
 exact zL rfl
 refine zI<|Q49 ?_
 refine yY h (fun h=>?_) (fun h=>?_)
 refine Q3 ?_
 cases h
 refine zB ?_
 exact zL rfl
 refine zI<|Q14 ?_
 refine Q46 ?_
 refine yY h (fun h=>?_) (fun h=>?_)
 refine Q3 ?_
 cases h
 refine zB ?_
 exact zL rfl
 refine Q43 ?_
 cases h
 refine zB ?_
 exact zL rfl
theorem zGJ {a0 a1 r} (h:vI a0 a1=some r):zG Tryd.prog 57 [(z8 eI a0),(z8 eI a1)] [(di r)]:=by
 refine co Tryd.func57 ?_;intro _ _ _ _
 unfold vI at h
 refine Q39 ?_
 refine q6 yX ?_
 refine q0 ?_
 refine q6 yX ?_
 refine z1U ?_
 refine Q17 ?_
 have ⟨y1,hy1,h⟩:=bE h
 refine yB y1 (.exit 0) (fun y1=>⟨[(0,.d (z8 eI a0)),(1,.d (z8 eI a1))],[]⟩) .ret (fun y1=>⟨[(4,.d (di y1))],[]⟩) ?_ ?_ ?_
 refine zE (fun x=>⟨[(0,.d (z8 eI a0)),(1,.d (z8 eI a1)),(10,.d (di (min (a0.length:Int) (a1.length:Int)))),(11,.d (di x))],[]⟩) hy1 (wc) ?_
 rintro v11 sy1 p1
 replace p1:jQ a0 a1 v11=some sy1:=p1
 unfold jQ at p1
 refine Q13 ?_
 refine yY p1 (fun p1=>?_) (fun p1=>?_)
 refine Q9 ?_
 refine Q32 ?_
 refine kQ ?_
 refine kH MX rfl ?_
 refine Q38 ?_
 have ⟨t16,ht16,p1⟩:=bE p1
 refine q42 yX ht16 ?_
 refine q70 O3 ht16 ?_
 refine Q38 ?_
 have ⟨t20,ht20,p1⟩:=bE p1
 refine q42 yX ht20 ?_
 refine q70 O3 ht20 ?_
 refine daa (zME (lq rfl) rfl rfl) ?_
 refine wZ ?_
 refine yY p1 (fun p1=>?_) (fun p1=>?_)
 refine kQ ?_
 refine kH MX rfl ?_
 refine Q38 ?_
 have ⟨t25,ht25,p1⟩:=bE p1
 refine q42 yX ht25 ?_
 refine q70 O3 ht25 ?_
 refine Q38 ?_
 have ⟨t29,ht29,p1⟩:=bE p1
 refine q42 yX ht29 ?_
 refine q70 O3 ht29 ?_
 have ⟨t31,ht31,p1⟩:=bE p1
 refine q26 (jX ht31) ?_
 refine Q50 ?_
 refine zB ?_
 cases p1
 intro q;cases q
 exact ⟨rfl,wc⟩
 refine Q36 ?_
 cases p1
 exact wc
 refine zH ?_
 cases p1
 intro q;cases q
 exact ⟨rfl,wc⟩
 rintro y1 rfl
 replace h:=eL h
 refine Q2 ?_
 refine q6 yX ?_
 refine q0 ?_
 refine q6 yX ?_
 have ⟨t37,ht37,h⟩:=bE h
 refine q7 (jX ht37) ?_
 refine Q1 ?_
 cases h
 refine zB ?_
 exact zL rfl
 rintro y1 rfl
 replace h:=eR h
 cases h
 exact zL rfl
theorem zH1 {a0 r} (h:w8 a0=some r):zG Tryd.prog 39 [(eCollation.dv a0)] [(di r)]:=by
 refine co Tryd.func39 ?_;intro _ _ _ _
 unfold w8 at h
 refine Q0 ?_
 refine q83 ?_
 refine Q48 ?_
 refine q5 zQA ?_
 refine Q72 ?_
 have ⟨b10,hb10,h⟩:=bE h
 refine yK ((zC (lq rfl) rfl).bool (oi hb10)) ?_
 refine q18 (.ip (eCollation.cells a0) (0+2)) zQA ?_
 refine q19 (.d (di a0.Base)) O3 ?_
 refine q32 (.d (db (decide (65502 < a0.Base)))) ?_
 refine q12 ?_
 have ⟨b15,hb15,h⟩:=bE h
 refine yK ((zC (lq rfl) rfl).bool (oi hb15)) ?_
 refine q18 (.ip (eCollation.cells a0) (0+3)) z3M ?_
 refine q19 (.d (di a0.Second)) O3 ?_
 have ⟨t18,ht18,h⟩:=bE h
 refine sqf (.d (db t18)) rfl (fun hb=>by subst hb;exact uK (lq rfl) rfl (zB6 ht18)) ?_
 refine q88 (.d (db (!t18))) ?_
 refine q12 ?_
 have ⟨b21,hb21,h⟩:=bE h
 refine yK ((zC (lq rfl) rfl).bool (oi hb21)) ?_
 refine q18 (.ip (eCollation.cells a0) (0+4)) z3N ?_
 refine q19 (.d (di a0.Third)) O3 ?_
 have ⟨t24,ht24,h⟩:=bE h
 refine sqf (.d (db t24)) rfl (fun hb=>by subst hb;exact uK (lq rfl) rfl (zB6 ht24)) ?_
 refine q88 (.d (db (!t24))) ?_
 refine Q26 ?_
 refine yY h (fun h=>?_) (fun h=>?_)
 refine Q3 ?_
 cases h
 refine zB ?_
 exact zL rfl
 refine Q55 ?_
 refine q33 G49 ?_
 have ⟨t28,ht28,h⟩:=bE h
 refine q7 (zD6 ht28) ?_
 refine Q10 ?_
 refine Q33 ?_
 refine yY h (fun h=>?_) (fun h=>?_)
 refine Q32 ?_
 cases h
 refine zB ?_
 exact zL rfl
 refine Q55 ?_
 refine q5 zKY ?_
 refine q3 O46 ?_
 refine q6 S46 ?_
 refine Q17 ?_
 have ⟨y1,hy1,h⟩:=bE h
 refine yB y1 (.exit 0) (fun y1=>⟨[],[]⟩) .ret (fun y1=>⟨[(2,.d (di y1))],[]⟩) ?_ ?_ ?_
 refine zE (fun x=>⟨[(1,.d (.pt (eCollation.cells a0))),(33,.d (z8 eEntry a0.Entries)),(34,.d (di (a0.Entries.length:Int))),(35,.d (di x))],[]⟩) hy1 (wc) ?_
 rintro v35 sy1 p1
 replace p1:xB a0 v35=some sy1:=p1
 unfold xB at p1
 refine Q13 ?_
 refine yY p1 (fun p1=>?_) (fun p1=>?_)
 refine Q9 ?_
 refine Q2 ?_
 have ⟨t38,ht38,p1⟩:=bE p1
 refine q14 S46 ht38 ?_
 refine yK (wN (en:=eEntry) (l:=a0.Entries) (i:=v35) (v:=t38) (off:=0) (lq rfl) G58 rfl ht38 rfl rfl (by decide)) ?_
 refine kN rfl (yN (zs:=[(.slice none 0 0),(.slice none 0 0)]) (lq rfl) (by kernel_rfl) rfl rfl) ?_
 refine q1 ?_
 refine q13 G58 ?_
 refine zF ?_
 refine zN (z0 (t:=5) (lq rfl) rfl rfl rfl) ?_
 refine Q11 ?_
 refine q33 G58 ?_
 refine q5 zQA ?_
 refine q3 O3 ?_
 have ⟨t43,ht43,p1⟩:=bE p1
 refine q7 (zET ht43) ?_
 refine Q10 ?_
 refine Q33 ?_
 refine yY p1 (fun p1=>?_) (fun p1=>?_)
 refine Q32 ?_
 refine zB ?_
 cases p1
 intro q;cases q
 exact ⟨rfl,wc⟩
 refine Q5 ?_
 refine kH MX rfl ?_
 refine q8 ?_
 refine q85 ?_
 have ⟨b49,hb49,p1⟩:=bE p1
 refine daa ((zC (lq rfl) rfl).bool (oi hb49)) ?_
 refine q86 (.ip (eCollation.cells a0) (0+0)) zKY ?_
 refine q87 (.d (z8 eEntry a0.Entries)) O46 ?_
 refine q54 (.d (di v35)) ?_
 refine zYG (.d (di (wi (v35 - 1)))) ?_
 have ⟨t54,ht54,p1⟩:=bE p1
 refine dat (.ip (eEntry.all a0.Entries) ((wi (v35 - 1)).toNat*eEntry.size)) rfl (fun hb=>by subst hb;exact zBV (en:=eEntry) (lq rfl) S46 rfl rfl ht54) ?_
 refine dat (.ip (eEntry.all a0.Entries) ((wi (v35 - 1)).toNat*eEntry.size+0)) rfl (fun hb=>by subst hb;exact vW (lq rfl) zJG rfl) ?_
 refine dat (.d (z8 eI t54.Codes)) rfl (fun hb=>by subst hb;exact wU (en:=eEntry) (l:=a0.Entries) (i:=(wi (v35 - 1))) (v:=t54) (off:=0) (lq rfl) O32 rfl ht54 rfl) ?_
 refine q86 (.ip (eEntry.cells t38) (0+0)) zJG ?_
 refine q87 (.d (z8 eI t38.Codes)) O32 ?_
 have ⟨t59,ht59,p1⟩:=bE p1
 refine dat (.d (di t59)) rfl (fun hb=>by subst hb;exact uK (lq rfl) rfl (zGJ ht59)) ?_
 refine dat (.d (db (decide (0≤t59)))) rfl (fun hb=>by subst hb;exact zKK (lq rfl) rfl rfl) ?_
 refine q69 ?_
 refine wZ ?_
 refine yY p1 (fun p1=>?_) (fun p1=>?_)
 refine Q22 ?_
 cases p1
 intro q;cases q
 exact ⟨rfl,wc⟩
 refine Q36 ?_
 cases p1
 exact wc
 refine zH ?_
 cases p1
 intro q;cases q
 exact ⟨rfl,wc⟩
 rintro y1 rfl
 replace h:=eL h
 refine Q3 ?_
 cases h
 refine zB ?_
 exact zL rfl
 rintro y1 rfl
 replace h:=eR h
 cases h
 exact zL rfl
theorem zDK {a0 r} (h:uS a0=some r):zG Tryd.prog 40 [(z8 eI a0)] [(eA9Int.dv r)]:=by
 refine co Tryd.func40 ?_;intro _ _ _ _
 unfold uS at h
 refine Q0 ?_
 refine kN rfl (yN (zs:=[(.int IntKind.i64 (0)),(.int IntKind.i64 (0)),(.int IntKind.i64 (0)),(.int IntKind.i64 (0)),(.int IntKind.i64 (0)),(.int IntKind.i64 (0)),(.int IntKind.i64 (0)),(.int IntKind.i64 (0)),(.int IntKind.i64 (0))]) (lq rfl) (by kernel_rfl) rfl rfl) ?_
 refine zF<|Q2 ?_
 refine q6 yX ?_
 refine q59 A95 ?_
 refine kN rfl (yN (zs:=[(.int IntKind.i64 (0)),(.int IntKind.i64 (0)),(.int IntKind.i64 (0)),(.int IntKind.i64 (0)),(.int IntKind.i64 (0)),(.int IntKind.i64 (0)),(.int IntKind.i64 (0)),(.int IntKind.i64 (0)),(.int IntKind.i64 (0))]) (lq rfl) (by kernel_rfl) rfl rfl) ?_
 refine q13 G95 ?_
 refine Q34 ?_
 refine yK (zP0 1 (lq rfl) A95 rfl (by decide)) ?_
 refine q0 ?_
 refine kN rfl (z1B (l:=a0) (lq rfl) yX rfl rfl rfl rfl) ?_
 refine Q34 ?_
 refine yK ((k9 (lq rfl) G95 rfl rfl rfl rfl).data rfl) ?_
 refine q13 G95 ?_
 refine zF ?_
 cases h
 refine zB ?_
 exact zAJ rfl rfl G95 rfl
theorem zBT {a0} {r:Colltable_table} (h:u9 a0=some r):GC Tryd.prog 33 [.d (eCollation.dv a0)] [] [] [.ptr 13 0] [(13,.box 93 [.d (z8 eEntry r.c.Entries),.d (z8 eGroup r.c.Groups),.d (di r.c.Base),.d (di r.c.Second),.d (di r.c.Third),.row 11,.d (di r.longest),.d (z8 eSpan r.classes),.d (di r.top)]),(11,.map (xL zBR (eL eElement) r.entries))]:=by
 refine zA5 Tryd.func33 (by kernel_rfl) rfl (lq rfl) (lq rfl) fun w0 I0 hG0 p0=>?_
 unfold u9 at h
 refine Q0 ?_
 refine q75 ?_
 refine Q48 ?_
 refine yK ((k9 (lq rfl) G49 rfl rfl rfl rfl).data rfl) ?_
 have ⟨t7,ht7,h⟩:=bE h
 refine q7 (zH1 ht7) ?_
 refine Q33 ?_
 have ⟨y1,hy1,h⟩:=bE h
 refine tl .normal ⟨[(1,.ptr 1 0)],[(1,.box 49 [.d (z8 eEntry y1.1),.d (z8 eGroup y1.2.1),.d (di y1.2.2.1),.d (di y1.2.2.2.1),.d (di y1.2.2.2.2)])]⟩ ?_ ?_
 refine yY hy1 (fun hy1=>?_) (fun hy1=>?_)
 refine wY ?_
 refine yK ((zDG (lq rfl) B49 rfl rfl).nils (bs:=eCollation.cells ({Entries:=[],Groups:=[],Base:=64448,Second:=32,Third:=2}:Collation)) (nlN (nlN (nlE (nlE (nlE nl0)))))) ?_
 refine q13 G49 ?_
 refine zF ?_
 cases hy1
 exact zJ (wc)
 refine zI ?_
 cases hy1
 exact zJ (wc)
 refine Q0 ?_
 refine yK ((k9 (lq rfl) G49 rfl rfl rfl rfl).data rfl) ?_
 refine zYF ?_
 refine yK (zXR [(0,.tmp 10)] 1 (.tmp 11) (lq rfl) B93 rfl rfl rfl rfl rfl rfl) ?_
 refine kN rfl (zRX (lq rfl) rfl rfl) ?_
 refine yK (zAH (lq rfl) rfl) ?_
 refine Q78 ?_
 refine q41 zKY ?_
 refine q24 O46 ?_
 refine q6 S46 ?_
 refine Q17 ?_
 have ⟨y2,hy2,h⟩:=bE h
 refine tl (.exit 0) ⟨[(3,.ptr 13 0)],[(11,.map (xL zBR (eL eElement) y2.1)),(13,.box 93 [.d (z8 eEntry (({Entries:=y1.1,Groups:=y1.2.1,Base:=y1.2.2.1,Second:=y1.2.2.2.1,Third:=y1.2.2.2.2}:Collation).Entries)),.d (z8 eGroup (({Entries:=y1.1,Groups:=y1.2.1,Base:=y1.2.2.1,Second:=y1.2.2.2.1,Third:=y1.2.2.2.2}:Collation).Groups)),.d (di (({Entries:=y1.1,Groups:=y1.2.1,Base:=y1.2.2.1,Second:=y1.2.2.2.1,Third:=y1.2.2.2.2}:Collation).Base)),.d (di (({Entries:=y1.1,Groups:=y1.2.1,Base:=y1.2.2.1,Second:=y1.2.2.2.1,Third:=y1.2.2.2.2}:Collation).Second)),.d (di (({Entries:=y1.1,Groups:=y1.2.1,Base:=y1.2.2.1,Second:=y1.2.2.2.1,Third:=y1.2.2.2.2}:Collation).Third)),.row 11,.d (di y2.2),.d (.v (.slice none 0 0)),.d (di 0)])]⟩ ?_ ?_
 refine zE (fun x=>⟨[(3,.ptr 13 0),(15,.d (z8 eEntry y1.1)),(16,.d (di (y1.1.length:Int))),(17,.d (di x.1))],[(11,.map (xL zBR (eL eElement) x.2.1)),(13,.box 93 [.d (z8 eEntry (({Entries:=y1.1,Groups:=y1.2.1,Base:=y1.2.2.1,Second:=y1.2.2.2.1,Third:=y1.2.2.2.2}:Collation).Entries)),.d (z8 eGroup (({Entries:=y1.1,Groups:=y1.2.1,Base:=y1.2.2.1,Second:=y1.2.2.2.1,Third:=y1.2.2.2.2}:Collation).Groups)),.d (di (({Entries:=y1.1,Groups:=y1.2.1,Base:=y1.2.2.1,Second:=y1.2.2.2.1,Third:=y1.2.2.2.2}:Collation).Base)),.d (di (({Entries:=y1.1,Groups:=y1.2.1,Base:=y1.2.2.1,Second:=y1.2.2.2.1,Third:=y1.2.2.2.2}:Collation).Second)),.d (di (({Entries:=y1.1,Groups:=y1.2.1,Base:=y1.2.2.1,Second:=y1.2.2.2.1,Third:=y1.2.2.2.2}:Collation).Third)),.row 11,.d (di x.2.2),.d (.v (.slice none 0 0)),.d (di 0)])]⟩) hy2 (wc) ?_
 rintro ⟨v17,r11,k13_6⟩ sy2 p2
 replace p2:jM y1 v17 r11 k13_6=some sy2:=p2
 unfold jM at p2
 refine Q13 ?_
 refine yY p2 (fun p2=>?_) (fun p2=>?_)
 refine Q25 ?_
 have ⟨t19,ht19,p2⟩:=bE p2
 refine q14 S46 ht19 ?_
 refine yK (wN (en:=eEntry) (l:=y1.1) (i:=v17) (v:=t19) (off:=0) (lq rfl) G58 rfl ht19 rfl rfl (by decide)) ?_
 refine kN rfl (yN (zs:=[(.slice none 0 0),(.slice none 0 0)]) (lq rfl) (by kernel_rfl) rfl rfl) ?_
 refine q13 G58 ?_
 refine zF ?_
 refine zN (z0 (t:=5) (lq rfl) rfl rfl rfl) ?_
 refine kQ ?_
 refine zD0 9 MX rfl ?_
 refine zYH ?_
 refine zYI ?_
 refine q77 z3O ?_
 refine daa (uJ (lq rfl) O91 rfl rfl rfl) ?_
 refine q17 zJG ?_
 refine q27 O32 ?_
 have ⟨t27,ht27,p2⟩:=bE p2
 refine q26 (zDK ht27) ?_
 refine q17 zQD ?_
 refine q27 O22 ?_
 refine wZ ?_
 refine kN rfl (zHX (kv:=zBR) (ev:=(eL eElement)) (mp:=r11) (k:=t27) (v:=t19.Elements) M91 K95 rfl rfl rfl (z06 rfl) rfl rfl rfl) ?_
 refine zF ?_
 refine zD0 11 MX rfl ?_
 refine zYH ?_
 refine zYH ?_
 refine zYI ?_
 refine q77 zTH ?_
 refine daa (uJ (lq rfl) O3 rfl rfl rfl) ?_
 refine q17 zJG ?_
 refine q27 O32 ?_
 refine daa (zMS (en:=eI) (l:=t19.Codes) (lq rfl) yX rfl) ?_
 refine daa (zPF (lq rfl) rfl rfl) ?_
 refine zYI ?_
 refine q77 zTH ?_
 refine wZ<|Q56 ?_
 refine Q16 ?_
 cases p2
 exact wc
 refine zH ?_
 cases p2
 intro q;cases q
 exact zJ (wc)
 refine Q0 ?_
 refine z1V ?_
 refine yK (zAH (lq rfl) rfl) ?_
 refine zF ?_
 refine zN (zLT (bid:=13) (off:=7) eSpan.size rfl rfl) ?_
 cases h
 refine zB ?_
 exact ⟨⟨_,_,rfl,rfl,rfl⟩,⟨rfl,rfl,trivial⟩⟩
set_option maxHeartbeats 8000000 in
theorem zD7 {a0 r} (h:uA a0=some r):zG Tryd.prog 58 [(z8 eSpan a0)] [(di r)]:=by
 refine co Tryd.func58 ?_;intro _ _ _ _
 unfold uA at h
 refine Q39 ?_
 refine q6 S39 ?_
 refine Q17 ?_
 have ⟨y1,hy1,h⟩:=bE h
 refine yB y1 (.exit 0) (fun y1=>⟨[(0,.d (z8 eSpan a0))],[]⟩) .ret (fun y1=>⟨[(2,.d (di y1))],[]⟩) ?_ ?_ ?_
 refine zE (fun x=>⟨[(0,.d (z8 eSpan a0)),(12,.d (z8 eSpan a0)),(13,.d (di (a0.length:Int))),(14,.d (di x))],[]⟩) hy1 (wc) ?_
 rintro v14 sy1 p1
 replace p1:xT a0 v14=some sy1:=p1
 unfold xT at p1
 refine Q13 ?_
 refine yY p1 (fun p1=>?_) (fun p1=>?_)
 refine Q25 ?_
 have ⟨t16,ht16,p1⟩:=bE p1
 refine q14 S39 ht16 ?_
 refine z1W G99 ht16 ?_
 refine q89 ?_
 refine q13 G99 ?_
 refine zF ?_
 refine zN (z0 (t:=4) (lq rfl) rfl rfl rfl) ?_
 refine Q0 ?_
 refine q5 zK0 ?_
 refine Q72 ?_
 have ⟨b21,hb21,p1⟩:=bE p1
 refine yK ((zC (lq rfl) rfl).bool (oi hb21)) ?_
 refine q18 (.ip (eSpan.cells t16) (0+1)) zK1 ?_
 refine q19 (.d (di t16.Hi)) O3 ?_
 refine q32 (.d (db (decide (1114111 < t16.Hi)))) ?_
 refine q12 ?_
 have ⟨b26,hb26,p1⟩:=bE p1
 refine yK ((zC (lq rfl) rfl).bool (oi hb26)) ?_
 refine q18 (.ip (eSpan.cells t16) (0+0)) zK0 ?_
 refine q19 (.d (di t16.Lo)) O3 ?_
 refine q18 (.ip (eSpan.cells t16) (0+1)) zK1 ?_
 refine q19 (.d (di t16.Hi)) O3 ?_
 refine q32 (.d (db (decide (t16.Hi < t16.Lo)))) ?_
 refine q12 ?_
 have ⟨b33,hb33,p1⟩:=bE p1
 refine yK ((zC (lq rfl) rfl).bool (oi hb33)) ?_
 refine q18 (.ip (eSpan.cells t16) (0+2)) zK2 ?_
 refine q19 (.d (di t16.Value)) O3 ?_
 refine q84 (.d (db (decide (t16.Value < 1)))) ?_
 refine q12 ?_
 have ⟨b38,hb38,p1⟩:=bE p1
 refine yK ((zC (lq rfl) rfl).bool (oi hb38)) ?_
 refine q18 (.ip (eSpan.cells t16) (0+2)) zK2 ?_
 refine q19 (.d (di t16.Value)) O3 ?_
 refine q32 (.d (db (decide (254 < t16.Value)))) ?_
 refine Q26 ?_
 refine yY p1 (fun p1=>?_) (fun p1=>?_)
 refine Q22 ?_
 cases p1
 intro q;cases q
 exact ⟨rfl,wc⟩
 refine Q36 ?_
 cases p1
 exact wc
 refine zH ?_
 cases p1
 intro q;cases q
 exact ⟨rfl,wc⟩
 rintro y1 rfl
 replace h:=eL h
 refine Q66 ?_
 have ⟨y2,hy2,h⟩:=bE h
 refine yB y2 (.exit 2) (fun y2=>⟨[(0,.d (z8 eSpan a0))],[]⟩) .ret (fun y2=>⟨[(2,.d (di y2))],[]⟩) ?_ ?_ ?_
 refine zE (fun x=>⟨[(0,.d (z8 eSpan a0)),(5,.d (di x))],[]⟩) hy2 (wc) ?_
 rintro v5 sy2 p2
 replace p2:xU a0 v5=some sy2:=p2
 unfold xU at p2
 refine Q14 ?_
 refine q6 S39 ?_
 refine Q7 ?_
 refine yY p2 (fun p2=>?_) (fun p2=>?_)
 refine Q9 ?_
 refine kQ ?_
 have ⟨t53,ht53,p2⟩:=bE p2
 have ⟨t57,ht57,p2⟩:=bE p2
 refine tl .normal ⟨[(0,.d (z8 eSpan a0)),(5,.d (di v5)),(6,.ptr 6 0),(7,.ptr 7 0)],[(6,.box 99 [.d (di t53.Lo),.d (di t53.Hi),.d (di t53.Value)]),(7,.box 99 [.d (di t57.Lo),.d (di t57.Hi),.d (di t57.Value)])]⟩ ?_ ?_
 refine zBX MX ?_
 refine Q80 ?_
 refine zER (i:=2) rfl (lq rfl) rfl rfl rfl rfl rfl rfl ?_
 refine zMZ (en:=eSpan) (i:=3) rfl (lq rfl) S39 rfl rfl ht53 rfl rfl rfl rfl ?_
 refine xm 5 ?_
 refine xm 6 ?_
 refine zMZ (en:=eSpan) (i:=7) rfl (lq rfl) S39 rfl rfl ht57 rfl rfl rfl rfl ?_
 refine xn [4,8,9,10] ?_
 refine q37 G99 ht53 ?_ ?_
 refine xn [8,9,10] ?_
 refine q37 G99 ht57 ?_ ?_
 refine xn [9,10] ?_
 refine zYJ ?_ ?_
 refine xn [10] ?_
 refine Q51 ?_
 exact ae
 refine q31 ?_
 refine xn [9] ?_
 refine Q51 ?_
 exact ae
 refine zYJ ?_ ?_
 refine xn [8,10] ?_
 refine q37 G99 ht57 ?_ ?_
 refine xn [10] ?_
 refine Q51 ?_
 exact ae
 refine q31 ?_
 refine xn [8,11] ?_
 refine q37 G99 ht57 ?_ ?_
 refine Q31 ?_
 exact ae
 refine q10 G99 ?_
 refine xn [8] ?_
 refine q50 G99 ht57 ?_
 refine Q23 ?_
 exact ae
 refine q31 ?_
 refine xn [8,9] ?_
 refine q37 G99 ht57 ?_ ?_
 refine xn [9] ?_
 refine Q51 ?_
 exact ae
 refine q31 ?_
 refine xn [8,11] ?_
 refine q37 G99 ht57 ?_ ?_
 refine Q31 ?_
 exact ae
 refine q10 G99 ?_
 refine xn [8] ?_
 refine q50 G99 ht57 ?_
 refine Q23 ?_
 exact ae
 refine q37 G99 ht57 ?_ ?_
 refine xn [4,9,10] ?_
 refine q37 G99 ht53 ?_ ?_
 refine xn [9,10] ?_
 refine zYJ ?_ ?_
 refine xn [10] ?_
 refine Q51 ?_
 exact ae
 refine q31 ?_
 refine xn [9] ?_
 refine Q51 ?_
 exact ae
 refine zYJ ?_ ?_
 refine xn [4,10] ?_
 refine q37 G99 ht53 ?_ ?_
 refine xn [10] ?_
 refine Q51 ?_
 exact ae
 refine q31 ?_
 refine xn [4] ?_
 refine q50 G99 ht53 ?_
 refine Q31 ?_
 exact ae
 refine q31 ?_
 refine xn [4,9] ?_
 refine q37 G99 ht53 ?_ ?_
 refine xn [9] ?_
 refine Q51 ?_
 exact ae
 refine q31 ?_
 refine xn [4] ?_
 refine q50 G99 ht53 ?_
 refine Q31 ?_
 exact ae
 refine zYJ ?_ ?_
 refine xn [4,8,10] ?_
 refine q37 G99 ht53 ?_ ?_
 refine xn [8,10] ?_
 refine q37 G99 ht57 ?_ ?_
 refine xn [10] ?_
 refine Q51 ?_
 exact ae
 refine q31 ?_
 refine xn [8,11] ?_
 refine q37 G99 ht57 ?_ ?_
 refine Q31 ?_
 exact ae
 refine q10 G99 ?_
 refine xn [8] ?_
 refine q50 G99 ht57 ?_
 refine Q23 ?_
 exact ae
 refine q37 G99 ht57 ?_ ?_
 refine xn [4,10] ?_
 refine q37 G99 ht53 ?_ ?_
 refine xn [10] ?_
 refine Q51 ?_
 exact ae
 refine q31 ?_
 refine xn [4] ?_
 refine q50 G99 ht53 ?_
 refine Q31 ?_
 exact ae
 refine q31 ?_
 refine xn [4,8] ?_
 refine q37 G99 ht53 ?_ ?_
 refine xn [8,11] ?_
 refine q37 G99 ht57 ?_ ?_
 refine Q31 ?_
 exact ae
 refine q10 G99 ?_
 refine xn [8] ?_
 refine q50 G99 ht57 ?_
 refine Q23 ?_
 exact ae
 refine q50 G99 ht57 ?_
 refine xn [4] ?_
 refine q50 G99 ht53 ?_
 refine Q31 ?_
 exact ae
 refine q31 ?_
 refine xn [4,8,9] ?_
 refine q37 G99 ht53 ?_ ?_
 refine xn [8,9] ?_
 refine q37 G99 ht57 ?_ ?_
 refine xn [9] ?_
 refine Q51 ?_
 exact ae
 refine q31 ?_
 refine xn [8,11] ?_
 refine q37 G99 ht57 ?_ ?_
 refine Q31 ?_
 exact ae
 refine q10 G99 ?_
 refine xn [8] ?_
 refine q50 G99 ht57 ?_
 refine Q23 ?_
 exact ae
 refine q37 G99 ht57 ?_ ?_
 refine xn [4,9] ?_
 refine q37 G99 ht53 ?_ ?_
 refine xn [9] ?_
 refine Q51 ?_
 exact ae
 refine q31 ?_
 refine xn [4] ?_
 refine q50 G99 ht53 ?_
 refine Q31 ?_
 exact ae
 refine q31 ?_
 refine xn [4,8] ?_
 refine q37 G99 ht53 ?_ ?_
 refine xn [8,11] ?_
 refine q37 G99 ht57 ?_ ?_
 refine Q31 ?_
 exact ae
 refine q10 G99 ?_
 refine xn [8] ?_
 refine q50 G99 ht57 ?_
 refine Q23 ?_
 exact ae
 refine q50 G99 ht57 ?_
 refine xn [4] ?_
 refine q50 G99 ht53 ?_
 refine Q31 ?_
 exact ae
 refine zN (z0 (t:=6) (lq rfl) rfl rfl rfl) ?_
 refine zN (z0 (t:=7) (lq rfl) rfl rfl rfl) ?_
 refine Q0 ?_
 refine q5 zK0 ?_
 refine q3 O3 ?_
 refine q5 zK1 ?_
 refine q3 O3 ?_
 refine q66 ?_
 have ⟨b64,hb64,p2⟩:=bE p2
 refine yK ((zC (lq rfl) rfl).bool (oi hb64)) ?_
 refine q18 (.ip (eSpan.cells t57) (0+0)) zK0 ?_
 refine q19 (.d (di t57.Lo)) O3 ?_
 refine q18 (.ip (eSpan.cells t53) (0+1)) zK1 ?_
 refine q19 (.d (di t53.Hi)) O3 ?_
 refine sqf (.d (di (wi (t53.Hi+1)))) rfl (fun hb=>by subst hb;exact zPR (lq rfl) rfl rfl) ?_
 refine q82 (.d (db (decide (t57.Lo=(wi (t53.Hi+1)))))) ?_
 have ⟨b71,hb71,p2⟩:=bE p2
 refine sqf (.d (db b71)) rfl (fun hb=>by subst hb;exact (zC (lq rfl) rfl).bool (oi hb71)) ?_
 refine zBK (x:= .ip (eSpan.cells t57) (0+2)) rfl rfl rfl (lq rfl) (lq rfl) rfl (fun hb=>by obtain ⟨hb,hb1⟩:=jO hb;obtain rfl:=gF hb;obtain rfl:b71=true:=hb1;exact zA7 (lq rfl) zK2 rfl) ?_
 refine zBK (x:= .d (di t57.Value)) rfl rfl rfl (lq rfl) (lq rfl) rfl (fun hb=>by obtain ⟨hb,hb1⟩:=jO hb;obtain rfl:=gF hb;obtain rfl:b71=true:=hb1;exact zAG (lq rfl) O3 rfl rfl) ?_
 refine zBK (x:= .ip (eSpan.cells t53) (0+2)) rfl rfl rfl (lq rfl) (lq rfl) rfl (fun hb=>by obtain ⟨hb,hb1⟩:=jO hb;obtain rfl:=gF hb;obtain rfl:b71=true:=hb1;exact zA7 (lq rfl) zK2 rfl) ?_
 refine zBK (x:= .d (di t53.Value)) rfl rfl rfl (lq rfl) (lq rfl) rfl (fun hb=>by obtain ⟨hb,hb1⟩:=jO hb;obtain rfl:=gF hb;obtain rfl:b71=true:=hb1;exact zAG (lq rfl) O3 rfl rfl) ?_
 refine zBK (x:= .d (db (decide (t57.Value=t53.Value)))) rfl rfl rfl (lq rfl) (lq rfl) rfl (fun hb=>by obtain ⟨hb,hb1⟩:=jO hb;obtain rfl:=gF hb;obtain rfl:b71=true:=hb1;exact zMD (lq rfl) rfl rfl) ?_
 refine zYE (.d (db (b71&&(decide (t57.Value=t53.Value))))) ?_
 refine Q26 ?_
 refine yY p2 (fun p2=>?_) (fun p2=>?_)
 refine Q22 ?_
 cases p2
 intro q;cases q
 exact ⟨rfl,wc⟩
 refine Q59 ?_
 cases p2
 exact wc
 refine zH ?_
 cases p2
 intro q;cases q
 exact ⟨rfl,wc⟩
 rintro y2 rfl
 replace h:=eL h
 refine Q4 ?_
 refine q6 S39 ?_
 refine Q17 ?_
 have ⟨y3,hy3,h⟩:=bE h
 refine yB y3 (.exit 4) (fun y3=>⟨[],[]⟩) .ret (fun y3=>⟨[(2,.d (di y3))],[]⟩) ?_ ?_ ?_
 refine zE (fun x=>⟨[(79,.d (z8 eSpan a0)),(80,.d (di (a0.length:Int))),(81,.d (di x))],[]⟩) hy3 (wc) ?_
 rintro v81 sy3 p3
 replace p3:xV a0 v81=some sy3:=p3
 unfold xV at p3
 refine Q13 ?_
 refine yY p3 (fun p3=>?_) (fun p3=>?_)
 refine Q25 ?_
 have ⟨t83,ht83,p3⟩:=bE p3
 refine q14 S39 ht83 ?_
 refine z1W G99 ht83 ?_
 refine q89 ?_
 refine q13 G99 ?_
 refine zF ?_
 refine zN (z0 (t:=9) (lq rfl) rfl rfl rfl) ?_
 refine Q0 ?_
 have ⟨t85,ht85,p3⟩:=bE p3
 refine yK ((z05 (zs:=[.int .i64 4352,.int .i64 4370,.int .i64 4449,.int .i64 4469,.int .i64 4520,.int .i64 4546,.int .i64 44032,.int .i64 55203]) (lq rfl) z9R Z0 rfl rfl).data (b:=eA4Range.dv t85) (congrArg eA4Range.dv (oi ht85))) ?_
 refine Q17 ?_
 have ⟨y4,hy4,p3⟩:=bE p3
 refine yB y4 (.exit 6) (fun y4=>⟨[(79,.d (z8 eSpan a0)),(80,.d (di (a0.length:Int))),(81,.d (di v81))],[]⟩) .ret (fun y4=>⟨[(2,.d (di y4))],[]⟩) ?_ ?_ ?_
 refine zE (fun x=>⟨[(9,.d (.pt (eSpan.cells t83))),(79,.d (z8 eSpan a0)),(80,.d (di (a0.length:Int))),(81,.d (di v81)),(85,.d (eA4Range.dv t85)),(86,.d (di x))],[]⟩) hy4 (wc) ?_
 rintro v86 sy4 p4
 replace p4:jN t85 t83 v86=some sy4:=p4
 unfold jN at p4
 refine Q13 ?_
 refine yY p4 (fun p4=>?_) (fun p4=>?_)
 refine Q25 ?_
 have ⟨t88,ht88,p4⟩:=bE p4
 refine yK (zVE (en:=eRange) (l:=[t85.x0,t85.x1,t85.x2,t85.x3]) (lq rfl) z9P u5 (fun _=>rfl) rfl rfl rfl ht88) ?_
 refine q78 ?_
 refine Q81 ?_
 refine zN (z0 (t:=11) (lq rfl) rfl rfl rfl) ?_
 refine Q0 ?_
 refine q5 zK0 ?_
 refine q3 O3 ?_
 refine q5 zDS ?_
 refine q3 O3 ?_
 refine q66 ?_
 have ⟨b94,hb94,p4⟩:=bE p4
 refine yK ((zC (lq rfl) rfl).bool (oi hb94)) ?_
 refine q52 (.ip (eRange.cells t88) (0+0)) zG8 ?_
 refine q55 (.d (di t88.Lo)) O3 ?_
 refine q52 (.ip (eSpan.cells t83) (0+1)) zK1 ?_
 refine q55 (.d (di t83.Hi)) O3 ?_
 refine q76 (.d (db (decide (t88.Lo≤t83.Hi)))) ?_
 refine Q47 ?_
 refine yY p4 (fun p4=>?_) (fun p4=>?_)
 refine Q22 ?_
 cases p4
 intro q;cases q
 exact ⟨rfl,wc⟩
 refine Q36 ?_
 cases p4
 exact wc
 refine zH ?_
 cases p4
 intro q;cases q
 exact ⟨rfl,wc⟩
 rintro y4 rfl
 replace p3:=eL p3
 refine Q16 ?_
 cases p3
 exact wc
 rintro y4 rfl
 replace p3:=eR p3
 cases p3
 intro q;cases q
 exact ⟨rfl,wc⟩
 refine zH ?_
 cases p3
 intro q;cases q
 exact ⟨rfl,wc⟩
 rintro y3 rfl
 replace h:=eL h
 refine Q3 ?_
 cases h
 refine zB ?_
 exact zL rfl
 rintro y3 rfl
 replace h:=eR h
 cases h
 exact zL rfl
 rintro y2 rfl
 replace h:=eR h
 cases h
 exact zL rfl
 rintro y1 rfl
 replace h:=eR h
 cases h
 exact zL rfl
theorem zIS {a0 r} (h:zAA a0=some r):zG Tryd.prog 86 [(ds a0)] [(db r)]:=by
 refine co Tryd.func86 ?_;intro _ _ _ _
 unfold zAA at h
 refine Q39 ?_
 refine yK (zRU (a:=a0) (b:=[]) (lq rfl) rfl rfl) ?_
 have ⟨b8,hb8,h⟩:=bE h
 refine yK ((zC (lq rfl) rfl).bool (oi hb8)) ?_
 refine q21 (.d (ds a0)) ?_
 refine sqf (.d (di (a0.length:Int))) rfl (fun hb=>by subst hb;exact zIL (s:=a0) (lq rfl) Tryd.underlying9 rfl) ?_
 refine q32 (.d (db (decide (32 < (a0.length:Int))))) ?_
 refine Q26 ?_
 refine yY h (fun h=>?_) (fun h=>?_)
 refine Q3 ?_
 cases h
 refine zB ?_
 exact zL rfl
 refine zI<|Q4 ?_
 refine yK (zIL (s:=a0) (lq rfl) Tryd.underlying9 rfl) ?_
 refine Q17 ?_
 have ⟨y1,hy1,h⟩:=bE h
 refine yB y1 (.exit 0) (fun y1=>⟨[],[]⟩) .ret (fun y1=>⟨[(2,.d (db y1))],[]⟩) ?_ ?_ ?_
 refine zE (fun x=>⟨[(0,.d (ds a0)),(14,.d (di (a0.length:Int))),(15,.d (di x))],[]⟩) hy1 (wc) ?_
 rintro v15 sy1 p1
 replace p1:xW a0 v15=some sy1:=p1
 unfold xW at p1
 refine Q13 ?_
 refine yY p1 (fun p1=>?_) (fun p1=>?_)
 refine Q9 ?_
 refine Q2 ?_
 refine Q65 ?_
 have ⟨t20,ht20,p1⟩:=bE p1
 refine yK (zKR (s:=a0) (lq rfl) Tryd.underlying9 rfl rfl ht20) ?_
 refine Q10 ?_
 refine q48 ?_
 have ⟨b23,hb23,p1⟩:=bE p1
 refine yK ((zC (lq rfl) rfl).bool (oi hb23)) ?_
 refine q20 (.d (dby t20)) ?_
 refine q76 (.d (db (decide (t20≤90)))) ?_
 refine q16 ?_
 have ⟨b27,hb27,p1⟩:=bE p1
 refine yK ((zC (lq rfl) rfl).bool (oi hb27)) ?_
 refine q21 (.d (dby t20)) ?_
 refine zYD (.d (db (decide (97≤t20)))) ?_
 have ⟨b30,hb30,p1⟩:=bE p1
 refine sqf (.d (db b30)) rfl (fun hb=>by subst hb;exact (zC (lq rfl) rfl).bool (oi hb30)) ?_
 refine zBK (x:= .d (dby t20)) rfl rfl rfl (lq rfl) (lq rfl) rfl (fun hb=>by obtain ⟨hb,hb1⟩:=jO hb;obtain rfl:=gF hb;obtain rfl:b30=true:=hb1;exact zC (lq rfl) rfl) ?_
 refine zBK (x:= .d (db (decide (t20≤122)))) rfl rfl rfl (lq rfl) (lq rfl) rfl (fun hb=>by obtain ⟨hb,hb1⟩:=jO hb;obtain rfl:=gF hb;obtain rfl:b30=true:=hb1;exact zI5 (lq rfl) rfl rfl) ?_
 refine zYE (.d (db (b30&&(decide (t20≤122))))) ?_
 refine q12 ?_
 refine Q10 ?_
 refine q39 ?_
 have ⟨b37,hb37,p1⟩:=bE p1
 refine yK ((zC (lq rfl) rfl).bool (oi hb37)) ?_
 refine q20 (.d (dby t20)) ?_
 refine sqt (.d (db (decide (48≤t20)))) rfl (fun hb=>by subst hb;exact zKK (lq rfl) rfl rfl) ?_
 have ⟨b40,hb40,p1⟩:=bE p1
 refine sqt (.d (db b40)) rfl (fun hb=>by subst hb;exact (zC (lq rfl) rfl).bool (oi hb40)) ?_
 refine zBK (x:= .d (dby t20)) rfl rfl rfl (lq rfl) (lq rfl) rfl (fun hb=>by obtain ⟨hb,hb1⟩:=jO hb;obtain rfl:b37=true:=hb;obtain rfl:b40=true:=hb1;exact zC (lq rfl) rfl) ?_
 refine zBK (x:= .d (db (decide (t20≤57)))) rfl rfl rfl (lq rfl) (lq rfl) rfl (fun hb=>by obtain ⟨hb,hb1⟩:=jO hb;obtain rfl:b37=true:=hb;obtain rfl:b40=true:=hb1;exact zI5 (lq rfl) rfl rfl) ?_
 refine sqt (.d (db (b40&&(decide (t20≤57))))) rfl (fun hb=>by subst hb;exact zEG (lq rfl) rfl rfl) ?_
 refine sqt (.d (db (!(b40&&(decide (t20≤57)))))) rfl (fun hb=>by subst hb;exact zMF (lq rfl) rfl) ?_
 refine q16 ?_
 have ⟨b46,hb46,p1⟩:=bE p1
 refine yK ((zC (lq rfl) rfl).bool (oi hb46)) ?_
 refine q20 (.d (dby t20)) ?_
 refine sqt (.d (db (!decide (t20=95)))) rfl (fun hb=>by subst hb;exact zME (lq rfl) rfl rfl) ?_
 refine Q47 ?_
 refine yY p1 (fun p1=>?_) (fun p1=>?_)
 refine Q22 ?_
 cases p1
 intro q;cases q
 exact ⟨rfl,wc⟩
 refine Q36 ?_
 cases p1
 exact wc
 refine zH ?_
 cases p1
 intro q;cases q
 exact ⟨rfl,wc⟩
 rintro y1 rfl
 replace h:=eL h
 refine Q3 ?_
 cases h
 refine zB ?_
 exact zL rfl
 rintro y1 rfl
 replace h:=eR h
 cases h
 exact zL rfl
theorem zJQ {a0 r} (h:zAU a0=some r):zG Tryd.prog 77 [(z8 eMapping a0)] [(di r)]:=by
 refine co Tryd.func77 ?_;intro _ _ _ _
 unfold zAU at h
 refine Q39 ?_
 refine Q82 ?_
 have ⟨y1,hy1,h⟩:=bE h
 refine yB y1 (.exit 0) (fun y1=>⟨[(0,.d (z8 eMapping a0))],[]⟩) .ret (fun y1=>⟨[(2,.d (di y1))],[]⟩) ?_ ?_ ?_
 refine zE (fun x=>⟨[(0,.d (z8 eMapping a0)),(11,.d (z8 eMapping a0)),(12,.d (di (a0.length:Int))),(13,.d (di x))],[]⟩) hy1 (wc) ?_
 rintro v13 sy1 p1
 replace p1:wG a0 v13=some sy1:=p1
 unfold wG at p1
 refine Q13 ?_
 refine yY p1 (fun p1=>?_) (fun p1=>?_)
 refine Q25 ?_
 have ⟨t15,ht15,p1⟩:=bE p1
 refine q14 S40 ht15 ?_
 refine q71 G77 ht15 ?_
 refine Q84 ?_
 refine zN (z0 (t:=4) (lq rfl) rfl rfl rfl) ?_
 refine Q11 ?_
 refine q5 zGV ?_
 refine q3 O3 ?_
 have ⟨t19,ht19,p1⟩:=bE p1
 refine q7 (u0 ht19) ?_
 refine Q41 ?_
 refine yY p1 (fun p1=>?_) (fun p1=>?_)
 refine Q22 ?_
 cases p1
 intro q;cases q
 exact ⟨rfl,wc⟩
 refine Q40 ?_
 refine q5 zM9 ?_
 refine q3 O32 ?_
 refine Q58 ?_
 have ⟨y2,hy2,p1⟩:=bE p1
 refine yB y2 (.exit 2) (fun y2=>⟨[(0,.d (z8 eMapping a0)),(11,.d (z8 eMapping a0)),(12,.d (di (a0.length:Int))),(13,.d (di v13))],[]⟩) .ret (fun y2=>⟨[(2,.d (di y2))],[]⟩) ?_ ?_ ?_
 refine zE (fun x=>⟨[(0,.d (z8 eMapping a0)),(11,.d (z8 eMapping a0)),(12,.d (di (a0.length:Int))),(13,.d (di v13)),(22,.d (z8 eI t15.To)),(23,.d (di (t15.To.length:Int))),(24,.d (di x))],[]⟩) hy2 (wc) ?_
 rintro v24 sy2 p2
 replace p2:wF t15 v24=some sy2:=p2
 unfold wF at p2
 refine Q13 ?_
 refine yY p2 (fun p2=>?_) (fun p2=>?_)
 refine Q25 ?_
 have ⟨t26,ht26,p2⟩:=bE p2
 refine q14 yX ht26 ?_
 refine q49 O3 ht26 ?_
 refine Q10 ?_
 have ⟨t29,ht29,p2⟩:=bE p2
 refine q7 (u0 ht29) ?_
 refine Q41 ?_
 refine yY p2 (fun p2=>?_) (fun p2=>?_)
 refine Q22 ?_
 cases p2
 intro q;cases q
 exact ⟨rfl,wc⟩
 refine Q36 ?_
 cases p2
 exact wc
 refine zH ?_
 cases p2
 intro q;cases q
 exact ⟨rfl,wc⟩
 rintro y2 rfl
 replace p1:=eL p1
 refine Q16 ?_
 cases p1
 exact wc
 rintro y2 rfl
 replace p1:=eR p1
 cases p1
 intro q;cases q
 exact ⟨rfl,wc⟩
 refine zH ?_
 cases p1
 intro q;cases q
 exact ⟨rfl,wc⟩
 rintro y1 rfl
 replace h:=eL h
 refine Q4 ?_
 refine Q82 ?_
 have ⟨y3,hy3,h⟩:=bE h
 refine yB y3 (.exit 4) (fun y3=>⟨[(0,.d (z8 eMapping a0))],[]⟩) .ret (fun y3=>⟨[(2,.d (di y3))],[]⟩) ?_ ?_ ?_
 refine zE (fun x=>⟨[(0,.d (z8 eMapping a0)),(33,.d (z8 eMapping a0)),(34,.d (di (a0.length:Int))),(35,.d (di x))],[]⟩) hy3 (wc) ?_
 rintro v35 sy3 p3
 replace p3:wH a0 v35=some sy3:=p3
 unfold wH at p3
 refine Q13 ?_
 refine yY p3 (fun p3=>?_) (fun p3=>?_)
 refine Q25 ?_
 have ⟨t37,ht37,p3⟩:=bE p3
 refine q14 S40 ht37 ?_
 refine q71 G77 ht37 ?_
 refine Q84 ?_
 refine zN (z0 (t:=8) (lq rfl) rfl rfl rfl) ?_
 refine Q0 ?_
 refine q5 zM9 ?_
 refine q3 O32 ?_
 refine q6 yX ?_
 refine Q46 ?_
 refine yY p3 (fun p3=>?_) (fun p3=>?_)
 refine Q22 ?_
 cases p3
 intro q;cases q
 exact ⟨rfl,wc⟩
 refine Q36 ?_
 cases p3
 exact wc
 refine zH ?_
 cases p3
 intro q;cases q
 exact ⟨rfl,wc⟩
 rintro y3 rfl
 replace h:=eL h
 refine Q4 ?_
 refine Q82 ?_
 have ⟨y4,hy4,h⟩:=bE h
 refine yB y4 (.exit 6) (fun y4=>⟨[],[]⟩) .ret (fun y4=>⟨[(2,.d (di y4))],[]⟩) ?_ ?_ ?_
 refine zE (fun x=>⟨[(44,.d (z8 eMapping a0)),(45,.d (di (a0.length:Int))),(46,.d (di x))],[]⟩) hy4 (wc) ?_
 rintro v46 sy4 p4
 replace p4:wI a0 v46=some sy4:=p4
 unfold wI at p4
 refine Q13 ?_
 refine yY p4 (fun p4=>?_) (fun p4=>?_)
 refine Q25 ?_
 have ⟨t48,ht48,p4⟩:=bE p4
 refine q14 S40 ht48 ?_
 refine q71 G77 ht48 ?_
 refine Q84 ?_
 refine zN (z0 (t:=10) (lq rfl) rfl rfl rfl) ?_
 refine Q0 ?_
 refine q5 zHY ?_
 refine q3 O9 ?_
 refine z1O ?_
 have ⟨b53,hb53,p4⟩:=bE p4
 refine yK ((zC (lq rfl) rfl).bool (oi hb53)) ?_
 refine q52 (.ip (eMapping.cells t48) (0+2)) zHY ?_
 refine q55 (.d (ds t48.Tag)) O9 ?_
 have ⟨t56,ht56,p4⟩:=bE p4
 refine sqt (.d (db t56)) rfl (fun hb=>by subst hb;exact uK (lq rfl) rfl (zIS ht56)) ?_
 refine sqt (.d (db (!t56))) rfl (fun hb=>by subst hb;exact zMF (lq rfl) rfl) ?_
 refine Q47 ?_
 refine yY p4 (fun p4=>?_) (fun p4=>?_)
 refine Q22 ?_
 cases p4
 intro q;cases q
 exact ⟨rfl,wc⟩
 refine Q36 ?_
 cases p4
 exact wc
 refine zH ?_
 cases p4
 intro q;cases q
 exact ⟨rfl,wc⟩
 rintro y4 rfl
 replace h:=eL h
 refine Q3 ?_
 cases h
 refine zB ?_
 exact zL rfl
 rintro y4 rfl
 replace h:=eR h
 cases h
 exact zL rfl
 rintro y3 rfl
 replace h:=eR h
 cases h
 exact zL rfl
 rintro y1 rfl
 replace h:=eR h
 cases h
 exact zL rfl
theorem zC3 {a0 r} (h:uB a0=some r):zG Tryd.prog 93 [(ds a0)] [(db r)]:=by
 refine co Tryd.func93 ?_;intro _ _ _ _
 unfold uB at h
 refine Q3 ?_
 refine Q28 ?_
 refine z1O ?_
 refine Q1 ?_
 cases h
 refine zB ?_
 exact zL rfl
theorem zFY {a0 a1 r} (h:wQ a0 a1=some r):zG Tryd.prog 88 [(ds a0),(ds a1)] [(di r)]:=by
 refine co Tryd.func88 ?_;intro _ _ _ _
 unfold wQ at h
 refine Q54 ?_
 have ⟨t8,ht8,h⟩:=bE h
 refine q7 (zC3 ht8) ?_
 refine Q10 ?_
 have ⟨t10,ht10,h⟩:=bE h
 refine q7 (zC3 ht10) ?_
 refine Q1 ?_
 refine Q74 ?_
 refine yY h (fun h=>?_) (fun h=>?_)
 refine Q74 ?_
 refine yY h (fun h=>?_) (fun h=>?_)
 refine Q3 ?_
 cases h
 refine zB ?_
 exact zL rfl
 refine Q43 ?_
 cases h
 refine zB ?_
 exact zL rfl
 refine zI<|Q74 ?_
 refine yY h (fun h=>?_) (fun h=>?_)
 refine Q3 ?_
 cases h
 refine zB ?_
 exact zL rfl
 refine zI<|Q14 ?_
 refine yK (z4T (a:=a0) (b:=a1) (lq rfl) rfl rfl) ?_
 refine zF ?_
 refine yY h (fun h=>?_) (fun h=>?_)
 refine Q3 ?_
 cases h
 refine zB ?_
 exact zL rfl
 refine zI<|Q14 ?_
 refine yK (z4U (a:=a0) (b:=a1) (lq rfl) rfl rfl) ?_
 refine zF ?_
 refine yY h (fun h=>?_) (fun h=>?_)
 refine Q3 ?_
 cases h
 refine zB ?_
 exact zL rfl
 refine Q43 ?_
 cases h
 refine zB ?_
 exact zL rfl
theorem zH2 {a0 r} (h:zBS a0=some r):zG Tryd.prog 87 [(z8 eI a0)] [(di r)]:=by
 refine co Tryd.func87 ?_;intro _ _ _ _
 unfold zBS at h
 refine Q3 ?_
 refine Q39 ?_
 refine Q58 ?_
 have ⟨y1,hy1,h⟩:=bE h
 refine yB y1 (.exit 0) (fun y1=>⟨[(3,.d (di 0))],[]⟩) .ret (fun y1=>⟨[(2,.d (di y1))],[]⟩) ?_ ?_ ?_
 refine zE (fun x=>⟨[(3,.d (di 0)),(6,.d (z8 eI a0)),(7,.d (di (a0.length:Int))),(8,.d (di x))],[]⟩) hy1 (wc) ?_
 rintro v8 sy1 p1
 replace p1:uY a0 v8=some sy1:=p1
 unfold uY at p1
 refine Q13 ?_
 refine yY p1 (fun p1=>?_) (fun p1=>?_)
 refine Q25 ?_
 have ⟨t10,ht10,p1⟩:=bE p1
 refine q14 yX ht10 ?_
 refine q49 O3 ht10 ?_
 refine Q65 ?_
 refine Q33 ?_
 refine yY p1 (fun p1=>?_) (fun p1=>?_)
 refine Q32 ?_
 refine zB ?_
 cases p1
 intro q;cases q
 exact ⟨rfl,wc⟩
 refine Q36 ?_
 cases p1
 exact wc
 refine zH ?_
 cases p1
 intro q;cases q
 exact ⟨rfl,wc⟩
 rintro y1 rfl
 replace h:=eL h
 refine Q32 ?_
 cases h
 refine zB ?_
 exact zL rfl
 rintro y1 rfl
 replace h:=eR h
 cases h
 exact zL rfl
theorem zH3 {a0 a1 r} (h:uT a0 a1=some r):zG Tryd.prog 78 [(eMapping.dv a0),(eMapping.dv a1)] [(di r)]:=by
 refine co Tryd.func78 ?_;intro _ _ _ _
 unfold uT at h
 refine Q44 ?_
 refine q47 ?_
 refine Q67 ?_
 refine kH MX rfl ?_
 refine q17 zGV ?_
 refine q27 O3 ?_
 refine q17 zGV ?_
 refine q27 O3 ?_
 have ⟨t9,ht9,h⟩:=bE h
 refine q26 (jX ht9) ?_
 refine q17 zHY ?_
 refine q27 O9 ?_
 refine q17 zHY ?_
 refine q27 O9 ?_
 have ⟨t14,ht14,h⟩:=bE h
 refine q26 (zFY ht14) ?_
 refine daa (zI6 (lq rfl) yX rfl rfl rfl rfl (by decide) rfl) ?_
 have ⟨t16,ht16,h⟩:=bE h
 refine q26 (zH2 ht16) ?_
 refine Q50 ?_
 cases h
 refine zB ?_
 exact zL rfl
theorem zE4 {a0 r} (h:zAV a0=some r):zG Tryd.prog 79 [(eMapping.dv a0)] [(eMapping_key.dv r)]:=by
 refine co Tryd.func79 ?_;intro _ _ _ _
 unfold zAV at h
 refine Q44 ?_
 refine kN rfl (yN (zs:=[(.int IntKind.i64 (0)),(.string ⟨#[]⟩)]) (lq rfl) (by kernel_rfl) rfl rfl) ?_
 refine Q34 ?_
 refine q5 zGV ?_
 refine q3 O3 ?_
 refine q5 zHY ?_
 refine q3 O9 ?_
 refine q51 z9Q ?_
 refine q13 z7Y ?_
 refine zF ?_
 cases h
 refine zB ?_
 exact zAJ rfl rfl z7Y rfl
theorem zJR {a0 r} (h:zAW a0=some r):zG Tryd.prog 59 [(z8 eMapping a0)] [(di r)]:=by
 refine co Tryd.func59 ?_;intro _ _ _ _
 unfold zAW at h
 refine Q39 ?_
 have ⟨t10,ht10,h⟩:=bE h
 refine q7 (zJQ ht10) ?_
 refine Q10 ?_
 refine Q33 ?_
 refine yY h (fun h=>?_) (fun h=>?_)
 refine Q32 ?_
 cases h
 refine zB ?_
 exact zL rfl
 refine Q43 ?_
 refine Q66 ?_
 have ⟨y1,hy1,h⟩:=bE h
 refine tl (.exit 0) ⟨[(0,.d (z8 eMapping a0)),(4,.d (db y1))],[]⟩ ?_ ?_
 refine zE (fun x=>⟨[(0,.d (z8 eMapping a0)),(4,.d (db x.1)),(5,.d (di x.2))],[]⟩) hy1 (wc) ?_
 rintro ⟨v4,v5⟩ sy1 p1
 replace p1:xC a0 v4 v5=some sy1:=p1
 unfold xC at p1
 refine Q14 ?_
 refine q6 S40 ?_
 refine Q7 ?_
 refine yY p1 (fun p1=>?_) (fun p1=>?_)
 refine Q5 ?_
 have ⟨y2,hy2,p1⟩:=bE p1
 refine tl .normal ⟨[(0,.d (z8 eMapping a0)),(4,.d (db y2)),(5,.d (di v5))],[]⟩ ?_ ?_
 refine yQ<|kQ ?_
 refine kH MX rfl ?_
 refine Q38 ?_
 refine zYK ?_
 have ⟨t23,ht23,hy2⟩:=bE hy2
 refine q42 S40 ht23 ?_
 refine daa (wN (en:=eMapping) (l:=a0) (i:=(wi (v5 - 1))) (v:=t23) (off:=0) (lq rfl) G77 rfl ht23 rfl rfl (by decide)) ?_
 refine Q38 ?_
 have ⟨t27,ht27,hy2⟩:=bE hy2
 refine q42 S40 ht27 ?_
 refine daa (wN (en:=eMapping) (l:=a0) (i:=v5) (v:=t27) (off:=0) (lq rfl) G77 rfl ht27 rfl rfl (by decide)) ?_
 have ⟨t29,ht29,hy2⟩:=bE hy2
 refine q26 (zH3 ht29) ?_
 refine daa (zKK (lq rfl) rfl rfl) ?_
 refine wZ ?_
 refine yY hy2 (fun hy2=>?_) (fun hy2=>?_)
 refine wY<|Q1 ?_
 cases hy2
 exact zJ (wc)
 refine zI ?_
 cases hy2
 exact zJ (wc)
 refine Q21 ?_
 cases p1
 exact wc
 refine zH ?_
 cases p1
 intro q;cases q
 exact zJ (wc)
 refine Q74 ?_
 refine yY h (fun h=>?_) (fun h=>?_)
 refine Q3 ?_
 cases h
 refine zB ?_
 exact zL rfl
 refine Q40 ?_
 refine zYF ?_
 refine Q19 ?_
 refine Q4 ?_
 refine Q82 ?_
 have ⟨y3,hy3,h⟩:=bE h
 refine yB y3 (.exit 2) (fun y3=>⟨[],[]⟩) .ret (fun y3=>⟨[(2,.d (di y3))],[]⟩) ?_ ?_ ?_
 refine zE (fun x=>⟨[(6,.row 32),(33,.d (z8 eMapping a0)),(34,.d (di (a0.length:Int))),(35,.d (di x.1))],[(32,.map (xL zCK eB x.2))]⟩) hy3 (wc) ?_
 rintro ⟨v35,r32⟩ sy3 p3
 replace p3:xD a0 v35 r32=some sy3:=p3
 unfold xD at p3
 refine Q13 ?_
 refine yY p3 (fun p3=>?_) (fun p3=>?_)
 refine Q25 ?_
 have ⟨t37,ht37,p3⟩:=bE p3
 refine q14 S40 ht37 ?_
 refine q71 G77 ht37 ?_
 refine Q84 ?_
 refine zN (z0 (t:=8) (lq rfl) rfl rfl rfl) ?_
 refine Q11 ?_
 refine q9 ?_
 refine q33 G77 ?_
 have ⟨t41,ht41,p3⟩:=bE p3
 refine q7 (zE4 ht41) ?_
 refine yK (zVH (kv:=zCK) (ev:=eB) (mp:=r32) (k:=t41) (zero:=false) (lq rfl) z73 z76 rfl rfl rfl (z06 rfl) (fun _ _=> .v _)) ?_
 refine zF ?_
 refine yY p3 (fun p3=>?_) (fun p3=>?_)
 refine Q22 ?_
 cases p3
 intro q;cases q
 exact ⟨rfl,wc⟩
 refine zI<|Q29 ?_
 refine q33 G77 ?_
 have ⟨t45,ht45,p3⟩:=bE p3
 refine q7 (zE4 ht45) ?_
 refine kN rfl (zHX (kv:=zCK) (ev:=eB) (mp:=r32) (k:=t45) (v:=true) z73 z76 rfl rfl rfl (z06 rfl) rfl rfl rfl) ?_
 refine zF<|Q16 ?_
 cases p3
 exact wc
 refine zH ?_
 cases p3
 intro q;cases q
 exact ⟨rfl,wc⟩
 rintro y3 rfl
 replace h:=eL h
 refine Q3 ?_
 cases h
 refine zB ?_
 exact zL rfl
 rintro y3 rfl
 replace h:=eR h
 cases h
 exact zL rfl
set_option maxRecDepth 20000 in
theorem zH4 {a0 r} (h:zCB a0=some r):zG Tryd.prog 106 [(.v (.int .u64 a0))] [(di r)]:=by
 refine co Tryd.func106 ?_;intro _ _ _ _
 unfold zCB at h
 refine Q39 ?_
 refine q48 ?_
 refine zF ?_
 have ⟨y1,hy1,h⟩:=bE h
 refine tl .normal ⟨[(0,.d (.v (.int .u64 y1.1))),(2,.d (di y1.2))],[]⟩ ?_ ?_
 refine yY hy1 (fun hy1=>?_) (fun hy1=>?_)
 refine Q2 ?_
 refine q45 ?_
 refine Q1 ?_
 refine wY<|Q1 ?_
 cases hy1
 exact zJ (wc)
 refine zI ?_
 cases hy1
 exact zJ (wc)
 refine Q4 ?_
 refine q48 ?_
 refine zF ?_
 have ⟨y2,hy2,h⟩:=bE h
 refine tl .normal ⟨[(0,.d (.v (.int .u64 y2.1))),(2,.d (di y2.2))],[]⟩ ?_ ?_
 refine yY hy2 (fun hy2=>?_) (fun hy2=>?_)
 refine Q2 ?_
 refine q45 ?_
 refine Q1 ?_
 refine Q21 ?_
 cases hy2
 exact zJ (wc)
 refine zI ?_
 cases hy2
 exact zJ (wc)
 refine Q4 ?_
 refine q48 ?_
 refine zF ?_
 have ⟨y3,hy3,h⟩:=bE h
 refine tl .normal ⟨[(0,.d (.v (.int .u64 y3.1))),(2,.d (di y3.2))],[]⟩ ?_ ?_
 refine yY hy3 (fun hy3=>?_) (fun hy3=>?_)
 refine Q2 ?_
 refine q45 ?_
 refine Q1 ?_
 refine Q21 ?_
 cases hy3
 exact zJ (wc)
 refine zI ?_
 cases hy3
 exact zJ (wc)
 refine Q28 ?_
 refine q28 Tryd.underlying71 Tryd.underlying5 ?_
 have ⟨t22,ht22,h⟩:=bE h
 refine yK (zKR (s:=[0,1,2,2,3,3,3,3,4,4,4,4,4,4,4,4,5,5,5,5,5,5,5,5,5,5,5,5,5,5,5,5,6,6,6,6,6,6,6,6,6,6,6,6,6,6,6,6,6,6,6,6,6,6,6,6,6,6,6,6,6,6,6,6,7,7,7,7,7,7,7,7,7,7,7,7,7,7,7,7,7,7,7,7,7,7,7,7,7,7,7,7,7,7,7,7,7,7,7,7,7,7,7,7,7,7,7,7,7,7,7,7,7,7,7,7,7,7,7,7,7,7,7,7,7,7,7,7,8,8,8,8,8,8,8,8,8,8,8,8,8,8,8,8,8,8,8,8,8,8,8,8,8,8,8,8,8,8,8,8,8,8,8,8,8,8,8,8,8,8,8,8,8,8,8,8,8,8,8,8,8,8,8,8,8,8,8,8,8,8,8,8,8,8,8,8,8,8,8,8,8,8,8,8,8,8,8,8,8,8,8,8,8,8,8,8,8,8,8,8,8,8,8,8,8,8,8,8,8,8,8,8,8,8,8,8,8,8,8,8,8,8,8,8,8,8,8,8,8,8,8,8,8,8,8,8]) (lq rfl) Tryd.underlying9 rfl rfl ht22) ?_
 refine q28 Tryd.underlying5 Tryd.underlying3 ?_
 refine Q18 ?_
 cases h
 refine zB ?_
 exact zL rfl
theorem zJS {a0 r} (h:zAX a0=some r):zG Tryd.prog 95 [(.v (.int .u64 a0))] [(di r)]:=by
 refine co Tryd.func95 ?_;intro _ _ _ _
 unfold zAX at h
 refine Q3 ?_
 refine kQ ?_
 refine yY h (fun h=>?_) (fun h=>?_)
 refine Q2 ?_
 refine q28 Tryd.underlying70 Tryd.underlying69 ?_
 cases h
 refine zI<|Q2 ?_
 have ⟨t7,ht7,h⟩:=bE h
 refine q7 (zH4 ht7) ?_
 refine Q1 ?_
 cases h
 refine zB ?_
 exact zL rfl
set_option maxHeartbeats 8000000 in
theorem u6 {fv3:DV} {a0:(List Range)} {a1:Int} {a2:Int} {a3:Range→Range→Option (Int)} (hf3:∀x0 x1 y,a3 x0 x1=some y→FnC Tryd.prog fv3 [(eRange.dv x0),(eRange.dv x1)] [(di y)]) {r:(List Range)} (h:yW a0 a1 a2 a3=some r):GC Tryd.prog 97 [.row 3000,.d (di a1),.d (di a2),.d fv3] [(3000,.row 113 eRange.size false (eRange.all a0))] [3000] [] [(3000,.row 113 eRange.size false (eRange.all r))]:=by
 refine zA5 Tryd.func97 (by kernel_rfl) rfl (lq rfl) (lq rfl) fun w0 I0 hG0 p0=>?_
 unfold yW at h
 refine Q2 ?_
 refine Q18 ?_
 refine yQ ?_
 have ⟨y1,hy1,h⟩:=bE h
 refine tl (.exit 0) ⟨[(0,.row 3000)],[(3000,.row 113 eRange.size false (eRange.all y1))]⟩ ?_ ?_
 refine zE (fun x=>⟨[(0,.row 3000),(1,.d (di a1)),(2,.d (di a2)),(3,.d fv3),(8,.d (di x.1))],[(3000,.row 113 eRange.size false (eRange.all x.2))]⟩) hy1 (wc) ?_
 rintro ⟨v8,r3000⟩ sy1 p1
 replace p1:zX a2 a1 a3 v8 r3000=some sy1:=p1
 unfold zX at p1
 refine Q49 ?_
 refine yY p1 (fun p1=>?_) (fun p1=>?_)
 refine Q9 ?_
 refine Q32 ?_
 refine yQ ?_
 have ⟨y2,hy2,p1⟩:=bE p1
 refine tl (.exit 2) ⟨[(0,.row 3000),(1,.d (di a1)),(2,.d (di a2)),(3,.d fv3),(8,.d (di v8))],[(3000,.row 113 eRange.size false (eRange.all y2))]⟩ ?_ ?_
 refine zE (fun x=>⟨[(0,.row 3000),(1,.d (di a1)),(2,.d (di a2)),(3,.d fv3),(8,.d (di v8)),(9,.d (di x.1))],[(3000,.row 113 eRange.size false (eRange.all x.2))]⟩) hy2 (wc) ?_
 rintro ⟨v9,r3000⟩ sy2 p2
 replace p2:z7 a1 a3 v9 r3000=some sy2:=p2
 unfold z7 at p2
 refine kQ<|kQ ?_
 refine kH MX rfl ?_
 refine Q38 ?_
 refine q85 ?_
 have ⟨b21,hb21,p2⟩:=bE p2
 refine daa ((zC (lq rfl) rfl).bool (oi hb21)) ?_
 refine q54 (.d fv3) ?_
 refine zYL (.row 3000) ?_
 refine q54 (.d (di v9)) ?_
 have ⟨t25,ht25,p2⟩:=bE p2
 refine dat (.ptr 3000 (v9.toNat*eRange.size)) rfl (fun hb=>by subst hb;exact zB1 (en:=eRange) (l:=r3000) (lq rfl) S41 rfl rfl rfl ht25) ?_
 refine dat (.d (eRange.dv t25)) rfl (fun hb=>by subst hb;exact xA (en:=eRange) (l:=r3000) (i:=v9) (v:=t25) (off:=0) (lq rfl) u5 rfl rfl ht25 rfl rfl (by decide)) ?_
 refine zYL (.row 3000) ?_
 refine q54 (.d (di v9)) ?_
 refine zYG (.d (di (wi (v9 - 1)))) ?_
 have ⟨t30,ht30,p2⟩:=bE p2
 refine dat (.ptr 3000 ((wi (v9 - 1)).toNat*eRange.size)) rfl (fun hb=>by subst hb;exact zB1 (en:=eRange) (l:=r3000) (lq rfl) S41 rfl rfl rfl ht30) ?_
 refine dat (.d (eRange.dv t30)) rfl (fun hb=>by subst hb;exact xA (en:=eRange) (l:=r3000) (i:=(wi (v9 - 1))) (v:=t30) (off:=0) (lq rfl) u5 rfl rfl ht30 rfl rfl (by decide)) ?_
 have ⟨t32,ht32,p2⟩:=bE p2
 refine dat (.d (di t32)) rfl (fun hb=>by subst hb;exact zBW (lq rfl) rfl rfl (hf3 _ _ _ ht32)) ?_
 refine dat (.d (db (decide (t32 < 0)))) rfl (fun hb=>by subst hb;exact zMC (lq rfl) rfl rfl) ?_
 refine q69 ?_
 refine wZ ?_
 refine yY p2 (fun p2=>?_) (fun p2=>?_)
 refine Q9 ?_
 have ⟨t45,ht45,p2⟩:=bE p2
 have ⟨t49,ht49,p2⟩:=bE p2
 have ⟨t51,ht51,p2⟩:=bE p2
 have ⟨r3000_6x15,hr3000_6x15,p2⟩:=bE p2
 have ⟨t52,ht52,p2⟩:=bE p2
 have ⟨r3000_6x17,hr3000_6x17,p2⟩:=bE p2
 refine tl .normal ⟨[(0,.row 3000),(1,.d (di a1)),(2,.d (di a2)),(3,.d fv3),(8,.d (di v8)),(9,.d (di v9))],[(3000,.row 113 eRange.size false (eRange.all r3000_6x17))]⟩ ?_ ?_
 refine zBX MX ?_
 refine Q80 ?_
 refine xm 2 ?_
 refine xm 3 ?_
 refine zER (i:=4) rfl (lq rfl) rfl rfl rfl rfl rfl rfl ?_
 refine xm 5 ?_
 refine xm 6 ?_
 refine zER (i:=7) rfl (lq rfl) rfl rfl rfl rfl rfl rfl ?_
 refine xm 10 ?_
 refine xm 11 ?_
 refine xn [8,12] ?_
 refine z1Q S41 ht45 ?_ ?_
 refine xn [9,12] ?_
 refine xa rfl (xA (en:=eRange) (l:=r3000) (i:=(wi (v9 - 1))) (v:=t45) (off:=0) (lq rfl) u5 rfl rfl ht45 rfl rfl (by decide)) ?_ ?_
 refine xn [12] ?_
 refine q25 S41 ht49 ?_
 refine xn [13] ?_
 refine xc rfl (xA (en:=eRange) (l:=r3000) (i:=v9) (v:=t49) (off:=0) (lq rfl) u5 rfl rfl ht49 rfl rfl (by decide)) ?_
 refine xn [14] ?_
 refine q25 S41 ht51 ?_
 refine xn [15] ?_
 refine q56 u5 hr3000_6x15 ?_
 refine xn [16] ?_
 refine q25 S41 ht52 ?_
 refine xn [17] ?_
 refine q56 u5 hr3000_6x17 ?_
 exact ae
 refine q25 S41 ht49 ?_
 refine xn [9,13] ?_
 refine xa rfl (xA (en:=eRange) (l:=r3000) (i:=(wi (v9 - 1))) (v:=t45) (off:=0) (lq rfl) u5 rfl rfl ht45 rfl rfl (by decide)) ?_ ?_
 refine xn [13] ?_
 refine xc rfl (xA (en:=eRange) (l:=r3000) (i:=v9) (v:=t49) (off:=0) (lq rfl) u5 rfl rfl ht49 rfl rfl (by decide)) ?_
 refine xn [14] ?_
 refine q25 S41 ht51 ?_
 refine xn [15] ?_
 refine q56 u5 hr3000_6x15 ?_
 refine xn [16] ?_
 refine q25 S41 ht52 ?_
 refine xn [17] ?_
 refine q56 u5 hr3000_6x17 ?_
 exact ae
 refine xc rfl (xA (en:=eRange) (l:=r3000) (i:=v9) (v:=t49) (off:=0) (lq rfl) u5 rfl rfl ht49 rfl rfl (by decide)) ?_
 refine xn [9] ?_
 refine xc rfl (xA (en:=eRange) (l:=r3000) (i:=(wi (v9 - 1))) (v:=t45) (off:=0) (lq rfl) u5 rfl rfl ht45 rfl rfl (by decide)) ?_
 refine xn [14] ?_
 refine q25 S41 ht51 ?_
 refine xn [15] ?_
 refine q56 u5 hr3000_6x15 ?_
 refine xn [16] ?_
 refine q25 S41 ht52 ?_
 refine xn [17] ?_
 refine q56 u5 hr3000_6x17 ?_
 exact ae
 refine q25 S41 ht49 ?_
 refine xn [8,13] ?_
 refine z1Q S41 ht45 ?_ ?_
 refine xn [9,13] ?_
 refine xa rfl (xA (en:=eRange) (l:=r3000) (i:=(wi (v9 - 1))) (v:=t45) (off:=0) (lq rfl) u5 rfl rfl ht45 rfl rfl (by decide)) ?_ ?_
 refine xn [13] ?_
 refine xc rfl (xA (en:=eRange) (l:=r3000) (i:=v9) (v:=t49) (off:=0) (lq rfl) u5 rfl rfl ht49 rfl rfl (by decide)) ?_
 refine xn [14] ?_
 refine q25 S41 ht51 ?_
 refine xn [15] ?_
 refine q56 u5 hr3000_6x15 ?_
 refine xn [16] ?_
 refine q25 S41 ht52 ?_
 refine xn [17] ?_
 refine q56 u5 hr3000_6x17 ?_
 exact ae
 refine xc rfl (xA (en:=eRange) (l:=r3000) (i:=v9) (v:=t49) (off:=0) (lq rfl) u5 rfl rfl ht49 rfl rfl (by decide)) ?_
 refine xn [9] ?_
 refine xc rfl (xA (en:=eRange) (l:=r3000) (i:=(wi (v9 - 1))) (v:=t45) (off:=0) (lq rfl) u5 rfl rfl ht45 rfl rfl (by decide)) ?_
 refine xn [14] ?_
 refine q25 S41 ht51 ?_
 refine xn [15] ?_
 refine q56 u5 hr3000_6x15 ?_
 refine xn [16] ?_
 refine q25 S41 ht52 ?_
 refine xn [17] ?_
 refine q56 u5 hr3000_6x17 ?_
 exact ae
 refine xc rfl (xA (en:=eRange) (l:=r3000) (i:=v9) (v:=t49) (off:=0) (lq rfl) u5 rfl rfl ht49 rfl rfl (by decide)) ?_
 refine xn [8] ?_
 refine q25 S41 ht45 ?_
 refine xn [9] ?_
 refine xc rfl (xA (en:=eRange) (l:=r3000) (i:=(wi (v9 - 1))) (v:=t45) (off:=0) (lq rfl) u5 rfl rfl ht45 rfl rfl (by decide)) ?_
 refine xn [14] ?_
 refine q25 S41 ht51 ?_
 refine xn [15] ?_
 refine q56 u5 hr3000_6x15 ?_
 refine xn [16] ?_
 refine q25 S41 ht52 ?_
 refine xn [17] ?_
 refine q56 u5 hr3000_6x17 ?_
 exact ae
 refine Q8 ?_
 refine Q52 ?_
 cases p2
 exact wc
 refine zH ?_
 cases p2
 intro q;cases q
 exact zJ (wc)
 refine Q21 ?_
 cases p1
 exact wc
 refine zH ?_
 cases p1
 intro q;cases q
 exact zJ (wc)
 cases h
 exact ⟨rfl,⟨rfl,trivial⟩⟩
theorem zBA {fv4:DV} {a0:(List Range)} {a1:Int} {a2:Int} {a3:Int} {a4:Range→Range→Option (Int)} (hf4:∀x0 x1 y,a4 x0 x1=some y→FnC Tryd.prog fv4 [(eRange.dv x0),(eRange.dv x1)] [(di y)]) {r:(List Range)} (h:jG a0 a1 a2 a3 a4=some r):GC Tryd.prog 94 [.row 3000,.d (di a1),.d (di a2),.d (di a3),.d fv4] [(3000,.row 113 eRange.size false (eRange.all a0))] [3000] [] [(3000,.row 113 eRange.size false (eRange.all r))]:=by
 refine zA5 Tryd.func94 (by kernel_rfl) rfl (lq rfl) (lq rfl) fun w0 I0 hG0 p0=>?_
 unfold jG at h
 refine Q3 ?_
 refine Q37 ?_
 have ⟨y1,hy1,h⟩:=bE h
 refine tl .ret ⟨[(0,.row 3000)],[(3000,.row 113 eRange.size false (eRange.all y1))]⟩ ?_ ?_
 refine zE (fun x=>⟨[(0,.row 3000),(1,.d (di a1)),(2,.d (di a2)),(3,.d (di a3)),(4,.d fv4),(10,.d (db true)),(11,.d (db true))],[(3000,.row 113 eRange.size false (eRange.all a0))]⟩) hy1 (wc) ?_
 rintro _ sy1 p1
 replace p1:yR a2 a1 a0 a4 a3=some sy1:=p1
 unfold yR at p1
 have ⟨y2,hy2,p1⟩:=bE p1
 refine tl .ret ⟨[(0,.row 3000)],[(3000,.row 113 eRange.size false (eRange.all y2))]⟩ ?_ ?_
 refine Q75 ?_
 refine Q52 ?_
 refine Q4 ?_
 refine q66 ?_
 refine zF ?_
 refine yY hy2 (fun hy2=>?_) (fun hy2=>?_)
 refine Q85 ?_
 have ⟨t30,ht30,hy2⟩:=bE hy2
 refine kN rfl (zAK [(3000,3000)] (u6 hf4 ht30) (lq rfl) (by decide) ⟨rfl,rfl,rfl,rfl,trivial⟩ rfl rfl ⟨rfl,trivial⟩ rfl rfl rfl rfl) ?_
 refine zF<|zB ?_
 cases hy2
 exact zJ (wc)
 refine zI<|Q4 ?_
 refine Q63 ?_
 refine yY hy2 (fun hy2=>?_) (fun hy2=>?_)
 refine Q85 ?_
 cases hy2
 refine zI<|Q4 ?_
 refine Q41 ?_
 have ⟨y3,hy3,hy2⟩:=bE hy2
 refine tl .normal ⟨[(0,.row 3000),(1,.d (di a1)),(2,.d (di a2)),(3,.d (di a3)),(4,.d fv4),(10,.d (db true)),(11,.d (db true)),(12,.d (di (wi (a2 - a1))))],[(3000,.row 113 eRange.size false (eRange.all a0))]⟩ ?_ ?_
 refine yY hy3 (fun hy3=>?_) (fun hy3=>?_)
 refine Q85 ?_
 cases hy3
 refine zI ?_
 cases hy3
 exact zJ (wc)
 refine Q85 ?_
 cases hy2
 cases p1
 intro q;cases q
 exact zJ (wc)
 cases h
 exact ⟨rfl,⟨rfl,trivial⟩⟩
theorem zAM {fv1:DV} {a0:(List Range)} {a1:Range→Range→Option (Int)} (hf1:∀x0 x1 y,a1 x0 x1=some y→FnC Tryd.prog fv1 [(eRange.dv x0),(eRange.dv x1)] [(di y)]) {r:(List Range)} (h:kC a0 a1=some r):GC Tryd.prog 89 [.row 3000,.d fv1] [(3000,.row 113 eRange.size false (eRange.all a0))] [3000] [] [(3000,.row 113 eRange.size false (eRange.all r))]:=by
 refine zA5 Tryd.func89 (by kernel_rfl) rfl (lq rfl) (lq rfl) fun w0 I0 hG0 p0=>?_
 unfold kC at h
 refine Q27 ?_
 refine z1P S41 ?_
 refine Q1 ?_
 refine Q86 ?_
 refine q28 Tryd.underlying3 Tryd.underlying70 ?_
 have ⟨t11,ht11,h⟩:=bE h
 refine q7 (zJS ht11) ?_
 refine q0 ?_
 have ⟨t13,ht13,h⟩:=bE h
 refine kN rfl (zAK [(3000,3000)] (zBA hf1 ht13) (lq rfl) (by decide) ⟨rfl,rfl,rfl,rfl,rfl,trivial⟩ rfl rfl ⟨rfl,trivial⟩ rfl rfl rfl rfl) ?_
 refine zF ?_
 cases h
 exact ⟨rfl,⟨rfl,trivial⟩⟩
theorem zK6 {a0 a1 r} (h:vJ a0 a1=some r):zG Tryd.prog 90 [(eRange.dv a0),(eRange.dv a1)] [(di r)]:=by
 refine co Tryd.func90 ?_;intro _ _ _ _
 unfold vJ at h
 refine Q0 ?_
 refine yK (zHS (size:=2) (lq rfl) rfl rfl) ?_
 refine yK (zHS (size:=2) (lq rfl) rfl rfl) ?_
 refine Q67 ?_
 refine kH MX rfl ?_
 refine q17 zG8 ?_
 refine q27 O3 ?_
 refine q17 zG8 ?_
 refine q27 O3 ?_
 have ⟨t9,ht9,h⟩:=bE h
 refine q26 (jX ht9) ?_
 refine q17 zDS ?_
 refine q27 O3 ?_
 refine q17 zDS ?_
 refine q27 O3 ?_
 have ⟨t14,ht14,h⟩:=bE h
 refine q26 (jX ht14) ?_
 refine daa (zI6 (lq rfl) yX rfl rfl rfl rfl (by decide) rfl) ?_
 have ⟨t16,ht16,h⟩:=bE h
 refine q26 (zH2 ht16) ?_
 refine Q50 ?_
 cases h
 refine zB ?_
 exact zL rfl
theorem zOC {a0 r} (h:zC2 a0=some r):zG Tryd.prog 80 [(z8 eRange a0)] [(eSet.dv r)]:=by
 refine co Tryd.func80 ?_;intro _ _ _ _
 unfold zC2 at h
 refine Q0 ?_
 refine kN rfl (yN (zs:=[(.slice none 0 0)]) (lq rfl) (by kernel_rfl) rfl rfl) ?_
 refine zF<|Q3 ?_
 refine zN (zAQ (t:=3) 1003 113 eRange.size (lq rfl) (lq rfl) rfl rfl) ?_
 refine Q4 ?_
 refine q6 S41 ?_
 refine Q17 ?_
 have ⟨y1,hy1,h⟩:=bE h
 refine tl (.exit 0) ⟨[(2,.ptr 2 0),(3,.row 1003)],[(2,.box 43 [.d (.v (.slice none 0 0))]),(1003,.row 113 eRange.size false (eRange.all y1))]⟩ ?_ ?_
 refine zE (fun x=>⟨[(2,.ptr 2 0),(3,.row 1003),(11,.d (z8 eRange a0)),(12,.d (di (a0.length:Int))),(13,.d (di x.1))],[(2,.box 43 [.d (.v (.slice none 0 0))]),(1003,.row 113 eRange.size false (eRange.all x.2))]⟩) hy1 (wc) ?_
 rintro ⟨v13,r1003⟩ sy1 p1
 replace p1:vQ a0 v13 r1003=some sy1:=p1
 unfold vQ at p1
 refine Q13 ?_
 refine yY p1 (fun p1=>?_) (fun p1=>?_)
 refine Q5 ?_
 have ⟨y2,hy2,p1⟩:=bE p1
 refine tl .normal ⟨[(2,.ptr 2 0),(3,.row 1003),(11,.d (z8 eRange a0)),(12,.d (di (a0.length:Int))),(13,.d (di v13))],[(2,.box 43 [.d (.v (.slice none 0 0))]),(1003,.row 113 eRange.size false (eRange.all y2))]⟩ ?_ ?_
 refine yQ<|Q0 ?_
 have ⟨t15,ht15,hy2⟩:=bE hy2
 refine q14 S41 ht15 ?_
 refine yK (wN (en:=eRange) (l:=a0) (i:=v13) (v:=t15) (off:=0) (lq rfl) u5 rfl ht15 rfl rfl (by decide)) ?_
 refine q78 ?_
 refine Q81 ?_
 refine zN (z0 (t:=5) (lq rfl) rfl rfl rfl) ?_
 refine Q0 ?_
 refine q5 zG8 ?_
 refine q3 O3 ?_
 refine yK (zPF (lq rfl) rfl rfl) ?_
 refine q5 zDS ?_
 refine q3 O3 ?_
 refine z1U ?_
 refine q51 z47 ?_
 refine q78 ?_
 refine Q81 ?_
 refine zN (z0 (t:=6) (lq rfl) rfl rfl rfl) ?_
 refine Q0 ?_
 refine q5 zG8 ?_
 refine q3 O3 ?_
 refine q5 zDS ?_
 refine q3 O3 ?_
 refine q66 ?_
 refine zF ?_
 refine yY hy2 (fun hy2=>?_) (fun hy2=>?_)
 refine Q29 ?_
 refine q33 u5 ?_
 refine q35 S41 ?_
 have ⟨r1003_3,hr1003_3,hy2⟩:=bE hy2
 refine q34 S41 hr1003_3 ?_
 refine Q19 ?_
 cases hy2
 exact zJ (wc)
 refine zI ?_
 cases hy2
 exact zJ (wc)
 refine Q16 ?_
 cases p1
 exact wc
 refine zH ?_
 cases p1
 intro q;cases q
 exact zJ (wc)
 refine Q27 ?_
 have ⟨t35,ht35,h⟩:=bE h
 refine kN rfl (zBO [(3000,1003)] (zAM (fun _ _ _ q=> .inr ⟨_,rfl,zK6 q⟩) ht35) (lq rfl) (by decide) ⟨rfl,rfl,trivial⟩ rfl rfl ⟨rfl,trivial⟩ rfl rfl rfl (fun _=>rfl) rfl) ?_
 refine zF<|Q3 ?_
 refine zN (zAQ (t:=7) 1007 113 eRange.size (lq rfl) (lq rfl) rfl rfl) ?_
 refine Q11 ?_
 refine q9 ?_
 refine z1P S41 ?_
 refine Q17 ?_
 have ⟨y4,hy4,h⟩:=bE h
 refine tl (.exit 2) ⟨[(2,.ptr 2 0),(7,.row 1007)],[(2,.box 43 [.d (.v (.slice none 0 0))]),(1007,.row 113 eRange.size false (eRange.all y4))]⟩ ?_ ?_
 refine zE (fun x=>⟨[(2,.ptr 2 0),(7,.row 1007),(36,.row 1003),(37,.d (di (t35.length:Int))),(38,.d (di x.1))],[(2,.box 43 [.d (.v (.slice none 0 0))]),(1003,.row 113 eRange.size false (eRange.all t35)),(1007,.row 113 eRange.size false (eRange.all x.2))]⟩) hy4 (wc) ?_
 rintro ⟨v38,r1007⟩ sy4 p4
 replace p4:vR t35 v38 r1007=some sy4:=p4
 unfold vR at p4
 refine Q13 ?_
 refine yY p4 (fun p4=>?_) (fun p4=>?_)
 refine Q5 ?_
 have ⟨y5,hy5,p4⟩:=bE p4
 refine tl .normal ⟨[(2,.ptr 2 0),(7,.row 1007),(36,.row 1003),(37,.d (di (t35.length:Int))),(38,.d (di v38))],[(2,.box 43 [.d (.v (.slice none 0 0))]),(1003,.row 113 eRange.size false (eRange.all t35)),(1007,.row 113 eRange.size false (eRange.all y5))]⟩ ?_ ?_
 refine yQ<|Q0 ?_
 have ⟨t40,ht40,hy5⟩:=bE hy5
 refine yK (zB1 (en:=eRange) (l:=t35) (lq rfl) S41 rfl rfl rfl ht40) ?_
 refine yK (xA (en:=eRange) (l:=t35) (i:=v38) (v:=t40) (off:=0) (lq rfl) u5 rfl rfl ht40 rfl rfl (by decide)) ?_
 refine q78 ?_
 refine Q81 ?_
 refine zN (z0 (t:=9) (lq rfl) rfl rfl rfl) ?_
 refine Q11 ?_
 refine q9 ?_
 refine z1P S41 ?_
 refine Q67 ?_
 refine kH MX rfl ?_
 refine q8 ?_
 refine q85 ?_
 have ⟨b46,hb46,hy5⟩:=bE hy5
 refine daa ((zC (lq rfl) rfl).bool (oi hb46)) ?_
 refine q86 (.ip (eRange.cells t40) (0+0)) zG8 ?_
 refine q87 (.d (di t40.Lo)) O3 ?_
 refine zYL (.row 1007) ?_
 refine q54 (.d (di (r1007.length:Int))) ?_
 refine zYG (.d (di (wi ((r1007.length:Int) - 1)))) ?_
 have ⟨t52,ht52,hy5⟩:=bE hy5
 refine dat (.ptr 1007 ((wi ((r1007.length:Int) - 1)).toNat*eRange.size)) rfl (fun hb=>by subst hb;exact zB1 (en:=eRange) (l:=r1007) (lq rfl) S41 rfl rfl rfl ht52) ?_
 refine dat (.ptr 1007 ((wi ((r1007.length:Int) - 1)).toNat*eRange.size+1)) rfl (fun hb=>by subst hb;exact zCA (lq rfl) zDS rfl) ?_
 refine dat (.d (di t52.Hi)) rfl (fun hb=>by subst hb;exact vH (en:=eRange) (l:=r1007) (i:=(wi ((r1007.length:Int) - 1))) (v:=t52) (off:=1) (lq rfl) O3 rfl rfl ht52 rfl) ?_
 refine dat (.d (di (wi (t52.Hi+1)))) rfl (fun hb=>by subst hb;exact zPR (lq rfl) rfl rfl) ?_
 refine dat (.d (db (decide (t40.Lo≤(wi (t52.Hi+1)))))) rfl (fun hb=>by subst hb;exact zI5 (lq rfl) rfl rfl) ?_
 refine q69 ?_
 refine wZ ?_
 refine yY hy5 (fun hy5=>?_) (fun hy5=>?_)
 refine kQ ?_
 refine zD0 14 MX rfl ?_
 refine Q76 ?_
 refine zYK ?_
 refine Q76 ?_
 refine zYK ?_
 have ⟨t64,ht64,hy5⟩:=bE hy5
 refine daa (zB1 (en:=eRange) (l:=r1007) (lq rfl) S41 rfl rfl rfl ht64) ?_
 refine q77 zDS ?_
 refine daa (vH (en:=eRange) (l:=r1007) (i:=(wi ((r1007.length:Int) - 1))) (v:=t64) (off:=1) (lq rfl) O3 rfl rfl ht64 rfl) ?_
 refine q17 zDS ?_
 refine q27 O3 ?_
 refine daa (zPF (lq rfl) rfl rfl) ?_
 have ⟨t70,ht70,hy5⟩:=bE hy5
 refine daa (zB1 (en:=eRange) (l:=r1007) (lq rfl) S41 rfl rfl rfl ht70) ?_
 refine q77 zDS ?_
 refine wZ ?_
 have ⟨r1007_6,hr1007_6,hy5⟩:=bE hy5
 refine kN rfl (zAI (en:=eRange) (l:=r1007) (i:=(wi ((r1007.length:Int) - 1))) (v:=t70) (off:=1) O3 rfl rfl rfl ht70 rfl (by decide) hr1007_6 rfl rfl) ?_
 refine zF<|zH ?_
 cases hy5
 exact zJ (wc)
 refine zI<|Q29 ?_
 refine q33 u5 ?_
 refine q35 S41 ?_
 have ⟨r1007_7,hr1007_7,hy5⟩:=bE hy5
 refine q34 S41 hr1007_7 ?_
 refine Q19 ?_
 cases hy5
 exact zJ (wc)
 refine Q16 ?_
 cases p4
 exact wc
 refine zH ?_
 cases p4
 intro q;cases q
 exact zJ (wc)
 refine Q27 ?_
 refine zF5 (zCZ (t:=77) (lq rfl) rfl rfl) ?_ (by simp)
 refine q51 B43 ?_
 refine q13 G43 ?_
 refine zF ?_
 cases h
 refine zB ?_
 exact zAJ rfl rfl G43 rfl
theorem zLY {a0 r} (h:zB3 a0=some r):zG Tryd.prog 60 [(eSet.dv a0)] [(db r)]:=by
 refine co Tryd.func60 ?_;intro _ _ _ _
 unfold zB3 at h
 refine Q0 ?_
 refine q74 ?_
 refine Q45 ?_
 refine q5 zM5 ?_
 refine q3 O41 ?_
 have ⟨t8,ht8,h⟩:=bE h
 refine q7 (zOC ht8) ?_
 refine kN rfl (yN (zs:=[(.slice none 0 0)]) (lq rfl) (by kernel_rfl) rfl rfl) ?_
 refine q13 G43 ?_
 refine zF ?_
 refine zN (z0 (t:=3) (lq rfl) rfl rfl rfl) ?_
 refine Q11 ?_
 refine q5 zM5 ?_
 refine q3 O41 ?_
 refine q6 S41 ?_
 refine q5 zM5 ?_
 refine q3 O41 ?_
 refine q6 S41 ?_
 refine Q33 ?_
 refine yY h (fun h=>?_) (fun h=>?_)
 refine Q3 ?_
 cases h
 refine zB ?_
 exact zL rfl
 refine Q55 ?_
 refine q5 zM5 ?_
 refine q3 O41 ?_
 refine q6 S41 ?_
 refine Q17 ?_
 have ⟨y1,hy1,h⟩:=bE h
 refine yB y1 (.exit 0) (fun y1=>⟨[],[]⟩) .ret (fun y1=>⟨[(2,.d (db y1))],[]⟩) ?_ ?_ ?_
 refine zE (fun x=>⟨[(1,.d (.pt (eSet.cells a0))),(17,.d (z8 eRange t8.Ranges)),(18,.d (di (t8.Ranges.length:Int))),(19,.d (di x))],[]⟩) hy1 (wc) ?_
 rintro v19 sy1 p1
 replace p1:uC t8 a0 v19=some sy1:=p1
 unfold uC at p1
 refine Q13 ?_
 refine yY p1 (fun p1=>?_) (fun p1=>?_)
 refine Q9 ?_
 refine Q2 ?_
 have ⟨t22,ht22,p1⟩:=bE p1
 refine q14 S41 ht22 ?_
 refine yK (wN (en:=eRange) (l:=t8.Ranges) (i:=v19) (v:=t22) (off:=0) (lq rfl) u5 rfl ht22 rfl rfl (by decide)) ?_
 refine q78 ?_
 refine q1 ?_
 refine Q81 ?_
 refine zN (z0 (t:=5) (lq rfl) rfl rfl rfl) ?_
 refine kQ ?_
 refine kH MX rfl ?_
 refine q72 u5 ?_
 refine q17 zM5 ?_
 refine q27 O41 ?_
 refine q8 ?_
 have ⟨t28,ht28,p1⟩:=bE p1
 refine q42 S41 ht28 ?_
 refine daa (wN (en:=eRange) (l:=a0.Ranges) (i:=v19) (v:=t28) (off:=0) (lq rfl) u5 rfl ht28 rfl rfl (by decide)) ?_
 refine daa (zSZ (en:=eRange) (a:=t22) (b:=t28) (lq rfl) z9T rfl rfl) ?_
 refine wZ ?_
 refine yY p1 (fun p1=>?_) (fun p1=>?_)
 refine Q22 ?_
 cases p1
 intro q;cases q
 exact ⟨rfl,wc⟩
 refine Q36 ?_
 cases p1
 exact wc
 refine zH ?_
 cases p1
 intro q;cases q
 exact ⟨rfl,wc⟩
 rintro y1 rfl
 replace h:=eL h
 refine Q3 ?_
 cases h
 refine zB ?_
 exact zL rfl
 rintro y1 rfl
 replace h:=eR h
 cases h
 exact zL rfl
theorem zDV {a0 r} (h:zAB a0=some r):zG Tryd.prog 61 [(di a0)] [(di r)]:=by
 refine co Tryd.func61 ?_;intro _ _ _ _
 unfold zAB at h
 refine Q3 ?_
 refine Q42 ?_
 refine Q2 ?_
 refine q48 ?_
 have ⟨b6,hb6,h⟩:=bE h
 refine yK ((zC (lq rfl) rfl).bool (oi hb6)) ?_
 refine q20 (.d (di a0)) ?_
 refine q64 (.d (db (decide (a0 < 4371)))) ?_
 refine Q35 ?_
 refine yY h (fun h=>?_) (fun h=>?_)
 refine Q3 ?_
 cases h
 refine zB ?_
 exact zL rfl
 refine Q2 ?_
 refine q48 ?_
 have ⟨b13,hb13,h⟩:=bE h
 refine yK ((zC (lq rfl) rfl).bool (oi hb13)) ?_
 refine q20 (.d (di a0)) ?_
 refine q64 (.d (db (decide (a0 < 4470)))) ?_
 refine Q35 ?_
 refine yY h (fun h=>?_) (fun h=>?_)
 refine Q3 ?_
 cases h
 refine zB ?_
 exact zL rfl
 refine Q2 ?_
 refine q48 ?_
 have ⟨b20,hb20,h⟩:=bE h
 refine yK ((zC (lq rfl) rfl).bool (oi hb20)) ?_
 refine q20 (.d (di a0)) ?_
 refine q64 (.d (db (decide (a0 < 4547)))) ?_
 refine Q35 ?_
 refine yY h (fun h=>?_) (fun h=>?_)
 refine Q3 ?_
 cases h
 refine zB ?_
 exact zL rfl
 refine Q2 ?_
 refine q2 ?_
 have ⟨b27,hb27,h⟩:=bE h
 refine yK ((zC (lq rfl) rfl).bool (oi hb27)) ?_
 refine q21 (.d (di a0)) ?_
 refine zYD (.d (db (decide (55204≤a0)))) ?_
 refine q12 ?_
 refine Q1 ?_
 refine yY h (fun h=>?_) (fun h=>?_)
 refine Q3 ?_
 cases h
 refine zB ?_
 exact zL rfl
 refine Q2 ?_
 refine q30 ?_
 have ⟨t34,ht34,h⟩:=bE h
 refine z1X ht34 ?_
 refine Q73 ?_
 refine yY h (fun h=>?_) (fun h=>?_)
 refine Q3 ?_
 cases h
 refine zB ?_
 exact zL rfl
 refine Q43 ?_
 cases h
 refine zB ?_
 exact zL rfl
theorem zDL {a0 r} (h:w9 a0=some r):zG Tryd.prog 47 [(z8 eSpan a0)] [(z8 eSpan r)]:=by
 refine co Tryd.func47 ?_;intro _ _ _ _
 unfold w9 at h
 refine Q39 ?_
 have ⟨t4,ht4,h⟩:=bE h
 refine q7 (zD7 ht4) ?_
 refine Q33 ?_
 refine yY h (fun h=>?_) (fun h=>?_)
 refine Q3 ?_
 refine zN (zEJ (t:=2) eSpan.size (lq rfl) rfl) ?_
 cases h
 refine zB ?_
 exact zL rfl
 refine zI<|Q32 ?_
 cases h
 refine zB ?_
 exact zL rfl
theorem vO {fv2:DV} {a0:(List Span)} {a1:Int} {a2:Span→Int→Option (Int)} (hf2:∀x0 x1 y,a2 x0 x1=some y→FnC Tryd.prog fv2 [(eSpan.dv x0),(di x1)] [(di y)]) {r:Int×Bool} (h:yV a0 a1 a2=some r):zG Tryd.prog 73 [(z8 eSpan a0),(di a1),fv2] [(di r.1),(db r.2)]:=by
 refine co Tryd.func73 ?_;intro _ _ _ _
 unfold yV at h
 refine Q0 ?_
 refine Q53 ?_
 refine q6 S39 ?_
 refine Q10 ?_
 refine Q24 ?_
 refine Q42 ?_
 have ⟨y1,hy1,h⟩:=bE h
 refine tl (.exit 0) ⟨[(0,.d (z8 eSpan a0)),(1,.d (di a1)),(2,.d fv2),(8,.d (di (a0.length:Int))),(9,.d (di y1))],[]⟩ ?_ ?_
 refine zE (fun x=>⟨[(0,.d (z8 eSpan a0)),(1,.d (di a1)),(2,.d fv2),(8,.d (di (a0.length:Int))),(9,.d (di x.1)),(10,.d (di x.2))],[]⟩) hy1 (wc) ?_
 rintro ⟨v9,v10⟩ sy1 p1
 replace p1:zS a0 a2 a1 v9 v10=some sy1:=p1
 unfold zS at p1
 refine Q49 ?_
 refine yY p1 (fun p1=>?_) (fun p1=>?_)
 refine zI ?_
 have ⟨y2,hy2,p1⟩:=bE p1
 refine tl .normal ⟨[(0,.d (z8 eSpan a0)),(1,.d (di a1)),(2,.d fv2),(8,.d (di (a0.length:Int))),(9,.d (di y2.1)),(10,.d (di y2.2))],[]⟩ ?_ ?_
 refine Q75 ?_
 refine Q89 ?_
 refine Q10 ?_
 refine Q20 ?_
 have ⟨t27,ht27,hy2⟩:=bE hy2
 refine q14 S39 ht27 ?_
 refine z1W G99 ht27 ?_
 refine q0 ?_
 have ⟨t30,ht30,hy2⟩:=bE hy2
 refine yK (zBW (lq rfl) rfl rfl (hf2 _ _ _ ht30)) ?_
 refine Q7 ?_
 refine yY hy2 (fun hy2=>?_) (fun hy2=>?_)
 refine Q21 ?_
 cases hy2
 exact zJ (wc)
 refine Q68 ?_
 cases hy2
 exact zJ (wc)
 cases p1
 exact wc
 refine zH ?_
 cases p1
 intro q;cases q
 exact zJ (wc)
 refine Q2 ?_
 refine Q20 ?_
 refine q2 ?_
 have ⟨b39,hb39,h⟩:=bE h
 refine yK ((zC (lq rfl) rfl).bool (oi hb39)) ?_
 refine q20 (.d fv2) ?_
 refine q20 (.d (z8 eSpan a0)) ?_
 refine q20 (.d (di y1)) ?_
 have ⟨t43,ht43,h⟩:=bE h
 refine sqt (.ip (eSpan.all a0) (y1.toNat*eSpan.size)) rfl (fun hb=>by subst hb;exact zBV (en:=eSpan) (lq rfl) S39 rfl rfl ht43) ?_
 refine sqt (.d (eSpan.dv t43)) rfl (fun hb=>by subst hb;exact wN (en:=eSpan) (l:=a0) (i:=y1) (v:=t43) (off:=0) (lq rfl) G99 rfl ht43 rfl rfl (by decide)) ?_
 refine q20 (.d (di a1)) ?_
 have ⟨t46,ht46,h⟩:=bE h
 refine sqt (.d (di t46)) rfl (fun hb=>by subst hb;exact zBW (lq rfl) rfl rfl (hf2 _ _ _ ht46)) ?_
 refine q62 (.d (db (decide (t46=0)))) ?_
 refine q16 ?_
 refine Q24 ?_
 cases h
 refine zB ?_
 exact zEK rfl rfl
theorem zHA {a0 a1 r} (h:wJ a0 a1=some r):zG Tryd.prog 74 [(eSpan.dv a0),(di a1)] [(di r)]:=by
 refine co Tryd.func74 ?_;intro _ _ _ _
 unfold wJ at h
 refine Q44 ?_
 refine Q1 ?_
 refine Q42 ?_
 refine Q0 ?_
 refine q5 zK1 ?_
 refine q3 O3 ?_
 refine q0 ?_
 refine q2 ?_
 refine Q1 ?_
 refine yY h (fun h=>?_) (fun h=>?_)
 refine Q3 ?_
 cases h
 refine zB ?_
 exact zL rfl
 refine Q0 ?_
 refine q5 zK0 ?_
 refine q3 O3 ?_
 refine q0 ?_
 refine q40 ?_
 refine Q1 ?_
 refine yY h (fun h=>?_) (fun h=>?_)
 refine Q3 ?_
 cases h
 refine zB ?_
 exact zL rfl
 refine Q43 ?_
 cases h
 refine zB ?_
 exact zL rfl
theorem zBU {a0 a1 r} (h:yZ a0 a1=some r):zG Tryd.prog 53 [(z8 eSpan a0),(di a1)] [(di r)]:=by
 refine co Tryd.func53 ?_;intro _ _ _ _
 unfold yZ at h
 refine Q3 ?_
 refine Q28 ?_
 have ⟨t10,ht10,h⟩:=bE h
 refine q7 (vO (fun _ _ _ q=> .inr ⟨_,rfl,zHA q⟩) ht10) ?_
 refine Q70 ?_
 refine Q90 ?_
 refine Q41 ?_
 refine yY h (fun h=>?_) (fun h=>?_)
 refine Q3 ?_
 cases h
 refine zB ?_
 exact zL rfl
 refine zI<|Q28 ?_
 have ⟨t17,ht17,h⟩:=bE h
 refine q14 S39 ht17 ?_
 refine q90 zK2 ?_
 refine yK (wU (en:=eSpan) (l:=a0) (i:=t10.1) (v:=t17) (off:=2) (lq rfl) O3 rfl ht17 rfl) ?_
 refine Q1 ?_
 cases h
 refine zB ?_
 exact zL rfl
theorem zDM {items:List Range} {a1:(List Int)} {a2:(List Span)} {r:Unit} (h:vA items a1 a2=some r):zMK Tryd.prog 70 [(.pt [(z8 eI a1)]),(.pt [(z8 eSpan a2)])] (items.map fun x=>[eRange.dv x]):=by
 refine z0W Tryd.func70 (by kernel_rfl) rfl (lq rfl) (lq rfl) fun w0 I0 J hc hg hG l0 hE=>?_
 unfold vA at h
 refine Q3 ?_
 refine Q11 ?_
 refine q65 O32 ?_
 refine Q58 ?_
 have ⟨y1,hy1,h⟩:=bE h
 refine yB y1 (.exit 0) (fun y1=>⟨[(0,.d (.v (.func (.yield l0) #[] #[]))),(1,.d (.pt [(z8 eI a1)])),(4,.d (di y1.1)),(1000000,.gh y1.2)],[]⟩) .ret (fun y1=>⟨[(1000000,.gh y1)],[]⟩) ?_ ?_ ?_
 refine zE (fun x=>⟨[(0,.d (.v (.func (.yield l0) #[] #[]))),(1,.d (.pt [(z8 eI a1)])),(2,.d (.pt [(z8 eSpan a2)])),(4,.d (di x.1)),(8,.d (z8 eI a1)),(9,.d (di (a1.length:Int))),(10,.d (di x.2.1)),(1000000,.gh x.2.2)],[]⟩) hy1 (wc) ?_
 rintro ⟨v4,v10,v1000000⟩ sy1 p1
 replace p1:yS a1 a2 items v4 v10 v1000000=some sy1:=p1
 unfold yS at p1
 refine Q13 ?_
 refine yY p1 (fun p1=>?_) (fun p1=>?_)
 refine Q5 ?_
 have ⟨y2,hy2,p1⟩:=bE p1
 refine yB y2 .normal (fun y2=>⟨[(0,.d (.v (.func (.yield l0) #[] #[]))),(1,.d (.pt [(z8 eI a1)])),(2,.d (.pt [(z8 eSpan a2)])),(4,.d (di y2.1)),(8,.d (z8 eI a1)),(9,.d (di (a1.length:Int))),(10,.d (di v10)),(1000000,.gh y2.2)],[]⟩) .ret (fun y2=>⟨[(1000000,.gh y2)],[]⟩) ?_ ?_ ?_
 refine Q64 ?_
 have ⟨t13,ht13,hy2⟩:=bE hy2
 refine q14 yX ht13 ?_
 refine q49 O3 ht13 ?_
 refine Q24 ?_
 refine Q0 ?_
 refine q65 O39 ?_
 refine q0 ?_
 have ⟨t17,ht17,hy2⟩:=bE hy2
 refine q7 (zBU ht17) ?_
 refine Q73 ?_
 have ⟨y3,hy3,hy2⟩:=bE hy2
 refine yB y3 .normal (fun y3=>⟨[(0,.d (.v (.func (.yield l0) #[] #[]))),(1,.d (.pt [(z8 eI a1)])),(2,.d (.pt [(z8 eSpan a2)])),(4,.d (di y3.1)),(8,.d (z8 eI a1)),(9,.d (di (a1.length:Int))),(10,.d (di v10)),(1000000,.gh y3.2)],[]⟩) .ret (fun y3=>⟨[(1000000,.gh y3)],[]⟩) ?_ ?_ ?_
 refine Q64 ?_
 refine q39 ?_
 have ⟨b22,hb22,hy3⟩:=bE hy3
 refine yK ((zC (lq rfl) rfl).bool (oi hb22)) ?_
 refine q20 (.d (di v4)) ?_
 refine q64 (.d (db (decide (v4 < 0)))) ?_
 refine Q35 ?_
 refine yY hy3 (fun hy3=>?_) (fun hy3=>?_)
 refine Q68 ?_
 cases hy3
 exact ⟨rfl,wc⟩
 refine Q2 ?_
 have ⟨b29,hb29,hy3⟩:=bE hy3
 refine yK ((zC (lq rfl) rfl).bool (oi hb29)) ?_
 refine q20 (.d (di v4)) ?_
 refine sqt (.d (db (decide (0≤v4)))) rfl (fun hb=>by subst hb;exact zKK (lq rfl) rfl rfl) ?_
 refine Q35 ?_
 refine yY hy3 (fun hy3=>?_) (fun hy3=>?_)
 refine Q14 ?_
 refine q0 ?_
 refine q51 z47 ?_
 have ⟨u37,hu37,hy3⟩:=bE hy3
 refine kN rfl (zST (k:=v1000000) (lq rfl) hE rfl rfl rfl (zXY _ hu37)) ?_
 refine Q41 ?_
 refine yY hy3 (fun hy3=>?_) (fun hy3=>?_)
 refine zB ?_
 cases hy3
 exact ⟨rfl,wc⟩
 refine zI<|wY<|Q1 ?_
 cases hy3
 exact ⟨rfl,wc⟩
 refine zI ?_
 cases hy3
 exact ⟨rfl,wc⟩
 rintro y3 rfl
 replace hy2:=eL hy2
 cases hy2
 exact ⟨rfl,wc⟩
 rintro y3 rfl
 replace hy2:=eR hy2
 cases hy2
 exact ⟨rfl,wc⟩
 rintro y2 rfl
 replace p1:=eL p1
 refine Q16 ?_
 cases p1
 exact wc
 rintro y2 rfl
 replace p1:=eR p1
 cases p1
 intro q;cases q
 exact ⟨rfl,wc⟩
 refine zH ?_
 cases p1
 intro q;cases q
 exact ⟨rfl,wc⟩
 rintro y1 rfl
 replace h:=eL h
 refine Q2 ?_
 refine q48 ?_
 refine zF ?_
 refine yY h (fun h=>?_) (fun h=>?_)
 refine Q57 ?_
 refine q65 O32 ?_
 refine q6 yX ?_
 refine q51 z47 ?_
 have ⟨u47,hu47,h⟩:=bE h
 refine kN rfl (zST (k:=y1.2) (lq rfl) hE rfl rfl rfl (zXY _ hu47)) ?_
 refine zF ?_
 exact ⟨rfl,zKX _ h⟩
 refine zI ?_
 exact ⟨rfl,zKX _ h⟩
 rintro y1 rfl
 replace h:=eR h
 exact ⟨rfl,zKX _ h⟩
theorem zE5 {a0:List Span} {a1:List Int}:zG Tryd.prog 49 [(z8 eSpan a0),(z8 eI a1)] [.fn 70 [.pt [z8 eI a1],.pt [z8 eSpan a0]]]:=by
 refine co Tryd.func49 ?_;intro _ _ _ _
 refine Q0 ?_
 refine q74 ?_
 refine q74 ?_
 refine Q45 ?_
 refine yK (zG4 (lq rfl) rfl) ?_
 refine Q1 ?_
 refine zB ?_
 exact zL rfl
theorem zQI {f:FuncId} {caps:List DV} {r:List Range} (hit:zMK Tryd.prog f caps (r.map fun x=>[eRange.dv x])) (hr:r.length≤LIM):zG Tryd.prog 91 [.v (.slice none 0 0),.fn f caps] [z8 eRange r]:=by
 refine co Tryd.func91 ?_;intro _ _ _ _
 refine Q0 ?_
 refine kN rfl (zSS (lq rfl) rfl rfl rfl) ?_
 refine Q1 ?_
 refine zN (zBC (bid:=2) (off:=0) 100 113 eRange.size (lq rfl) (by decide) rfl rfl rfl) ?_
 refine Q74 ?_
 refine yQ ?_
 refine zMM [(2,.ptr 2 0),(4,.d (.v (.slice none 0 0)))] [2] (fun k=>[(2,.box 41 [.row 100]),(100,.row 113 eRange.size false (eRange.all (r.take k)))]) rfl hit rfl (fun _ _ _ _ h=>h) ?hk ?hT rfl (fun _=>rfl) ?hbx (fun _ _=>rfl) ?hl ?hpn ?rd ?hK
 case hk=>exact ⟨rfl,rfl,trivial⟩
 case hT=>exact ⟨rfl,rfl,trivial⟩
 case hbx=>intro k id hi;simp at hi;subst hi;exact fun (h:Blk.box _ _=Blk.none)=>by cases h
 case hl=>intro x hx;obtain ⟨y,_,rfl⟩:=List.mem_map.1 hx;rfl
 case hpn=>intro p hp;simp at hp;subst hp;exact (lq rfl)
 case rd=>
  intro w1 Iall X C0 ρ0 defs l1 D lp1 lp2 hok k x hx
  rw [List.getElem?_map] at hx
  obtain ⟨v,hv,rfl⟩:=Option.map_eq_some_iff.1 hx
  have hlt:=(List.getElem?_eq_some_iff.1 hv).1
  have happ:app (r.take k) [v]=some (r.take (k+1)):=by
   unfold app
   rw [if_pos (by simp;omega),List.take_add_one,hv]
   rfl
  refine wY<|q78 ?_
  refine Q81 ?_
  refine yQ<|wY<|q24 O41 ?_
  refine yK ((k9 (lq rfl) u5 rfl rfl rfl rfl).data rfl) ?_
  refine q35 S41 ?_
  refine q34 S41 happ ?_
  refine q68 O41 ?_
  refine zF ?_
  exact ⟨rfl,rfl,trivial⟩
 case hK=>
  rw [List.length_map,List.take_length]
  refine Q0 ?_
  refine q24 O41 ?_
  refine Q19 ?_
  refine zB ?_
  exact zL rfl
theorem zVW {f:FuncId} {caps:List DV} {r:List Range} (hit:zMK Tryd.prog f caps (r.map fun x=>[eRange.dv x])) (hr:r.length≤LIM):zG Tryd.prog 81 [.fn f caps] [z8 eRange r]:=by
 refine co Tryd.func81 ?_;intro _ _ _ _
 refine Q54 ?_
 refine q7 (zQI hit hr) ?_
 refine Q1 ?_
 refine zB ?_
 exact zL rfl
theorem zJT {a0:List Span} {a1:List Int} {r:List Range} (h:zAY a0 a1=some r):zG Tryd.prog 62 [(z8 eSpan a0),(z8 eI a1)] [z8 eRange r]:=by
 unfold zAY at h
 have ⟨t6,ht6,h'⟩:=bE h;clear h
 have ⟨t8,ht8,h⟩:=bE h';clear h'
 unfold z46 at h
 split at h
 case isFalse=>cases h
 rename_i hlen
 cases h
 refine co Tryd.func62 ?_;intro _ _ _ _
 refine Q54 ?_
 refine q7 (zDL ht6) ?_
 refine q0 ?_
 refine q7 zE5 ?_
 refine q7 (zVW (zDM ht8) hlen) ?_
 refine Q1 ?_
 refine zB ?_
 exact zL rfl
theorem zK7 {a0 r} (h:zCL a0=some r):zG Tryd.prog 83 [(di a0)] [(eA3Int.dv r)]:=by
 refine co Tryd.func83 ?_;intro _ _ _ _
 unfold zCL at h
 refine Q0 ?_
 refine q89 ?_
 refine zF<|Q4 ?_
 have ⟨t6,ht6,h⟩:=bE h
 refine q7 (zDV ht6) ?_
 refine Q7 ?_
 refine yY h (fun h=>?_) (fun h=>?_)
 refine Q0 ?_
 refine q59 zIP ?_
 refine q13 zP9 ?_
 refine zF ?_
 cases h
 refine zB ?_
 exact zAJ rfl rfl zP9 rfl
 refine zI<|Q2 ?_
 refine q30 ?_
 refine Q10 ?_
 have ⟨t12,ht12,h⟩:=bE h
 refine yK (zSW (lq rfl) rfl rfl ht12) ?_
 have ⟨t13,ht13,h⟩:=bE h
 refine yK (zSW (lq rfl) rfl rfl ht13) ?_
 refine q4 ?_
 refine q0 ?_
 have ⟨t16,ht16,h⟩:=bE h
 refine yK (zSW (lq rfl) rfl rfl ht16) ?_
 have ⟨t17,ht17,h⟩:=bE h
 refine z1X ht17 ?_
 refine q4 ?_
 refine q59 zIP ?_
 refine q89 ?_
 refine q13 zP9 ?_
 refine zF<|Q4 ?_
 have ⟨t21,ht21,h⟩:=bE h
 refine z1X ht21 ?_
 refine Q46 ?_
 have ⟨y1,hy1,h⟩:=bE h
 refine tl .normal ⟨[(2,.ptr 2 0),(4,.ptr 4 0)],[(2,.box 145 [.d (di 0),.d (di 0),.d (di 0)]),(4,.box 145 [.d (di (({x0:=wi (4352+t13),x1:=wi (4449+t17),x2:=0}:A3Int).x0)),.d (di (({x0:=wi (4352+t13),x1:=wi (4449+t17),x2:=0}:A3Int).x1)),.d (di y1)])]⟩ ?_ ?_
 refine yY hy1 (fun hy1=>?_) (fun hy1=>?_)
 refine Q8 ?_
 have ⟨t24,ht24,hy1⟩:=bE hy1
 refine z1X ht24 ?_
 refine q4 ?_
 refine q30 ?_
 refine q46 zIP ?_
 refine Q56 ?_
 cases hy1
 exact zJ (wc)
 refine zI ?_
 cases hy1
 exact zJ (wc)
 refine Q0 ?_
 refine yK ((k9 (lq rfl) zP9 rfl rfl rfl rfl).data rfl) ?_
 refine q13 zP9 ?_
 refine zF ?_
 cases h
 refine zB ?_
 exact zAJ rfl rfl zP9 rfl
theorem zHB {a0 r} (h:uD a0=some r):zG Tryd.prog 67 [(di a0)] [(z8 eI r)]:=by
 refine co Tryd.func67 ?_;intro _ _ _ _
 unfold uD at h
 refine Q54 ?_
 have ⟨t5,ht5,h⟩:=bE h
 refine q7 (zK7 ht5) ?_
 refine q89 ?_
 refine q13 zP9 ?_
 refine zF ?_
 refine zN (z0 (t:=3) (lq rfl) rfl rfl rfl) ?_
 refine Q42 ?_
 refine Q0 ?_
 refine q33 zP9 ?_
 refine q59 zIP ?_
 refine yK (z03 (en:=eA3Int) (a:=t5) (b:=({x0:=0,x1:=0,x2:=0}:A3Int)) (lq rfl) z9V rfl rfl) ?_
 refine Q1 ?_
 refine yY h (fun h=>?_) (fun h=>?_)
 refine Q2 ?_
 refine q35 yX ?_
 refine Q1 ?_
 cases h
 refine zB ?_
 exact zL rfl
 refine Q0 ?_
 refine q91 zIP ?_
 refine q3 O3 ?_
 refine Q73 ?_
 refine yY h (fun h=>?_) (fun h=>?_)
 refine Q0 ?_
 refine q91 zIP ?_
 refine q3 O3 ?_
 refine q91 zIP ?_
 refine q3 O3 ?_
 refine q35 yX ?_
 refine Q1 ?_
 cases h
 refine zB ?_
 exact zL rfl
 refine Q40 ?_
 refine q91 zIP ?_
 refine q3 O3 ?_
 refine q91 zIP ?_
 refine q3 O3 ?_
 refine q91 zIP ?_
 refine q3 O3 ?_
 refine q35 yX ?_
 refine Q1 ?_
 cases h
 refine zB ?_
 exact zL rfl
theorem wA {fv2:DV} {a0:(List Mapping)} {a1:Int} {a2:Mapping→Int→Option (Int)} (hf2:∀x0 x1 y,a2 x0 x1=some y→FnC Tryd.prog fv2 [(eMapping.dv x0),(di x1)] [(di y)]) {r:Int×Bool} (h:z1 a0 a1 a2=some r):zG Tryd.prog 68 [(z8 eMapping a0),(di a1),fv2] [(di r.1),(db r.2)]:=by
 refine co Tryd.func68 ?_;intro _ _ _ _
 unfold z1 at h
 refine Q0 ?_
 refine Q53 ?_
 refine q6 S40 ?_
 refine Q10 ?_
 refine Q24 ?_
 refine Q42 ?_
 have ⟨y1,hy1,h⟩:=bE h
 refine tl (.exit 0) ⟨[(0,.d (z8 eMapping a0)),(1,.d (di a1)),(2,.d fv2),(8,.d (di (a0.length:Int))),(9,.d (di y1))],[]⟩ ?_ ?_
 refine zE (fun x=>⟨[(0,.d (z8 eMapping a0)),(1,.d (di a1)),(2,.d fv2),(8,.d (di (a0.length:Int))),(9,.d (di x.1)),(10,.d (di x.2))],[]⟩) hy1 (wc) ?_
 rintro ⟨v9,v10⟩ sy1 p1
 replace p1:zO a0 a2 a1 v9 v10=some sy1:=p1
 unfold zO at p1
 refine Q49 ?_
 refine yY p1 (fun p1=>?_) (fun p1=>?_)
 refine zI ?_
 have ⟨y2,hy2,p1⟩:=bE p1
 refine tl .normal ⟨[(0,.d (z8 eMapping a0)),(1,.d (di a1)),(2,.d fv2),(8,.d (di (a0.length:Int))),(9,.d (di y2.1)),(10,.d (di y2.2))],[]⟩ ?_ ?_
 refine Q75 ?_
 refine Q89 ?_
 refine Q10 ?_
 refine Q20 ?_
 have ⟨t27,ht27,hy2⟩:=bE hy2
 refine q14 S40 ht27 ?_
 refine q71 G77 ht27 ?_
 refine q0 ?_
 have ⟨t30,ht30,hy2⟩:=bE hy2
 refine yK (zBW (lq rfl) rfl rfl (hf2 _ _ _ ht30)) ?_
 refine Q7 ?_
 refine yY hy2 (fun hy2=>?_) (fun hy2=>?_)
 refine Q21 ?_
 cases hy2
 exact zJ (wc)
 refine Q68 ?_
 cases hy2
 exact zJ (wc)
 cases p1
 exact wc
 refine zH ?_
 cases p1
 intro q;cases q
 exact zJ (wc)
 refine Q2 ?_
 refine Q20 ?_
 refine q2 ?_
 have ⟨b39,hb39,h⟩:=bE h
 refine yK ((zC (lq rfl) rfl).bool (oi hb39)) ?_
 refine q20 (.d fv2) ?_
 refine q20 (.d (z8 eMapping a0)) ?_
 refine q20 (.d (di y1)) ?_
 have ⟨t43,ht43,h⟩:=bE h
 refine sqt (.ip (eMapping.all a0) (y1.toNat*eMapping.size)) rfl (fun hb=>by subst hb;exact zBV (en:=eMapping) (lq rfl) S40 rfl rfl ht43) ?_
 refine sqt (.d (eMapping.dv t43)) rfl (fun hb=>by subst hb;exact wN (en:=eMapping) (l:=a0) (i:=y1) (v:=t43) (off:=0) (lq rfl) G77 rfl ht43 rfl rfl (by decide)) ?_
 refine q20 (.d (di a1)) ?_
 have ⟨t46,ht46,h⟩:=bE h
 refine sqt (.d (di t46)) rfl (fun hb=>by subst hb;exact zBW (lq rfl) rfl rfl (hf2 _ _ _ ht46)) ?_
 refine q62 (.d (db (decide (t46=0)))) ?_
 refine q16 ?_
 refine Q24 ?_
 cases h
 refine zB ?_
 exact zEK rfl rfl
theorem zHC {a0 a1 r} (h:xE a0 a1=some r):zG Tryd.prog 69 [(eMapping.dv a0),(di a1)] [(di r)]:=by
 refine co Tryd.func69 ?_;intro _ _ _ _
 unfold xE at h
 refine Q44 ?_
 refine Q45 ?_
 refine q5 zGV ?_
 refine q3 O3 ?_
 refine q0 ?_
 have ⟨t8,ht8,h⟩:=bE h
 refine q7 (jX ht8) ?_
 refine Q1 ?_
 cases h
 refine zB ?_
 exact zL rfl
theorem zD8 {a0 a1 a2 r} (h:xN a0 a1 a2=some r):zG Tryd.prog 46 [(eNorm.dv a0),(di a1),(db a2)] [(z8 eI r.1),(db r.2)]:=by
 refine co Tryd.func46 ?_;intro _ _ _ _
 unfold xN at h
 refine Q44 ?_
 refine Q90 ?_
 have ⟨t11,ht11,h⟩:=bE h
 refine q7 (zDV ht11) ?_
 refine q48 ?_
 refine zF ?_
 refine yY h (fun h=>?_) (fun h=>?_)
 refine Q2 ?_
 have ⟨t14,ht14,h⟩:=bE h
 refine q7 (zHB ht14) ?_
 refine Q24 ?_
 cases h
 refine zB ?_
 exact zEK rfl rfl
 refine Q40 ?_
 refine Q71 ?_
 refine q0 ?_
 have ⟨t19,ht19,h⟩:=bE h
 refine q7 (wA (fun _ _ _ q=> .inr ⟨_,rfl,zHC q⟩) ht19) ?_
 refine Q70 ?_
 refine Q90 ?_
 refine q39 ?_
 have ⟨b24,hb24,h⟩:=bE h
 refine yK ((zC (lq rfl) rfl).bool (oi hb24)) ?_
 refine q18 (.ip (eNorm.cells a0) (0+1)) zM7 ?_
 refine q19 (.d (z8 eMapping a0.Decomp)) O40 ?_
 refine q21 (.d (di t19.1)) ?_
 have ⟨t28,ht28,h⟩:=bE h
 refine sqf (.ip (eMapping.all a0.Decomp) (t19.1.toNat*eMapping.size)) rfl (fun hb=>by subst hb;exact zBV (en:=eMapping) (lq rfl) S40 rfl rfl ht28) ?_
 refine q92 (.ip (eMapping.all a0.Decomp) (t19.1.toNat*eMapping.size+2)) zHY ?_
 refine sqf (.d (ds t28.Tag)) rfl (fun hb=>by subst hb;exact wU (en:=eMapping) (l:=a0.Decomp) (i:=t19.1) (v:=t28) (off:=2) (lq rfl) O9 rfl ht28 rfl) ?_
 refine sqf (.d (db (!(t28.Tag== [])))) rfl (fun hb=>by subst hb;exact zXG (a:=t28.Tag) (b:=[]) (lq rfl) rfl rfl) ?_
 have ⟨b32,hb32,h⟩:=bE h
 refine sqf (.d (db b32)) rfl (fun hb=>by subst hb;exact (zC (lq rfl) rfl).bool (oi hb32)) ?_
 refine zBK (x:= .d (db a2)) rfl rfl rfl (lq rfl) (lq rfl) rfl (fun hb=>by obtain ⟨hb,hb1⟩:=jO hb;obtain rfl:=gF hb;obtain rfl:b32=true:=hb1;exact zC (lq rfl) rfl) ?_
 refine zBK (x:= .d (db (!a2))) rfl rfl rfl (lq rfl) (lq rfl) rfl (fun hb=>by obtain ⟨hb,hb1⟩:=jO hb;obtain rfl:=gF hb;obtain rfl:b32=true:=hb1;exact zMF (lq rfl) rfl) ?_
 refine zYE (.d (db (b32&&(!a2)))) ?_
 refine Q26 ?_
 refine yY h (fun h=>?_) (fun h=>?_)
 refine Q0 ?_
 refine Q24 ?_
 refine zN (zEJ (t:=6) eI.size (lq rfl) rfl) ?_
 cases h
 refine zB ?_
 exact zEK rfl rfl
 refine Q40 ?_
 refine Q71 ?_
 refine q0 ?_
 have ⟨t40,ht40,h⟩:=bE h
 refine q14 S40 ht40 ?_
 refine q90 zM9 ?_
 refine yK (wU (en:=eMapping) (l:=a0.Decomp) (i:=t19.1) (v:=t40) (off:=1) (lq rfl) O32 rfl ht40 rfl) ?_
 refine Q24 ?_
 cases h
 refine zB ?_
 exact zEK rfl rfl
theorem zFB:∀(n:Nat) {a0:Int} {a1:Norm} {a2:(List (Int×Int))} {a3:Bool} {a5:Bool} {r:Int×Bool×Bool×(List (Int×Int))},zU n a0 a1 a2 a3 a5=some r→GC Tryd.prog 82 [.d (di a0),.d (.pt (eNorm.cells a1)),.ptr 3002 0,.ptr 3003 0,.ptr 3004 0,.ptr 3005 0] [(3002,.box 144 [.row 3140]),(3003,.box 4 [.d (db a3)]),(3004,.box 103 [.clo 82 [.d (.pt (eNorm.cells a1)),.ptr 3002 0,.ptr 3003 0,.ptr 3004 0,.ptr 3005 0]]),(3005,.box 4 [.d (db a5)]),(3140,.map (xL kI eI a2))] [3002,3003,3004,3005,3140] [.d (di r.1)] [(3002,.box 144 [.row 3140]),(3003,.box 4 [.d (db r.2.1)]),(3004,.box 103 [.clo 82 [.d (.pt (eNorm.cells a1)),.ptr 3002 0,.ptr 3003 0,.ptr 3004 0,.ptr 3005 0]]),(3005,.box 4 [.d (db r.2.2.1)]),(3140,.map (xL kI eI r.2.2.2))]:=by
 intro n
 induction n with
 | zero=>intro a0 a1 a2 a3 a5 r h;cases h
 | succ n ih=>
 intro a0 a1 a2 a3 a5 r h
 replace h:kE (zU n) a0 a1 a2 a3 a5=some r:=h
 generalize zU n=rec at h ih
 refine zA5 Tryd.func82 (by kernel_rfl) rfl (lq rfl) (lq rfl) fun w0 I0 hG0 p0=>?_
 unfold kE at h
 refine Q3 ?_
 refine Q0 ?_
 refine q33 G45 ?_
 refine q0 ?_
 have ⟨t18,ht18,h⟩:=bE h
 refine q7 (zD8 ht18) ?_
 refine Q70 ?_
 refine Q90 ?_
 refine q39 ?_
 have ⟨b23,hb23,h⟩:=bE h
 refine yK ((zC (lq rfl) rfl).bool (oi hb23)) ?_
 refine q21 (.d (z8 eI t18.1)) ?_
 refine q53 (.d (di (t18.1.length:Int))) yX ?_
 refine q82 (.d (db (decide ((t18.1.length:Int)=0)))) ?_
 refine Q26 ?_
 refine yY h (fun h=>?_) (fun h=>?_)
 refine Q3 ?_
 cases h
 refine zB ?_
 exact ⟨⟨_,_,rfl,rfl,rfl⟩,⟨rfl,rfl,rfl,rfl,rfl,trivial⟩⟩
 refine Q55 ?_
 refine q24 z1F ?_
 refine q0 ?_
 refine yK (zMU (kv:=kI) (ev:=eI) (mp:=a2) (k:=a0) (zero:=0) (lq rfl) z48 K3 rfl rfl rfl (fun _ _=> .v _)) ?_
 refine Q70 ?_
 refine Q53 ?_
 refine zF ?_
 refine yY h (fun h=>?_) (fun h=>?_)
 refine Q0 ?_
 refine q24 O4 ?_
 have ⟨b36,hb36,h⟩:=bE h
 refine yK ((zC (lq rfl) rfl).bool (oi hb36)) ?_
 refine q21 (.d (di (wW a2 a0 0))) ?_
 refine q82 (.d (db (decide ((wW a2 a0 0)=(-1))))) ?_
 refine q12 ?_
 refine q38 O4 ?_
 refine zF<|Q2 ?_
 refine yK (zPF (lq rfl) rfl rfl) ?_
 refine Q1 ?_
 cases h
 refine zB ?_
 exact ⟨⟨_,_,rfl,rfl,rfl⟩,⟨rfl,rfl,rfl,rfl,rfl,trivial⟩⟩
 refine Q40 ?_
 refine q24 z1F ?_
 refine q0 ?_
 refine z1T z48 K3 ?_
 refine zF<|Q39 ?_
 refine Q58 ?_
 have ⟨y1,hy1,h⟩:=bE h
 refine tl (.exit 0) ⟨[(0,.d (di a0)),(2,.ptr 3002 0),(3,.ptr 3003 0),(4,.ptr 3004 0),(5,.ptr 3005 0),(12,.d (di y1.1))],[(3002,.box 144 [.row 3140]),(3003,.box 4 [.d (db y1.2.1)]),(3004,.box 103 [.clo 82 [.d (.pt (eNorm.cells a1)),.ptr 3002 0,.ptr 3003 0,.ptr 3004 0,.ptr 3005 0]]),(3005,.box 4 [.d (db y1.2.2.1)]),(3140,.map (xL kI eI y1.2.2.2))]⟩ ?_ ?_
 refine zE (fun x=>⟨[(0,.d (di a0)),(2,.ptr 3002 0),(3,.ptr 3003 0),(4,.ptr 3004 0),(5,.ptr 3005 0),(12,.d (di x.1)),(44,.d (z8 eI t18.1)),(45,.d (di (t18.1.length:Int))),(46,.d (di x.2.1))],[(3002,.box 144 [.row 3140]),(3003,.box 4 [.d (db x.2.2.1)]),(3004,.box 103 [.clo 82 [.d (.pt (eNorm.cells a1)),.ptr 3002 0,.ptr 3003 0,.ptr 3004 0,.ptr 3005 0]]),(3005,.box 4 [.d (db x.2.2.2.1)]),(3140,.map (xL kI eI x.2.2.2.2))]⟩) hy1 (wc) ?_
 rintro ⟨v12,v46,k3003_0,k3005_0,r3140⟩ sy1 p1
 replace p1:kK t18 rec a1 v12 v46 k3003_0 k3005_0 r3140=some sy1:=p1
 unfold kK at p1
 refine Q13 ?_
 refine yY p1 (fun p1=>?_) (fun p1=>?_)
 refine Q25 ?_
 have ⟨t48,ht48,p1⟩:=bE p1
 refine q14 yX ht48 ?_
 refine q49 O3 ht48 ?_
 refine Q1 ?_
 refine Q8 ?_
 refine q24 z49 ?_
 refine q0 ?_
 have ⟨t53,ht53,p1⟩:=bE p1
 refine kN rfl (zP5 [(3002,3002),(3003,3003),(3004,3004),(3005,3005),(3140,3140)] (ih ht53) (lq rfl) (by decide) rfl ⟨rfl,rfl,rfl,rfl,rfl,rfl,trivial⟩ rfl rfl ⟨rfl,rfl,rfl,rfl,rfl,trivial⟩ rfl rfl rfl rfl) ?_
 refine q4 ?_
 refine z1U ?_
 refine Q1 ?_
 refine Q16 ?_
 cases p1
 exact wc
 refine zH ?_
 cases p1
 intro q;cases q
 exact zJ (wc)
 refine Q0 ?_
 refine q24 z1F ?_
 refine Q20 ?_
 refine z1T z48 K3 ?_
 refine Q34 ?_
 refine q24 O4 ?_
 have ⟨b61,hb61,h⟩:=bE h
 refine yK ((zC (lq rfl) rfl).bool (oi hb61)) ?_
 refine q21 (.d (di y1.1)) ?_
 refine q32 (.d (db (decide (64 < y1.1)))) ?_
 refine q12 ?_
 refine q38 O4 ?_
 refine zF<|Q32 ?_
 cases h
 refine zB ?_
 exact ⟨⟨_,_,rfl,rfl,rfl⟩,⟨rfl,rfl,rfl,rfl,rfl,trivial⟩⟩
set_option maxHeartbeats 8000000 in
theorem zGK {a0 r} (h:decompose_measure a0=some r):zG Tryd.prog 63 [(eNorm.dv a0)] [(db r.1),(db r.2)]:=by
 refine co Tryd.func63 ?_;intro _ _ _ _
 unfold decompose_measure at h
 refine Q44 ?_
 refine kN rfl (yN (zs:=[(.bool false)]) (lq rfl) (by kernel_rfl) rfl rfl) ?_
 refine kN rfl (yN (zs:=[(.bool false)]) (lq rfl) (by kernel_rfl) rfl rfl) ?_
 refine Q34 ?_
 refine zYF ?_
 refine kN rfl (yN (zs:=[(.map none)]) (lq rfl) (by kernel_rfl) rfl rfl) ?_
 refine q68 z1F ?_
 refine Q34 ?_
 refine kN rfl (yN (zs:=[.nilFunc]) (lq rfl) (by kernel_rfl) rfl rfl) ?_
 refine Q34 ?_
 refine yK (zIO (cs:=[.d (.pt (eNorm.cells a0)),.ptr 4 0,.ptr 2 0,.ptr 5 0,.ptr 3 0]) (lq rfl) ⟨_,_,rfl,rfl,⟨_,_,rfl,rfl,⟨_,_,rfl,rfl,⟨_,_,rfl,rfl,⟨_,_,rfl,rfl,rfl⟩⟩⟩⟩⟩) ?_
 refine kN rfl (zFS z49 rfl rfl (lq rfl) rfl rfl rfl rfl) ?_
 refine Q78 ?_
 refine Q71 ?_
 refine Q82 ?_
 have ⟨y1,hy1,h⟩:=bE h
 refine tl (.exit 0) ⟨[(2,.ptr 2 0),(3,.ptr 3 0)],[(2,.box 4 [.d (db y1.1)]),(3,.box 4 [.d (db y1.2)])]⟩ ?_ ?_
 refine zE (fun x=>⟨[(2,.ptr 2 0),(3,.ptr 3 0),(5,.ptr 5 0),(11,.d (z8 eMapping a0.Decomp)),(12,.d (di (a0.Decomp.length:Int))),(13,.d (di x.1))],[(2,.box 4 [.d (db x.2.1)]),(3,.box 4 [.d (db x.2.2.1)]),(4,.box 144 [.row 8]),(5,.box 103 [.clo 82 [.d (.pt (eNorm.cells a0)),.ptr 4 0,.ptr 2 0,.ptr 5 0,.ptr 3 0]]),(8,.map (xL kI eI x.2.2.2))]⟩) hy1 (wc) ?_
 rintro ⟨v13,k2_0,k3_0,r8⟩ sy1 p1
 replace p1:yT a0 v13 k2_0 k3_0 r8=some sy1:=p1
 unfold yT at p1
 refine Q13 ?_
 refine yY p1 (fun p1=>?_) (fun p1=>?_)
 refine Q25 ?_
 have ⟨t15,ht15,p1⟩:=bE p1
 refine q14 S40 ht15 ?_
 refine q71 G77 ht15 ?_
 refine Q84 ?_
 refine zN (z0 (t:=7) (lq rfl) rfl rfl rfl) ?_
 refine wY<|q24 z49 ?_
 refine q5 zGV ?_
 refine q3 O3 ?_
 have ⟨t20,ht20,p1⟩:=bE p1
 refine kN rfl (zJ0 [(3002,4),(3003,2),(3004,5),(3005,3),(3140,8)] (zFB _ ht20) (lq rfl) (by decide) rfl ⟨rfl,rfl,rfl,rfl,rfl,rfl,trivial⟩ rfl rfl ⟨rfl,rfl,rfl,rfl,rfl,trivial⟩ rfl rfl rfl (fun _=>rfl) rfl) ?_
 refine zF<|Q16 ?_
 cases p1
 exact wc
 refine zH ?_
 cases p1
 intro q;cases q
 exact zJ (wc)
 refine kQ ?_
 refine tl .normal ⟨[(2,.ptr 2 0),(3,.ptr 3 0)],[(2,.box 4 [.d (db y1.1)]),(3,.box 4 [.d (db y1.2)])]⟩ ?_ ?_
 refine zBX MX ?_
 refine xn [0,1] ?_
 refine xa rfl (uJ (lq rfl) O4 rfl rfl rfl) ?_ ?_
 refine xn [1,2] ?_
 refine xa rfl (uJ (lq rfl) O4 rfl rfl rfl) ?_ ?_
 refine xn [2] ?_
 refine q93 O4 ?_
 refine xn [3] ?_
 refine q93 O4 ?_
 exact ae
 refine q93 O4 ?_
 refine xn [1] ?_
 refine xc rfl (uJ (lq rfl) O4 rfl rfl rfl) ?_
 refine xn [3] ?_
 refine q93 O4 ?_
 exact ae
 refine xc rfl (uJ (lq rfl) O4 rfl rfl rfl) ?_
 refine xn [0] ?_
 refine xc rfl (uJ (lq rfl) O4 rfl rfl rfl) ?_
 refine xn [2] ?_
 refine q93 O4 ?_
 refine xn [3] ?_
 refine q93 O4 ?_
 exact ae
 cases h
 refine zB ?_
 exact zR4 rfl rfl O4 rfl rfl O4
theorem zDN {a0 r} (h:vB a0=some r):zG Tryd.prog 41 [(eNorm.dv a0)] [(di r)]:=by
 refine co Tryd.func41 ?_;intro _ _ _ _
 unfold vB at h
 refine Q44 ?_
 refine Q48 ?_
 refine q5 zM6 ?_
 refine q3 O39 ?_
 have ⟨t15,ht15,h⟩:=bE h
 refine q7 (zD7 ht15) ?_
 refine Q10 ?_
 refine Q33 ?_
 refine yY h (fun h=>?_) (fun h=>?_)
 refine Q32 ?_
 cases h
 refine zB ?_
 exact zL rfl
 refine Q55 ?_
 refine Q71 ?_
 have ⟨t21,ht21,h⟩:=bE h
 refine q7 (zJR ht21) ?_
 refine Q10 ?_
 refine Q33 ?_
 refine yY h (fun h=>?_) (fun h=>?_)
 refine Q32 ?_
 cases h
 refine zB ?_
 exact zL rfl
 refine Q55 ?_
 refine q5 z3L ?_
 refine yK (zCX (lq rfl) G43 rfl rfl rfl) ?_
 have ⟨t27,ht27,h⟩:=bE h
 refine q7 (zLY ht27) ?_
 refine Q41 ?_
 refine yY h (fun h=>?_) (fun h=>?_)
 refine Q3 ?_
 cases h
 refine zB ?_
 exact zL rfl
 refine Q91 ?_
 have ⟨y1,hy1,h⟩:=bE h
 refine yB y1 (.exit 0) (fun y1=>⟨[(1,.d (.pt (eNorm.cells a0)))],[]⟩) .ret (fun y1=>⟨[(2,.d (di y1))],[]⟩) ?_ ?_ ?_
 refine zE (fun x=>⟨[(1,.d (.pt (eNorm.cells a0))),(5,.d (di x))],[]⟩) hy1 (wc) ?_
 rintro v5 sy1 p1
 replace p1:xF a0 v5=some sy1:=p1
 unfold xF at p1
 refine Q4 ?_
 refine Q71 ?_
 refine q6 S40 ?_
 refine Q7 ?_
 refine yY p1 (fun p1=>?_) (fun p1=>?_)
 refine Q9 ?_
 refine kQ ?_
 refine kH MX rfl ?_
 refine q17 zM7 ?_
 refine q27 O40 ?_
 refine q8 ?_
 have ⟨t39,ht39,p1⟩:=bE p1
 refine q42 S40 ht39 ?_
 refine q94 zGV ?_
 refine daa (wU (en:=eMapping) (l:=a0.Decomp) (i:=v5) (v:=t39) (off:=0) (lq rfl) O3 rfl ht39 rfl) ?_
 refine q17 zM7 ?_
 refine q27 O40 ?_
 refine q8 ?_
 refine zYK ?_
 have ⟨t46,ht46,p1⟩:=bE p1
 refine q42 S40 ht46 ?_
 refine q94 zGV ?_
 refine daa (wU (en:=eMapping) (l:=a0.Decomp) (i:=(wi (v5 - 1))) (v:=t46) (off:=0) (lq rfl) O3 rfl ht46 rfl) ?_
 refine daa (zMD (lq rfl) rfl rfl) ?_
 refine wZ ?_
 refine yY p1 (fun p1=>?_) (fun p1=>?_)
 refine Q22 ?_
 cases p1
 intro q;cases q
 exact ⟨rfl,wc⟩
 refine Q59 ?_
 cases p1
 exact wc
 refine zH ?_
 cases p1
 intro q;cases q
 exact ⟨rfl,wc⟩
 rintro y1 rfl
 replace h:=eL h
 refine Q11 ?_
 refine Q71 ?_
 refine Q82 ?_
 have ⟨y2,hy2,h⟩:=bE h
 refine yB y2 (.exit 2) (fun y2=>⟨[(1,.d (.pt (eNorm.cells a0)))],[]⟩) .ret (fun y2=>⟨[(2,.d (di y2))],[]⟩) ?_ ?_ ?_
 refine zE (fun x=>⟨[(1,.d (.pt (eNorm.cells a0))),(51,.d (z8 eMapping a0.Decomp)),(52,.d (di (a0.Decomp.length:Int))),(53,.d (di x))],[]⟩) hy2 (wc) ?_
 rintro v53 sy2 p2
 replace p2:xG a0 v53=some sy2:=p2
 unfold xG at p2
 refine Q13 ?_
 refine yY p2 (fun p2=>?_) (fun p2=>?_)
 refine Q25 ?_
 have ⟨t55,ht55,p2⟩:=bE p2
 refine q14 S40 ht55 ?_
 refine q71 G77 ht55 ?_
 refine Q84 ?_
 refine zN (z0 (t:=7) (lq rfl) rfl rfl rfl) ?_
 refine Q0 ?_
 refine q5 zHY ?_
 refine q3 O9 ?_
 refine yK (zRU (a:=t55.Tag) (b:=[]) (lq rfl) rfl rfl) ?_
 have ⟨b60,hb60,p2⟩:=bE p2
 refine yK ((zC (lq rfl) rfl).bool (oi hb60)) ?_
 refine q52 (.ip (eMapping.cells t55) (0+1)) zM9 ?_
 refine q55 (.d (z8 eI t55.To)) O32 ?_
 refine z1Y (.d (di (t55.To.length:Int))) yX ?_
 refine sqt (.d (db (!decide ((t55.To.length:Int)=1)))) rfl (fun hb=>by subst hb;exact zME (lq rfl) rfl rfl) ?_
 refine q16 ?_
 have ⟨b66,hb66,p2⟩:=bE p2
 refine yK ((zC (lq rfl) rfl).bool (oi hb66)) ?_
 refine q52 (.ip (eMapping.cells t55) (0+1)) zM9 ?_
 refine q55 (.d (z8 eI t55.To)) O32 ?_
 refine z1Y (.d (di (t55.To.length:Int))) yX ?_
 refine sqt (.d (db (!decide ((t55.To.length:Int)=2)))) rfl (fun hb=>by subst hb;exact zME (lq rfl) rfl rfl) ?_
 refine Q47 ?_
 refine yY p2 (fun p2=>?_) (fun p2=>?_)
 refine Q22 ?_
 cases p2
 intro q;cases q
 exact ⟨rfl,wc⟩
 refine Q36 ?_
 cases p2
 exact wc
 refine zH ?_
 cases p2
 intro q;cases q
 exact ⟨rfl,wc⟩
 rintro y2 rfl
 replace h:=eL h
 refine Q3 ?_
 refine zN (zAQ (t:=8) 1008 3 eI.size (lq rfl) (lq rfl) rfl rfl) ?_
 refine Q11 ?_
 refine Q71 ?_
 refine Q82 ?_
 have ⟨y3,hy3,h⟩:=bE h
 refine yB y3 (.exit 4) (fun y3=>⟨[(1,.d (.pt (eNorm.cells a0))),(8,.row 1008)],[(1008,.row 3 eI.size false (eI.all y3))]⟩) .ret (fun y3=>⟨[(2,.d (di y3))],[]⟩) ?_ ?_ ?_
 refine zE (fun x=>⟨[(1,.d (.pt (eNorm.cells a0))),(8,.row 1008),(74,.d (z8 eMapping a0.Decomp)),(75,.d (di (a0.Decomp.length:Int))),(76,.d (di x.1))],[(1008,.row 3 eI.size false (eI.all x.2))]⟩) hy3 (wc) ?_
 rintro ⟨v76,r1008⟩ sy3 p3
 replace p3:z9 a0 v76 r1008=some sy3:=p3
 unfold z9 at p3
 refine Q13 ?_
 refine yY p3 (fun p3=>?_) (fun p3=>?_)
 refine Q5 ?_
 have ⟨y4,hy4,p3⟩:=bE p3
 refine yB y4 .normal (fun y4=>⟨[(1,.d (.pt (eNorm.cells a0))),(8,.row 1008),(74,.d (z8 eMapping a0.Decomp)),(75,.d (di (a0.Decomp.length:Int))),(76,.d (di v76))],[(1008,.row 3 eI.size false (eI.all y4))]⟩) .ret (fun y4=>⟨[(2,.d (di 11))],[]⟩) ?_ ?_ ?_
 refine yQ<|Q0 ?_
 have ⟨t78,ht78,hy4⟩:=bE hy4
 refine q14 S40 ht78 ?_
 refine q71 G77 ht78 ?_
 refine Q84 ?_
 refine zN (z0 (t:=10) (lq rfl) rfl rfl rfl) ?_
 refine Q11 ?_
 refine q5 zGV ?_
 refine q3 O3 ?_
 have ⟨t82,ht82,hy4⟩:=bE hy4
 refine q7 (zDV ht82) ?_
 refine Q33 ?_
 refine yY hy4 (fun hy4=>?_) (fun hy4=>?_)
 refine Q22 ?_
 cases hy4
 exact ⟨rfl,wc⟩
 refine Q40 ?_
 refine q5 zHY ?_
 refine q3 O9 ?_
 refine z1O ?_
 refine zF ?_
 refine yY hy4 (fun hy4=>?_) (fun hy4=>?_)
 refine Q29 ?_
 refine q5 zGV ?_
 refine q3 O3 ?_
 refine q35 yX ?_
 have ⟨r1008_5,hr1008_5,hy4⟩:=bE hy4
 refine q34 yX hr1008_5 ?_
 refine Q19 ?_
 cases hy4
 exact ⟨rfl,wc⟩
 refine zI ?_
 cases hy4
 exact ⟨rfl,wc⟩
 rintro y4 rfl
 replace p3:=eL p3
 refine Q16 ?_
 cases p3
 exact wc
 rintro y4 rfl
 replace p3:=eR p3
 cases p3
 intro q;cases q
 exact ⟨rfl,wc⟩
 refine zH ?_
 cases p3
 intro q;cases q
 exact ⟨rfl,wc⟩
 rintro y3 rfl
 replace h:=eL h
 refine Q11 ?_
 refine q5 zM6 ?_
 refine q3 O39 ?_
 refine q9 ?_
 have ⟨t96,ht96,h⟩:=bE h
 refine kN rfl (zW2 (lq rfl) rfl rfl (zJT ht96)) ?_
 refine q6 S41 ?_
 refine Q46 ?_
 refine yY h (fun h=>?_) (fun h=>?_)
 refine Q3 ?_
 cases h
 refine zB ?_
 exact zL rfl
 refine Q40 ?_
 refine q33 G45 ?_
 have ⟨t101,ht101,h⟩:=bE h
 refine q7 (zGK ht101) ?_
 refine Q70 ?_
 refine Q24 ?_
 refine Q42 ?_
 refine Q32 ?_
 refine yY h (fun h=>?_) (fun h=>?_)
 refine Q3 ?_
 cases h
 refine zB ?_
 exact zL rfl
 refine Q32 ?_
 refine yY h (fun h=>?_) (fun h=>?_)
 refine Q3 ?_
 cases h
 refine zB ?_
 exact zL rfl
 refine Q43 ?_
 cases h
 refine zB ?_
 exact zL rfl
 rintro y3 rfl
 replace h:=eR h
 cases h
 exact zL rfl
 rintro y2 rfl
 replace h:=eR h
 cases h
 exact zL rfl
 rintro y1 rfl
 replace h:=eR h
 cases h
 exact zL rfl
theorem uO {a0} {a1} {r:Colltable_table} (h:xO a0 a1=some r):GC Tryd.prog 34 [.ptr 3000 0,.d (eNorm.dv a1)] [(3000,.box 93 [.d (z8 eEntry a0.c.Entries),.d (z8 eGroup a0.c.Groups),.d (di a0.c.Base),.d (di a0.c.Second),.d (di a0.c.Third),.row 3105,.d (di a0.longest),.d (z8 eSpan a0.classes),.d (di a0.top)]),(3105,.map (xL zBR (eL eElement) a0.entries))] [3000,3105] [.ptr 3000 0] [(3000,.box 93 [.d (z8 eEntry r.c.Entries),.d (z8 eGroup r.c.Groups),.d (di r.c.Base),.d (di r.c.Second),.d (di r.c.Third),.row 3105,.d (di r.longest),.d (z8 eSpan r.classes),.d (di r.top)]),(3105,.map (xL zBR (eL eElement) r.entries))]:=by
 refine zA5 Tryd.func34 (by kernel_rfl) rfl (lq rfl) (lq rfl) fun w0 I0 hG0 p0=>?_
 unfold xO at h
 refine Q44 ?_
 refine Q48 ?_
 refine q33 G45 ?_
 have ⟨t8,ht8,h⟩:=bE h
 refine q7 (zDN ht8) ?_
 refine Q63 ?_
 have ⟨y1,hy1,h⟩:=bE h
 refine tl .normal ⟨[(0,.ptr 3000 0)],[(3000,.box 93 [.d (z8 eEntry a0.c.Entries),.d (z8 eGroup a0.c.Groups),.d (di a0.c.Base),.d (di a0.c.Second),.d (di a0.c.Third),.row 3105,.d (di a0.longest),.d (z8 eSpan y1),.d (di a0.top)]),(3105,.map (xL zBR (eL eElement) a0.entries))]⟩ ?_ ?_
 refine yY hy1 (fun hy1=>?_) (fun hy1=>?_)
 refine wY<|z1V ?_
 refine q5 zM6 ?_
 refine q3 O39 ?_
 refine yK (zIN (lq rfl) rfl) ?_
 refine q41 zKZ ?_
 refine q38 O39 ?_
 refine zF ?_
 cases hy1
 exact zJ (wc)
 refine zI ?_
 cases hy1
 exact zJ (wc)
 refine Q11 ?_
 refine z1V ?_
 refine yK (zIN (lq rfl) rfl) ?_
 refine q41 zKZ ?_
 refine q24 O39 ?_
 refine q6 S39 ?_
 refine Q17 ?_
 have ⟨y2,hy2,h⟩:=bE h
 refine tl (.exit 0) ⟨[(0,.ptr 3000 0)],[(3000,.box 93 [.d (z8 eEntry a0.c.Entries),.d (z8 eGroup a0.c.Groups),.d (di a0.c.Base),.d (di a0.c.Second),.d (di a0.c.Third),.row 3105,.d (di a0.longest),.d (z8 eSpan y1),.d (di y2)]),(3105,.map (xL zBR (eL eElement) a0.entries))]⟩ ?_ ?_
 refine zE (fun x=>⟨[(0,.ptr 3000 0),(18,.d (z8 eSpan y1)),(19,.d (di (y1.length:Int))),(20,.d (di x.1))],[(3000,.box 93 [.d (z8 eEntry a0.c.Entries),.d (z8 eGroup a0.c.Groups),.d (di a0.c.Base),.d (di a0.c.Second),.d (di a0.c.Third),.row 3105,.d (di a0.longest),.d (z8 eSpan y1),.d (di x.2)]),(3105,.map (xL zBR (eL eElement) a0.entries))]⟩) hy2 (wc) ?_
 rintro ⟨v20,k3000_8⟩ sy2 p2
 replace p2:kP y1 v20 k3000_8=some sy2:=p2
 unfold kP at p2
 refine Q13 ?_
 refine yY p2 (fun p2=>?_) (fun p2=>?_)
 refine Q25 ?_
 have ⟨t22,ht22,p2⟩:=bE p2
 refine q14 S39 ht22 ?_
 refine z1W G99 ht22 ?_
 refine q89 ?_
 refine q13 G99 ?_
 refine zF ?_
 refine zN (z0 (t:=6) (lq rfl) rfl rfl rfl) ?_
 refine zD0 10 MX rfl ?_
 refine zYH ?_
 refine zYH ?_
 refine zYI ?_
 refine q77 zX9 ?_
 refine daa (uJ (lq rfl) O3 rfl rfl rfl) ?_
 refine q17 zK2 ?_
 refine q27 O3 ?_
 refine daa (zPF (lq rfl) rfl rfl) ?_
 refine zYI ?_
 refine q77 zX9 ?_
 refine wZ<|Q56 ?_
 refine Q16 ?_
 cases p2
 exact wc
 refine zH ?_
 cases p2
 intro q;cases q
 exact zJ (wc)
 refine Q0 ?_
 refine z1V ?_
 refine yK (zAH (lq rfl) rfl) ?_
 refine zF ?_
 cases h
 refine zB ?_
 exact ⟨⟨_,_,rfl,rfl,rfl⟩,⟨rfl,rfl,trivial⟩⟩
theorem zC4 {a0 r} (h:wK a0=some r):zG Tryd.prog 36 [(eNorm.dv a0)] [(eNorm.dv r)]:=by
 refine co Tryd.func36 ?_;intro _ _ _ _
 unfold wK at h
 refine Q44 ?_
 refine kN rfl (yN (zs:=[(.slice none 0 0),(.slice none 0 0),(.slice none 0 0)]) (lq rfl) (by kernel_rfl) rfl rfl) ?_
 refine Q78 ?_
 refine q33 G45 ?_
 have ⟨t4,ht4,h⟩:=bE h
 refine q7 (zDN ht4) ?_
 refine Q33 ?_
 refine yY h (fun h=>?_) (fun h=>?_)
 refine Q0 ?_
 refine yK ((zDG (lq rfl) B45 rfl rfl).nils (bs:=eNorm.cells ({Classes:=[],Decomp:=[],Excluded:=(({Ranges:=[]}):Set)}:Norm)) (nlN (nlN (nlN nl0)))) ?_
 refine q13 G45 ?_
 refine zF ?_
 cases h
 refine zB ?_
 exact zAJ rfl rfl G45 rfl
 refine Q40 ?_
 refine q33 G45 ?_
 refine q13 G45 ?_
 refine zF ?_
 cases h
 refine zB ?_
 exact zAJ rfl rfl G45 rfl
theorem zBE:∀(n:Nat) {a0:Int} {a1:(List (Int×(List Int)))} {a2:Norm} {a3:Bool} {r:(List Int)×(List (Int×(List Int)))},yL n a0 a1 a2 a3=some r→GC Tryd.prog 45 [.d (di a0),.ptr 3001 0,.d (.pt (eNorm.cells a2)),.d (.pt [(db a3)]),.ptr 3004 0] [(3001,.box 104 [.row 3120]),(3004,.box 87 [.clo 45 [.ptr 3001 0,.d (.pt (eNorm.cells a2)),.d (.pt [(db a3)]),.ptr 3004 0]]),(3120,.map (xL kI (eL eI) a1))] [3001,3004,3120] [.d (z8 eI r.1)] [(3001,.box 104 [.row 3120]),(3004,.box 87 [.clo 45 [.ptr 3001 0,.d (.pt (eNorm.cells a2)),.d (.pt [(db a3)]),.ptr 3004 0]]),(3120,.map (xL kI (eL eI) r.2))]:=by
 intro n
 induction n with
 | zero=>intro a0 a1 a2 a3 r h;cases h
 | succ n ih=>
 intro a0 a1 a2 a3 r h
 replace h:jU (yL n) a0 a1 a2 a3=some r:=h
 generalize yL n=rec at h ih
 refine zA5 Tryd.func45 (by kernel_rfl) rfl (lq rfl) (lq rfl) fun w0 I0 hG0 p0=>?_
 unfold jU at h
 refine Q3 ?_
 refine Q11 ?_
 refine q24 z5A ?_
 refine q0 ?_
 refine yK (zMU (kv:=kI) (ev:=(eL eI)) (mp:=a1) (k:=a0) (zero:=[]) (lq rfl) z71 K3 rfl rfl rfl (fun _ _=> .nil _ _ _)) ?_
 refine Q70 ?_
 refine Q53 ?_
 refine zF ?_
 refine yY h (fun h=>?_) (fun h=>?_)
 refine Q32 ?_
 cases h
 refine zB ?_
 exact ⟨⟨_,_,rfl,rfl,rfl⟩,⟨rfl,rfl,rfl,trivial⟩⟩
 refine Q40 ?_
 refine q33 G45 ?_
 refine q0 ?_
 refine q65 O4 ?_
 have ⟨t26,ht26,h⟩:=bE h
 refine q7 (zD8 ht26) ?_
 refine Q70 ?_
 refine Q90 ?_
 refine Q41 ?_
 refine yY h (fun h=>?_) (fun h=>?_)
 refine Q2 ?_
 refine q35 yX ?_
 refine Q1 ?_
 cases h
 refine zB ?_
 exact ⟨⟨_,_,rfl,rfl,rfl⟩,⟨rfl,rfl,rfl,trivial⟩⟩
 refine Q43 ?_
 refine zN (zAQ (t:=11) 1011 3 eI.size (lq rfl) (lq rfl) rfl rfl) ?_
 refine Q4 ?_
 refine Q58 ?_
 have ⟨y1,hy1,h⟩:=bE h
 refine tl (.exit 0) ⟨[(0,.d (di a0)),(1,.ptr 3001 0),(4,.ptr 3004 0),(11,.row 1011)],[(1011,.row 3 eI.size false (eI.all y1.1)),(3001,.box 104 [.row 3120]),(3004,.box 87 [.clo 45 [.ptr 3001 0,.d (.pt (eNorm.cells a2)),.d (.pt [(db a3)]),.ptr 3004 0]]),(3120,.map (xL kI (eL eI) y1.2))]⟩ ?_ ?_
 refine zE (fun x=>⟨[(0,.d (di a0)),(1,.ptr 3001 0),(4,.ptr 3004 0),(11,.row 1011),(33,.d (z8 eI t26.1)),(34,.d (di (t26.1.length:Int))),(35,.d (di x.1))],[(1011,.row 3 eI.size false (eI.all x.2.1)),(3001,.box 104 [.row 3120]),(3004,.box 87 [.clo 45 [.ptr 3001 0,.d (.pt (eNorm.cells a2)),.d (.pt [(db a3)]),.ptr 3004 0]]),(3120,.map (xL kI (eL eI) x.2.2))]⟩) hy1 (wc) ?_
 rintro ⟨v35,r1011,r3120⟩ sy1 p1
 replace p1:kF t26 rec a2 a3 v35 r1011 r3120=some sy1:=p1
 unfold kF at p1
 refine Q13 ?_
 refine yY p1 (fun p1=>?_) (fun p1=>?_)
 refine Q25 ?_
 have ⟨t37,ht37,p1⟩:=bE p1
 refine q14 yX ht37 ?_
 refine q49 O3 ht37 ?_
 refine Q1 ?_
 refine Q29 ?_
 refine q24 O87 ?_
 refine q0 ?_
 have ⟨t42,ht42,p1⟩:=bE p1
 refine kN rfl (zP5 [(3001,3001),(3004,3004),(3120,3120)] (ih ht42) (lq rfl) (by decide) rfl ⟨rfl,rfl,rfl,rfl,rfl,trivial⟩ rfl rfl ⟨rfl,rfl,rfl,trivial⟩ rfl rfl rfl rfl) ?_
 have ⟨r1011_2,hr1011_2,p1⟩:=bE p1
 refine q34 yX hr1011_2 ?_
 refine Q19 ?_
 refine Q16 ?_
 cases p1
 exact wc
 refine zH ?_
 cases p1
 intro q;cases q
 exact zJ (wc)
 refine Q0 ?_
 refine q24 z5A ?_
 refine q0 ?_
 refine q9 ?_
 refine zF5 (zCZ (t:=47) (lq rfl) rfl rfl) ?_ (by simp)
 refine z1T z71 K3 ?_
 refine zF<|Q27 ?_
 refine Q19 ?_
 refine zN (zCZ (t:=6) (lq rfl) rfl rfl) ?_
 cases h
 refine zB ?_
 exact ⟨⟨_,_,rfl,rfl,rfl⟩,⟨rfl,rfl,rfl,trivial⟩⟩
theorem zB7 {a0} {a1} {r:Unit} (h:uM a0 a1=some r):GCA Tryd.prog 37 [.d (eNorm.dv a0),.d (db a1)] [] [] (.clo 45 [.ptr 5 0,.d (.pt (eNorm.cells a0)),.d (.pt [(db a1)]),.ptr 6 0]) [(5,.box 104 [.row 7]),(6,.box 87 [.clo 45 [.ptr 5 0,.d (.pt (eNorm.cells a0)),.d (.pt [(db a1)]),.ptr 6 0]]),(7,.map (xL kI (eL eI) []))]:=by
 refine zXB Tryd.func37 (by kernel_rfl) rfl (lq rfl) (lq rfl) rfl fun w0 I0 hG0 p0=>?_
 unfold uM at h
 refine Q44 ?_
 refine q74 ?_
 refine Q45 ?_
 refine zYF ?_
 refine kN rfl (yN (zs:=[(.map none)]) (lq rfl) (by kernel_rfl) rfl rfl) ?_
 refine q68 z5A ?_
 refine Q34 ?_
 refine kN rfl (yN (zs:=[.nilFunc]) (lq rfl) (by kernel_rfl) rfl rfl) ?_
 refine Q34 ?_
 refine yK (zIO (cs:=[.ptr 5 0,.d (.pt (eNorm.cells a0)),.d (.pt [(db a1)]),.ptr 6 0]) (lq rfl) ⟨_,_,rfl,rfl,⟨_,_,rfl,rfl,⟨_,_,rfl,rfl,⟨_,_,rfl,rfl,rfl⟩⟩⟩⟩) ?_
 refine kN rfl (zFS O87 rfl rfl (lq rfl) rfl rfl rfl rfl) ?_
 refine Q34 ?_
 refine q24 O87 ?_
 refine q98 ?_
 refine zF ?_
 cases h
 refine zB ?_
 exact ⟨rfl,⟨rfl,rfl,rfl,trivial⟩⟩
theorem zEU {a0 r:(List Int)} (h:vK a0=some r):GC Tryd.prog 48 [.d (z8 eI a0)] [] [] [.row 5] [(5,.row 3 eI.size false (eI.all r))]:=by
 unfold vK at h
 cases a0 with
 | nil=>
  refine zXS (by decide) fun B c=>?_
  refine zA5 Tryd.func48 (by kernel_rfl) rfl (lq rfl) (lq rfl) fun w0 I0 hG0 p0=>?_
  refine Q39 ?_
  refine yK (zVK (lq rfl) Tryd.underlying32 rfl) ?_
  refine zF ?_
  refine zFI rfl ⟨fun c1=>?_,fun c1=>?_⟩
  obtain ⟨rfl,_⟩:=zHU h
  refine Q3 ?_
  refine zN (zAQ (t:=2) 5 3 eI.size (lq rfl) (lq rfl) rfl rfl) ?_
  refine zB ?_
  exact ⟨⟨_,_,rfl,rfl,rfl⟩,rfl,trivial⟩
  refine zI ?_
  refine Q0 ?_
  refine kN rfl (zE1 (lq rfl) yX rfl rfl rfl rfl (by decide) rfl) ?_
  refine q0 ?_
  refine zF5 (zN3 (t:=6) eI.size (lq rfl) rfl) ?_ (by simp)
  refine q34 yX h ?_
  refine Q19 ?_
  refine zB ?_
  exact ⟨⟨_,_,rfl,rfl,rfl⟩,rfl,trivial⟩
 | cons x l=>
  refine zA5 Tryd.func48 (by kernel_rfl) rfl (lq rfl) (lq rfl) fun w0 I0 hG0 p0=>?_
  refine Q39 ?_
  refine yK (z09 (lq rfl) Tryd.underlying32 rfl (z41 (by decide))) ?_
  refine zF ?_
  refine zFI rfl ⟨fun c1=>(by cases c1),fun c1=>?_⟩
  refine Q40 ?_
  refine kN rfl (zE1 (lq rfl) yX rfl rfl rfl rfl (by decide) rfl) ?_
  refine q0 ?_
  refine q34 yX h ?_
  refine Q19 ?_
  refine zB ?_
  exact ⟨⟨_,_,rfl,rfl,rfl⟩,rfl,trivial⟩
theorem zH5 {a0 a1 a2 r} (h:j6 a0 a1 a2=some r):zG Tryd.prog 51 [(di a0),(di a1),(.pt [(z8 eSpan a2)])] [(di r)]:=by
 refine co Tryd.func51 ?_;intro _ _ _ _
 unfold j6 at h
 refine Q3 ?_
 refine kQ ?_
 refine kH MX rfl ?_
 refine zYM O39 ?_
 refine q8 ?_
 have ⟨t8,ht8,h⟩:=bE h
 refine q26 (zBU ht8) ?_
 refine zYM O39 ?_
 refine q8 ?_
 have ⟨t11,ht11,h⟩:=bE h
 refine q26 (zBU ht11) ?_
 have ⟨t12,ht12,h⟩:=bE h
 refine q26 (jX ht12) ?_
 refine Q50 ?_
 cases h
 refine zB ?_
 exact zL rfl
set_option maxHeartbeats 8000000 in
theorem wX {fv3:DV} {a0:(List Int)} {a1:Int} {a2:Int} {a3:Int→Int→Option (Int)} (hf3:∀x0 x1 y,a3 x0 x1=some y→FnC Tryd.prog fv3 [(di x0),(di x1)] [(di y)]) {r:(List Int)} (h:yO a0 a1 a2 a3=some r):GC Tryd.prog 84 [.row 3000,.d (di a1),.d (di a2),.d fv3] [(3000,.win 3 eI.size 0 (eI.all a0))] [3000] [] [(3000,.win 3 eI.size 0 (eI.all r))]:=by
 refine zA5 Tryd.func84 (by kernel_rfl) rfl (lq rfl) (lq rfl) fun w0 I0 hG0 p0=>?_
 unfold yO at h
 refine Q2 ?_
 refine Q18 ?_
 refine yQ ?_
 have ⟨y1,hy1,h⟩:=bE h
 refine tl (.exit 0) ⟨[(0,.row 3000)],[(3000,.win 3 eI.size 0 (eI.all y1))]⟩ ?_ ?_
 refine zE (fun x=>⟨[(0,.row 3000),(1,.d (di a1)),(2,.d (di a2)),(3,.d fv3),(8,.d (di x.1))],[(3000,.win 3 eI.size 0 (eI.all x.2))]⟩) hy1 (wc) ?_
 rintro ⟨v8,r3000⟩ sy1 p1
 replace p1:zM a2 a1 a3 v8 r3000=some sy1:=p1
 unfold zM at p1
 refine Q49 ?_
 refine yY p1 (fun p1=>?_) (fun p1=>?_)
 refine Q9 ?_
 refine Q32 ?_
 refine yQ ?_
 have ⟨y2,hy2,p1⟩:=bE p1
 refine tl (.exit 2) ⟨[(0,.row 3000),(1,.d (di a1)),(2,.d (di a2)),(3,.d fv3),(8,.d (di v8))],[(3000,.win 3 eI.size 0 (eI.all y2))]⟩ ?_ ?_
 refine zE (fun x=>⟨[(0,.row 3000),(1,.d (di a1)),(2,.d (di a2)),(3,.d fv3),(8,.d (di v8)),(9,.d (di x.1))],[(3000,.win 3 eI.size 0 (eI.all x.2))]⟩) hy2 (wc) ?_
 rintro ⟨v9,r3000⟩ sy2 p2
 replace p2:zQ a1 a3 v9 r3000=some sy2:=p2
 unfold zQ at p2
 refine kQ<|kQ ?_
 refine kH MX rfl ?_
 refine Q38 ?_
 refine q85 ?_
 have ⟨b21,hb21,p2⟩:=bE p2
 refine daa ((zC (lq rfl) rfl).bool (oi hb21)) ?_
 refine q54 (.d fv3) ?_
 refine zYL (.row 3000) ?_
 refine q54 (.d (di v9)) ?_
 have ⟨t25,ht25,p2⟩:=bE p2
 refine dat (.wp 3000 (v9.toNat*eI.size)) rfl (fun hb=>by subst hb;exact zB2 (en:=eI) (l:=r3000) (lq rfl) yX rfl rfl rfl ht25) ?_
 refine dat (.d (di t25)) rfl (fun hb=>by subst hb;exact zEQ (en:=eI) (l:=r3000) (i:=v9) (v:=t25) (lq rfl) O3 rfl rfl ht25 rfl) ?_
 refine zYL (.row 3000) ?_
 refine q54 (.d (di v9)) ?_
 refine zYG (.d (di (wi (v9 - 1)))) ?_
 have ⟨t30,ht30,p2⟩:=bE p2
 refine dat (.wp 3000 ((wi (v9 - 1)).toNat*eI.size)) rfl (fun hb=>by subst hb;exact zB2 (en:=eI) (l:=r3000) (lq rfl) yX rfl rfl rfl ht30) ?_
 refine dat (.d (di t30)) rfl (fun hb=>by subst hb;exact zEQ (en:=eI) (l:=r3000) (i:=(wi (v9 - 1))) (v:=t30) (lq rfl) O3 rfl rfl ht30 rfl) ?_
 have ⟨t32,ht32,p2⟩:=bE p2
 refine dat (.d (di t32)) rfl (fun hb=>by subst hb;exact zBW (lq rfl) rfl rfl (hf3 _ _ _ ht32)) ?_
 refine dat (.d (db (decide (t32 < 0)))) rfl (fun hb=>by subst hb;exact zMC (lq rfl) rfl rfl) ?_
 refine q69 ?_
 refine wZ ?_
 refine yY p2 (fun p2=>?_) (fun p2=>?_)
 refine Q9 ?_
 have ⟨t45,ht45,p2⟩:=bE p2
 have ⟨t49,ht49,p2⟩:=bE p2
 have ⟨t51,ht51,p2⟩:=bE p2
 have ⟨r3000_6x15,hr3000_6x15,p2⟩:=bE p2
 have ⟨t52,ht52,p2⟩:=bE p2
 have ⟨r3000_6x17,hr3000_6x17,p2⟩:=bE p2
 refine tl .normal ⟨[(0,.row 3000),(1,.d (di a1)),(2,.d (di a2)),(3,.d fv3),(8,.d (di v8)),(9,.d (di v9))],[(3000,.win 3 eI.size 0 (eI.all r3000_6x17))]⟩ ?_ ?_
 refine zBX MX ?_
 refine Q80 ?_
 refine xm 2 ?_
 refine xm 3 ?_
 refine zER (i:=4) rfl (lq rfl) rfl rfl rfl rfl rfl rfl ?_
 refine xm 5 ?_
 refine xm 6 ?_
 refine zER (i:=7) rfl (lq rfl) rfl rfl rfl rfl rfl rfl ?_
 refine xm 10 ?_
 refine xm 11 ?_
 refine xn [8,12] ?_
 refine q73 yX ht45 ?_ ?_
 refine xn [9,12] ?_
 refine q57 O3 ht45 ?_ ?_
 refine xn [12] ?_
 refine q11 yX ht49 ?_
 refine xn [13] ?_
 refine q23 O3 ht49 ?_
 refine xn [14] ?_
 refine q11 yX ht51 ?_
 refine xn [15] ?_
 refine q15 O3 ht51 hr3000_6x15 ?_
 refine xn [16] ?_
 refine q11 yX ht52 ?_
 refine xn [17] ?_
 refine q15 O3 ht52 hr3000_6x17 ?_
 exact ae
 refine q11 yX ht49 ?_
 refine xn [9,13] ?_
 refine q57 O3 ht45 ?_ ?_
 refine xn [13] ?_
 refine q23 O3 ht49 ?_
 refine xn [14] ?_
 refine q11 yX ht51 ?_
 refine xn [15] ?_
 refine q15 O3 ht51 hr3000_6x15 ?_
 refine xn [16] ?_
 refine q11 yX ht52 ?_
 refine xn [17] ?_
 refine q15 O3 ht52 hr3000_6x17 ?_
 exact ae
 refine q23 O3 ht49 ?_
 refine xn [9] ?_
 refine q23 O3 ht45 ?_
 refine xn [14] ?_
 refine q11 yX ht51 ?_
 refine xn [15] ?_
 refine q15 O3 ht51 hr3000_6x15 ?_
 refine xn [16] ?_
 refine q11 yX ht52 ?_
 refine xn [17] ?_
 refine q15 O3 ht52 hr3000_6x17 ?_
 exact ae
 refine q11 yX ht49 ?_
 refine xn [8,13] ?_
 refine q73 yX ht45 ?_ ?_
 refine xn [9,13] ?_
 refine q57 O3 ht45 ?_ ?_
 refine xn [13] ?_
 refine q23 O3 ht49 ?_
 refine xn [14] ?_
 refine q11 yX ht51 ?_
 refine xn [15] ?_
 refine q15 O3 ht51 hr3000_6x15 ?_
 refine xn [16] ?_
 refine q11 yX ht52 ?_
 refine xn [17] ?_
 refine q15 O3 ht52 hr3000_6x17 ?_
 exact ae
 refine q23 O3 ht49 ?_
 refine xn [9] ?_
 refine q23 O3 ht45 ?_
 refine xn [14] ?_
 refine q11 yX ht51 ?_
 refine xn [15] ?_
 refine q15 O3 ht51 hr3000_6x15 ?_
 refine xn [16] ?_
 refine q11 yX ht52 ?_
 refine xn [17] ?_
 refine q15 O3 ht52 hr3000_6x17 ?_
 exact ae
 refine q23 O3 ht49 ?_
 refine xn [8] ?_
 refine q11 yX ht45 ?_
 refine xn [9] ?_
 refine q23 O3 ht45 ?_
 refine xn [14] ?_
 refine q11 yX ht51 ?_
 refine xn [15] ?_
 refine q15 O3 ht51 hr3000_6x15 ?_
 refine xn [16] ?_
 refine q11 yX ht52 ?_
 refine xn [17] ?_
 refine q15 O3 ht52 hr3000_6x17 ?_
 exact ae
 refine Q8 ?_
 refine Q52 ?_
 cases p2
 exact wc
 refine zH ?_
 cases p2
 intro q;cases q
 exact zJ (wc)
 refine Q21 ?_
 cases p1
 exact wc
 refine zH ?_
 cases p1
 intro q;cases q
 exact zJ (wc)
 cases h
 exact ⟨rfl,⟨rfl,trivial⟩⟩
set_option maxHeartbeats 8000000 in
theorem xQ {fv4:DV} {a0:(List Int)} {a1:Int} {a2:Int} {a3:Int} {a4:Int→Int→Option (Int)} (hf4:∀x0 x1 y,a4 x0 x1=some y→FnC Tryd.prog fv4 [(di x0),(di x1)] [(di y)]) {r:(List Int)} (h:yP a0 a1 a2 a3 a4=some r):GC Tryd.prog 96 [.row 3000,.d (di a1),.d (di a2),.d (di a3),.d fv4] [(3000,.win 3 eI.size 0 (eI.all a0))] [3000] [] [(3000,.win 3 eI.size 0 (eI.all r))]:=by
 refine zA5 Tryd.func96 (by kernel_rfl) rfl (lq rfl) (lq rfl) fun w0 I0 hG0 p0=>?_
 unfold yP at h
 refine Q37 ?_
 have ⟨y1,hy1,h⟩:=bE h
 refine tl (.exit 0) ⟨[(0,.row 3000)],[(3000,.win 3 eI.size 0 (eI.all y1))]⟩ ?_ ?_
 refine zE (fun x=>⟨[(0,.row 3000),(1,.d (di a1)),(2,.d (di a2)),(3,.d (di a3)),(10,.d (di x.1))],[(3000,.win 3 eI.size 0 (eI.all x.2))]⟩) hy1 (wc) ?_
 rintro ⟨v10,r3000⟩ sy1 p1
 replace p1:yC a3 a2 a1 v10 r3000=some sy1:=p1
 unfold yC at p1
 refine Q49 ?_
 refine yY p1 (fun p1=>?_) (fun p1=>?_)
 refine Q9 ?_
 have ⟨t28,ht28,p1⟩:=bE p1
 have ⟨t34,ht34,p1⟩:=bE p1
 have ⟨t36,ht36,p1⟩:=bE p1
 have ⟨r3000_3x21,hr3000_3x21,p1⟩:=bE p1
 have ⟨t37,ht37,p1⟩:=bE p1
 have ⟨r3000_3x23,hr3000_3x23,p1⟩:=bE p1
 refine tl .normal ⟨[(0,.row 3000),(1,.d (di a1)),(2,.d (di a2)),(3,.d (di a3)),(10,.d (di v10))],[(3000,.win 3 eI.size 0 (eI.all r3000_3x23))]⟩ ?_ ?_
 refine zBX MX ?_
 refine Q80 ?_
 refine xm 2 ?_
 refine zGA (i:=3) rfl (lq rfl) rfl rfl rfl rfl rfl rfl ?_
 refine xm 4 ?_
 refine xm 5 ?_
 refine xm 6 ?_
 refine zGA (i:=7) rfl (lq rfl) rfl rfl rfl rfl rfl rfl ?_
 refine xm 8 ?_
 refine xm 9 ?_
 refine xm 10 ?_
 refine zGA (i:=11) rfl (lq rfl) rfl rfl rfl rfl rfl rfl ?_
 refine xm 14 ?_
 refine xm 15 ?_
 refine xm 16 ?_
 refine zGA (i:=17) rfl (lq rfl) rfl rfl rfl rfl rfl rfl ?_
 refine xn [12,18] ?_
 refine q73 yX ht28 ?_ ?_
 refine xn [13,18] ?_
 refine q57 O3 ht28 ?_ ?_
 refine xn [18] ?_
 refine q11 yX ht34 ?_
 refine xn [19] ?_
 refine q23 O3 ht34 ?_
 refine xn [20] ?_
 refine q11 yX ht36 ?_
 refine xn [21] ?_
 refine q15 O3 ht36 hr3000_3x21 ?_
 refine xn [22] ?_
 refine q11 yX ht37 ?_
 refine xn [23] ?_
 refine q15 O3 ht37 hr3000_3x23 ?_
 exact ae
 refine q11 yX ht34 ?_
 refine xn [13,19] ?_
 refine q57 O3 ht28 ?_ ?_
 refine xn [19] ?_
 refine q23 O3 ht34 ?_
 refine xn [20] ?_
 refine q11 yX ht36 ?_
 refine xn [21] ?_
 refine q15 O3 ht36 hr3000_3x21 ?_
 refine xn [22] ?_
 refine q11 yX ht37 ?_
 refine xn [23] ?_
 refine q15 O3 ht37 hr3000_3x23 ?_
 exact ae
 refine q23 O3 ht34 ?_
 refine xn [13] ?_
 refine q23 O3 ht28 ?_
 refine xn [20] ?_
 refine q11 yX ht36 ?_
 refine xn [21] ?_
 refine q15 O3 ht36 hr3000_3x21 ?_
 refine xn [22] ?_
 refine q11 yX ht37 ?_
 refine xn [23] ?_
 refine q15 O3 ht37 hr3000_3x23 ?_
 exact ae
 refine q11 yX ht34 ?_
 refine xn [12,19] ?_
 refine q73 yX ht28 ?_ ?_
 refine xn [13,19] ?_
 refine q57 O3 ht28 ?_ ?_
 refine xn [19] ?_
 refine q23 O3 ht34 ?_
 refine xn [20] ?_
 refine q11 yX ht36 ?_
 refine xn [21] ?_
 refine q15 O3 ht36 hr3000_3x21 ?_
 refine xn [22] ?_
 refine q11 yX ht37 ?_
 refine xn [23] ?_
 refine q15 O3 ht37 hr3000_3x23 ?_
 exact ae
 refine q23 O3 ht34 ?_
 refine xn [13] ?_
 refine q23 O3 ht28 ?_
 refine xn [20] ?_
 refine q11 yX ht36 ?_
 refine xn [21] ?_
 refine q15 O3 ht36 hr3000_3x21 ?_
 refine xn [22] ?_
 refine q11 yX ht37 ?_
 refine xn [23] ?_
 refine q15 O3 ht37 hr3000_3x23 ?_
 exact ae
 refine q23 O3 ht34 ?_
 refine xn [12] ?_
 refine q11 yX ht28 ?_
 refine xn [13] ?_
 refine q23 O3 ht28 ?_
 refine xn [20] ?_
 refine q11 yX ht36 ?_
 refine xn [21] ?_
 refine q15 O3 ht36 hr3000_3x21 ?_
 refine xn [22] ?_
 refine q11 yX ht37 ?_
 refine xn [23] ?_
 refine q15 O3 ht37 hr3000_3x23 ?_
 exact ae
 refine Q21 ?_
 cases p1
 exact wc
 refine zH ?_
 cases p1
 intro q;cases q
 exact zJ (wc)
 cases h
 exact ⟨rfl,⟨rfl,trivial⟩⟩
theorem zC5 {fv4:DV} {a0:(List Int)} {a1:Int} {a2:Int} {a3:Int} {a4:Int→Int→Option (Int)} (hf4:∀x0 x1 y,a4 x0 x1=some y→FnC Tryd.prog fv4 [(di x0),(di x1)] [(di y)]) {r:(List Int)} (h:k7 a0 a1 a2 a3 a4=some r):GC Tryd.prog 92 [.row 3000,.d (di a1),.d (di a2),.d (di a3),.d fv4] [(3000,.win 3 eI.size 0 (eI.all a0))] [3000] [] [(3000,.win 3 eI.size 0 (eI.all r))]:=by
 refine zA5 Tryd.func92 (by kernel_rfl) rfl (lq rfl) (lq rfl) fun w0 I0 hG0 p0=>?_
 unfold k7 at h
 refine Q28 ?_
 refine q30 ?_
 refine Q65 ?_
 refine Q52 ?_
 refine Q42 ?_
 have ⟨y1,hy1,h⟩:=bE h
 refine tl (.exit 0) ⟨[(0,.row 3000),(2,.d (di a2)),(4,.d fv4),(10,.d (di y1.1))],[(3000,.win 3 eI.size 0 (eI.all y1.2))]⟩ ?_ ?_
 refine zE (fun x=>⟨[(0,.row 3000),(2,.d (di a2)),(4,.d fv4),(10,.d (di x.1)),(11,.d (di x.2.1))],[(3000,.win 3 eI.size 0 (eI.all x.2.2))]⟩) hy1 (wc) ?_
 rintro ⟨v10,v11,r3000⟩ sy1 p1
 replace p1:z4 a2 a4 v10 v11 r3000=some sy1:=p1
 unfold z4 at p1
 refine Q14 ?_
 refine Q33 ?_
 refine yY p1 (fun p1=>?_) (fun p1=>?_)
 refine zI ?_
 have ⟨y2,hy2,p1⟩:=bE p1
 refine tl .normal ⟨[(0,.row 3000),(2,.d (di a2)),(4,.d fv4),(10,.d (di y2.1)),(11,.d (di y2.2.1))],[(3000,.win 3 eI.size 0 (eI.all y2.2.2))]⟩ ?_ ?_
 refine Q75 ?_
 refine Q46 ?_
 refine yY hy2 (fun hy2=>?_) (fun hy2=>?_)
 refine Q60 ?_
 refine q30 ?_
 refine Q20 ?_
 refine q0 ?_
 have ⟨t31,ht31,hy2⟩:=bE hy2
 refine kN rfl (zAK [(3000,3000)] (xQ hf4 ht31) (lq rfl) (by decide) ⟨rfl,rfl,rfl,rfl,rfl,trivial⟩ rfl rfl ⟨rfl,trivial⟩ rfl rfl rfl rfl) ?_
 refine zF<|Q57 ?_
 refine Q52 ?_
 cases hy2
 exact zJ (wc)
 refine Q60 ?_
 refine q30 ?_
 refine Q20 ?_
 refine q4 ?_
 refine q0 ?_
 refine q30 ?_
 refine Q20 ?_
 have ⟨t46,ht46,hy2⟩:=bE hy2
 refine kN rfl (zAK [(3000,3000)] (xQ hf4 ht46) (lq rfl) (by decide) ⟨rfl,rfl,rfl,rfl,rfl,trivial⟩ rfl rfl ⟨rfl,trivial⟩ rfl rfl rfl rfl) ?_
 refine zF<|Q57 ?_
 refine Q52 ?_
 cases hy2
 exact zJ (wc)
 cases p1
 exact wc
 refine zH ?_
 cases p1
 intro q;cases q
 exact zJ (wc)
 refine Q86 ?_
 refine q30 ?_
 refine Q20 ?_
 refine q0 ?_
 have ⟨t57,ht57,h⟩:=bE h
 refine kN rfl (zAK [(3000,3000)] (xQ hf4 ht57) (lq rfl) (by decide) ⟨rfl,rfl,rfl,rfl,rfl,trivial⟩ rfl rfl ⟨rfl,trivial⟩ rfl rfl rfl rfl) ?_
 refine zF ?_
 cases h
 exact ⟨rfl,⟨rfl,trivial⟩⟩
set_option maxHeartbeats 8000000 in
theorem uU:∀(n:Nat) {fv4:DV} {a0:(List Int)} {a1:Int} {a2:Int} {a3:Int} {a4:Int→Int→Option (Int)} (hf4:∀x0 x1 y,a4 x0 x1=some y→FnC Tryd.prog fv4 [(di x0),(di x1)] [(di y)]) {r:(List Int)} (h:yJ n a0 a1 a2 a3 a4=some r),GC Tryd.prog 85 [.row 3000,.d (di a1),.d (di a2),.d (di a3),.d fv4] [(3000,.win 3 eI.size 0 (eI.all a0))] [3000] [] [(3000,.win 3 eI.size 0 (eI.all r))]:=by
 intro n
 induction n with
 | zero=>intro fv4 a0 a1 a2 a3 a4 hf4 r h;cases h
 | succ n ih=>
 intro fv4 a0 a1 a2 a3 a4 hf4 r h
 replace h:z2 (yJ n) a0 a1 a2 a3 a4=some r:=h
 generalize yJ n=rec at h ih
 refine zA5 Tryd.func85 (by kernel_rfl) rfl (lq rfl) (lq rfl) fun w0 I0 hG0 p0=>?_
 unfold z2 at h
 refine Q14 ?_
 refine q30 ?_
 refine Q63 ?_
 refine yY h (fun h=>?_) (fun h=>?_)
 refine Q2 ?_
 refine Q10 ?_
 refine Q1 ?_
 refine Q42 ?_
 have ⟨y1,hy1,h⟩:=bE h
 refine tl (.exit 0) ⟨[(0,.row 3000),(1,.d (di a1)),(10,.d (di y1))],[(3000,.win 3 eI.size 0 (eI.all a0))]⟩ ?_ ?_
 refine zE (fun x=>⟨[(0,.row 3000),(1,.d (di a1)),(4,.d fv4),(10,.d (di x.1)),(11,.d (di x.2))],[(3000,.win 3 eI.size 0 (eI.all a0))]⟩) hy1 (wc) ?_
 rintro ⟨v10,v11⟩ sy1 p1
 replace p1:yD a0 a1 a4 v10 v11=some sy1:=p1
 unfold yD at p1
 refine Q49 ?_
 refine yY p1 (fun p1=>?_) (fun p1=>?_)
 refine zI ?_
 have ⟨y2,hy2,p1⟩:=bE p1
 refine tl .normal ⟨[(0,.row 3000),(1,.d (di a1)),(4,.d fv4),(10,.d (di y2.1)),(11,.d (di y2.2))],[(3000,.win 3 eI.size 0 (eI.all a0))]⟩ ?_ ?_
 refine Q75 ?_
 refine Q89 ?_
 refine Q67 ?_
 refine kH MX rfl ?_
 refine q8 ?_
 refine Q76 ?_
 have ⟨t43,ht43,hy2⟩:=bE hy2
 refine q95 yX ht43 ?_
 refine q96 O3 ht43 ?_
 refine Q76 ?_
 have ⟨t47,ht47,hy2⟩:=bE hy2
 refine q95 yX ht47 ?_
 refine q96 O3 ht47 ?_
 have ⟨t49,ht49,hy2⟩:=bE hy2
 refine daa (zBW (lq rfl) rfl rfl (hf4 _ _ _ ht49)) ?_
 refine zYN ?_
 refine wZ ?_
 refine yY hy2 (fun hy2=>?_) (fun hy2=>?_)
 refine Q21 ?_
 cases hy2
 exact zJ (wc)
 refine Q68 ?_
 cases hy2
 exact zJ (wc)
 cases p1
 exact wc
 refine zH ?_
 cases p1
 intro q;cases q
 exact zJ (wc)
 refine Q4 ?_
 refine Q1 ?_
 refine yQ ?_
 have ⟨y3,hy3,h⟩:=bE h
 refine tl (.exit 2) ⟨[(0,.row 3000)],[(3000,.win 3 eI.size 0 (eI.all y3))]⟩ ?_ ?_
 refine zE (fun x=>⟨[(0,.row 3000),(10,.d (di y1)),(13,.d (di x.1))],[(3000,.win 3 eI.size 0 (eI.all x.2))]⟩) hy3 (wc) ?_
 rintro ⟨v13,r3000⟩ sy3 p3
 replace p3:yE y1 v13 r3000=some sy3:=p3
 unfold yE at p3
 refine Q14 ?_
 refine q30 ?_
 refine Q7 ?_
 refine yY p3 (fun p3=>?_) (fun p3=>?_)
 refine Q9 ?_
 have ⟨t69,ht69,p3⟩:=bE p3
 have ⟨t73,ht73,p3⟩:=bE p3
 have ⟨t75,ht75,p3⟩:=bE p3
 have ⟨r3000_11x15,hr3000_11x15,p3⟩:=bE p3
 have ⟨t76,ht76,p3⟩:=bE p3
 have ⟨r3000_11x17,hr3000_11x17,p3⟩:=bE p3
 refine tl .normal ⟨[(0,.row 3000),(10,.d (di y1)),(13,.d (di v13))],[(3000,.win 3 eI.size 0 (eI.all r3000_11x17))]⟩ ?_ ?_
 refine zBX MX ?_
 refine Q80 ?_
 refine xm 2 ?_
 refine xm 3 ?_
 refine zGA (i:=4) rfl (lq rfl) rfl rfl rfl rfl rfl rfl ?_
 refine xm 5 ?_
 refine xm 6 ?_
 refine zGA (i:=7) rfl (lq rfl) rfl rfl rfl rfl rfl rfl ?_
 refine xm 10 ?_
 refine xm 11 ?_
 refine xn [8,12] ?_
 refine q73 yX ht69 ?_ ?_
 refine xn [9,12] ?_
 refine q57 O3 ht69 ?_ ?_
 refine xn [12] ?_
 refine q11 yX ht73 ?_
 refine xn [13] ?_
 refine q23 O3 ht73 ?_
 refine xn [14] ?_
 refine q11 yX ht75 ?_
 refine xn [15] ?_
 refine q15 O3 ht75 hr3000_11x15 ?_
 refine xn [16] ?_
 refine q11 yX ht76 ?_
 refine xn [17] ?_
 refine q15 O3 ht76 hr3000_11x17 ?_
 exact ae
 refine q11 yX ht73 ?_
 refine xn [9,13] ?_
 refine q57 O3 ht69 ?_ ?_
 refine xn [13] ?_
 refine q23 O3 ht73 ?_
 refine xn [14] ?_
 refine q11 yX ht75 ?_
 refine xn [15] ?_
 refine q15 O3 ht75 hr3000_11x15 ?_
 refine xn [16] ?_
 refine q11 yX ht76 ?_
 refine xn [17] ?_
 refine q15 O3 ht76 hr3000_11x17 ?_
 exact ae
 refine q23 O3 ht73 ?_
 refine xn [9] ?_
 refine q23 O3 ht69 ?_
 refine xn [14] ?_
 refine q11 yX ht75 ?_
 refine xn [15] ?_
 refine q15 O3 ht75 hr3000_11x15 ?_
 refine xn [16] ?_
 refine q11 yX ht76 ?_
 refine xn [17] ?_
 refine q15 O3 ht76 hr3000_11x17 ?_
 exact ae
 refine q11 yX ht73 ?_
 refine xn [8,13] ?_
 refine q73 yX ht69 ?_ ?_
 refine xn [9,13] ?_
 refine q57 O3 ht69 ?_ ?_
 refine xn [13] ?_
 refine q23 O3 ht73 ?_
 refine xn [14] ?_
 refine q11 yX ht75 ?_
 refine xn [15] ?_
 refine q15 O3 ht75 hr3000_11x15 ?_
 refine xn [16] ?_
 refine q11 yX ht76 ?_
 refine xn [17] ?_
 refine q15 O3 ht76 hr3000_11x17 ?_
 exact ae
 refine q23 O3 ht73 ?_
 refine xn [9] ?_
 refine q23 O3 ht69 ?_
 refine xn [14] ?_
 refine q11 yX ht75 ?_
 refine xn [15] ?_
 refine q15 O3 ht75 hr3000_11x15 ?_
 refine xn [16] ?_
 refine q11 yX ht76 ?_
 refine xn [17] ?_
 refine q15 O3 ht76 hr3000_11x17 ?_
 exact ae
 refine q23 O3 ht73 ?_
 refine xn [8] ?_
 refine q11 yX ht69 ?_
 refine xn [9] ?_
 refine q23 O3 ht69 ?_
 refine xn [14] ?_
 refine q11 yX ht75 ?_
 refine xn [15] ?_
 refine q15 O3 ht75 hr3000_11x15 ?_
 refine xn [16] ?_
 refine q11 yX ht76 ?_
 refine xn [17] ?_
 refine q15 O3 ht76 hr3000_11x17 ?_
 exact ae
 refine Q21 ?_
 cases p3
 exact wc
 refine zH ?_
 cases p3
 intro q;cases q
 exact zJ (wc)
 cases h
 refine zB ?_
 exact ⟨rfl,⟨rfl,trivial⟩⟩
 refine zI<|Q14 ?_
 refine q30 ?_
 refine Q63 ?_
 refine yY h (fun h=>?_) (fun h=>?_)
 refine Q2 ?_
 refine Q10 ?_
 refine Q1 ?_
 refine Q42 ?_
 have ⟨y4,hy4,h⟩:=bE h
 refine tl (.exit 4) ⟨[(0,.row 3000),(2,.d (di a2)),(14,.d (di y4))],[(3000,.win 3 eI.size 0 (eI.all a0))]⟩ ?_ ?_
 refine zE (fun x=>⟨[(0,.row 3000),(2,.d (di a2)),(4,.d fv4),(14,.d (di x.1)),(15,.d (di x.2))],[(3000,.win 3 eI.size 0 (eI.all a0))]⟩) hy4 (wc) ?_
 rintro ⟨v14,v15⟩ sy4 p4
 replace p4:yF a0 a2 a4 v14 v15=some sy4:=p4
 unfold yF at p4
 refine Q49 ?_
 refine yY p4 (fun p4=>?_) (fun p4=>?_)
 refine zI ?_
 have ⟨y5,hy5,p4⟩:=bE p4
 refine tl .normal ⟨[(0,.row 3000),(2,.d (di a2)),(4,.d fv4),(14,.d (di y5.1)),(15,.d (di y5.2))],[(3000,.win 3 eI.size 0 (eI.all a0))]⟩ ?_ ?_
 refine Q75 ?_
 refine Q89 ?_
 refine Q67 ?_
 refine kH MX rfl ?_
 refine q8 ?_
 refine Q76 ?_
 have ⟨t95,ht95,hy5⟩:=bE hy5
 refine q95 yX ht95 ?_
 refine q96 O3 ht95 ?_
 refine Q76 ?_
 have ⟨t99,ht99,hy5⟩:=bE hy5
 refine q95 yX ht99 ?_
 refine q96 O3 ht99 ?_
 have ⟨t101,ht101,hy5⟩:=bE hy5
 refine daa (zBW (lq rfl) rfl rfl (hf4 _ _ _ ht101)) ?_
 refine zYN ?_
 refine z8A ?_
 refine wZ ?_
 refine yY hy5 (fun hy5=>?_) (fun hy5=>?_)
 refine Q21 ?_
 cases hy5
 exact zJ (wc)
 refine Q68 ?_
 cases hy5
 exact zJ (wc)
 cases p4
 exact wc
 refine zH ?_
 cases p4
 intro q;cases q
 exact zJ (wc)
 refine Q4 ?_
 refine Q1 ?_
 refine yQ ?_
 have ⟨y6,hy6,h⟩:=bE h
 refine tl (.exit 6) ⟨[(0,.row 3000)],[(3000,.win 3 eI.size 0 (eI.all y6))]⟩ ?_ ?_
 refine zE (fun x=>⟨[(0,.row 3000),(14,.d (di y4)),(17,.d (di x.1))],[(3000,.win 3 eI.size 0 (eI.all x.2))]⟩) hy6 (wc) ?_
 rintro ⟨v17,r3000⟩ sy6 p6
 replace p6:yG y4 v17 r3000=some sy6:=p6
 unfold yG at p6
 refine Q14 ?_
 refine Q46 ?_
 refine yY p6 (fun p6=>?_) (fun p6=>?_)
 refine Q9 ?_
 have ⟨t121,ht121,p6⟩:=bE p6
 have ⟨t125,ht125,p6⟩:=bE p6
 have ⟨t127,ht127,p6⟩:=bE p6
 have ⟨r3000_23x15,hr3000_23x15,p6⟩:=bE p6
 have ⟨t128,ht128,p6⟩:=bE p6
 have ⟨r3000_23x17,hr3000_23x17,p6⟩:=bE p6
 refine tl .normal ⟨[(0,.row 3000),(14,.d (di y4)),(17,.d (di v17))],[(3000,.win 3 eI.size 0 (eI.all r3000_23x17))]⟩ ?_ ?_
 refine zBX MX ?_
 refine Q80 ?_
 refine xm 2 ?_
 refine xm 3 ?_
 refine zER (i:=4) rfl (lq rfl) rfl rfl rfl rfl rfl rfl ?_
 refine xm 5 ?_
 refine xm 6 ?_
 refine zER (i:=7) rfl (lq rfl) rfl rfl rfl rfl rfl rfl ?_
 refine xm 10 ?_
 refine xm 11 ?_
 refine xn [8,12] ?_
 refine q73 yX ht121 ?_ ?_
 refine xn [9,12] ?_
 refine q57 O3 ht121 ?_ ?_
 refine xn [12] ?_
 refine q11 yX ht125 ?_
 refine xn [13] ?_
 refine q23 O3 ht125 ?_
 refine xn [14] ?_
 refine q11 yX ht127 ?_
 refine xn [15] ?_
 refine q15 O3 ht127 hr3000_23x15 ?_
 refine xn [16] ?_
 refine q11 yX ht128 ?_
 refine xn [17] ?_
 refine q15 O3 ht128 hr3000_23x17 ?_
 exact ae
 refine q11 yX ht125 ?_
 refine xn [9,13] ?_
 refine q57 O3 ht121 ?_ ?_
 refine xn [13] ?_
 refine q23 O3 ht125 ?_
 refine xn [14] ?_
 refine q11 yX ht127 ?_
 refine xn [15] ?_
 refine q15 O3 ht127 hr3000_23x15 ?_
 refine xn [16] ?_
 refine q11 yX ht128 ?_
 refine xn [17] ?_
 refine q15 O3 ht128 hr3000_23x17 ?_
 exact ae
 refine q23 O3 ht125 ?_
 refine xn [9] ?_
 refine q23 O3 ht121 ?_
 refine xn [14] ?_
 refine q11 yX ht127 ?_
 refine xn [15] ?_
 refine q15 O3 ht127 hr3000_23x15 ?_
 refine xn [16] ?_
 refine q11 yX ht128 ?_
 refine xn [17] ?_
 refine q15 O3 ht128 hr3000_23x17 ?_
 exact ae
 refine q11 yX ht125 ?_
 refine xn [8,13] ?_
 refine q73 yX ht121 ?_ ?_
 refine xn [9,13] ?_
 refine q57 O3 ht121 ?_ ?_
 refine xn [13] ?_
 refine q23 O3 ht125 ?_
 refine xn [14] ?_
 refine q11 yX ht127 ?_
 refine xn [15] ?_
 refine q15 O3 ht127 hr3000_23x15 ?_
 refine xn [16] ?_
 refine q11 yX ht128 ?_
 refine xn [17] ?_
 refine q15 O3 ht128 hr3000_23x17 ?_
 exact ae
 refine q23 O3 ht125 ?_
 refine xn [9] ?_
 refine q23 O3 ht121 ?_
 refine xn [14] ?_
 refine q11 yX ht127 ?_
 refine xn [15] ?_
 refine q15 O3 ht127 hr3000_23x15 ?_
 refine xn [16] ?_
 refine q11 yX ht128 ?_
 refine xn [17] ?_
 refine q15 O3 ht128 hr3000_23x17 ?_
 exact ae
 refine q23 O3 ht125 ?_
 refine xn [8] ?_
 refine q11 yX ht121 ?_
 refine xn [9] ?_
 refine q23 O3 ht121 ?_
 refine xn [14] ?_
 refine q11 yX ht127 ?_
 refine xn [15] ?_
 refine q15 O3 ht127 hr3000_23x15 ?_
 refine xn [16] ?_
 refine q11 yX ht128 ?_
 refine xn [17] ?_
 refine q15 O3 ht128 hr3000_23x17 ?_
 exact ae
 refine Q8 ?_
 refine Q52 ?_
 cases p6
 exact wc
 refine zH ?_
 cases p6
 intro q;cases q
 exact zJ (wc)
 cases h
 refine zB ?_
 exact ⟨rfl,⟨rfl,trivial⟩⟩
 refine zI<|Q28 ?_
 refine Q89 ?_
 refine Q65 ?_
 refine Q18 ?_
 refine Q0 ?_
 refine Q24 ?_
 refine Q14 ?_
 refine Q46 ?_
 have ⟨y7,hy7,h⟩:=bE h
 refine tl .normal ⟨[(0,.row 3000),(1,.d (di a1)),(2,.d (di a2)),(3,.d (di a3)),(4,.d fv4),(18,.d (di (wi ((wu (wi (a1+a3))) / 2 ^ 1)))),(19,.d (di (wi ((wi ((wu (wi (a1+a3))) / 2 ^ 1))+a2)))),(20,.d (di y7.1)),(21,.d (di y7.2))],[(3000,.win 3 eI.size 0 (eI.all a0))]⟩ ?_ ?_
 refine yY hy7 (fun hy7=>?_) (fun hy7=>?_)
 refine Q28 ?_
 refine Q52 ?_
 refine Q68 ?_
 cases hy7
 exact zJ (wc)
 refine Q32 ?_
 refine Q68 ?_
 cases hy7
 exact zJ (wc)
 refine Q2 ?_
 refine Q52 ?_
 refine Q42 ?_
 have ⟨y8,hy8,h⟩:=bE h
 refine tl (.exit 8) ⟨[(0,.row 3000),(1,.d (di a1)),(2,.d (di a2)),(3,.d (di a3)),(4,.d fv4),(18,.d (di (wi ((wu (wi (a1+a3))) / 2 ^ 1)))),(19,.d (di (wi ((wi ((wu (wi (a1+a3))) / 2 ^ 1))+a2)))),(20,.d (di y8))],[(3000,.win 3 eI.size 0 (eI.all a0))]⟩ ?_ ?_
 refine zE (fun x=>⟨[(0,.row 3000),(1,.d (di a1)),(2,.d (di a2)),(3,.d (di a3)),(4,.d fv4),(18,.d (di (wi ((wu (wi (a1+a3))) / 2 ^ 1)))),(19,.d (di (wi ((wi ((wu (wi (a1+a3))) / 2 ^ 1))+a2)))),(20,.d (di x.1)),(21,.d (di x.2)),(22,.d (di (wi ((wi ((wi ((wu (wi (a1+a3))) / 2 ^ 1))+a2)) - 1))))],[(3000,.win 3 eI.size 0 (eI.all a0))]⟩) hy8 (wc) ?_
 rintro ⟨v20,v21⟩ sy8 p8
 replace p8:yH a0 a1 a3 a2 a4 v20 v21=some sy8:=p8
 unfold yH at p8
 refine Q49 ?_
 refine yY p8 (fun p8=>?_) (fun p8=>?_)
 refine zI ?_
 have ⟨y9,hy9,p8⟩:=bE p8
 refine tl .normal ⟨[(0,.row 3000),(1,.d (di a1)),(2,.d (di a2)),(3,.d (di a3)),(4,.d fv4),(18,.d (di (wi ((wu (wi (a1+a3))) / 2 ^ 1)))),(19,.d (di (wi ((wi ((wu (wi (a1+a3))) / 2 ^ 1))+a2)))),(20,.d (di y9.1)),(21,.d (di y9.2)),(22,.d (di (wi ((wi ((wi ((wu (wi (a1+a3))) / 2 ^ 1))+a2)) - 1))))],[(3000,.win 3 eI.size 0 (eI.all a0))]⟩ ?_ ?_
 refine Q75 ?_
 refine Q89 ?_
 refine Q67 ?_
 refine kH MX rfl ?_
 refine q8 ?_
 refine q63 ?_
 refine Q38 ?_
 refine zYK ?_
 have ⟨t163,ht163,hy9⟩:=bE hy9
 refine q95 yX ht163 ?_
 refine q96 O3 ht163 ?_
 refine Q76 ?_
 have ⟨t167,ht167,hy9⟩:=bE hy9
 refine q95 yX ht167 ?_
 refine q96 O3 ht167 ?_
 have ⟨t169,ht169,hy9⟩:=bE hy9
 refine daa (zBW (lq rfl) rfl rfl (hf4 _ _ _ ht169)) ?_
 refine zYN ?_
 refine z8A ?_
 refine wZ ?_
 refine yY hy9 (fun hy9=>?_) (fun hy9=>?_)
 refine Q21 ?_
 cases hy9
 exact zJ (wc)
 refine Q68 ?_
 cases hy9
 exact zJ (wc)
 cases p8
 exact wc
 refine zH ?_
 cases p8
 intro q;cases q
 exact zJ (wc)
 refine Q28 ?_
 refine Q52 ?_
 refine Q14 ?_
 refine q2 ?_
 have ⟨b181,hb181,h⟩:=bE h
 refine yK ((zC (lq rfl) rfl).bool (oi hb181)) ?_
 refine q20 (.d (di a2)) ?_
 refine q20 (.d (di (wi ((wi ((wi ((wu (wi (a1+a3))) / 2 ^ 1))+a2)) - y8)))) ?_
 refine q64 (.d (db (decide (a2 < (wi ((wi ((wi ((wu (wi (a1+a3))) / 2 ^ 1))+a2)) - y8)))))) ?_
 refine Q47 ?_
 have ⟨y10,hy10,h⟩:=bE h
 refine tl .normal ⟨[(0,.row 3000),(1,.d (di a1)),(3,.d (di a3)),(4,.d fv4),(18,.d (di (wi ((wu (wi (a1+a3))) / 2 ^ 1)))),(20,.d (di y8)),(24,.d (di (wi ((wi ((wi ((wu (wi (a1+a3))) / 2 ^ 1))+a2)) - y8))))],[(3000,.win 3 eI.size 0 (eI.all y10))]⟩ ?_ ?_
 refine yY hy10 (fun hy10=>?_) (fun hy10=>?_)
 refine Q86 ?_
 refine Q20 ?_
 have ⟨t191,ht191,hy10⟩:=bE hy10
 refine kN rfl (zAK [(3000,3000)] (zC5 hf4 ht191) (lq rfl) (by decide) ⟨rfl,rfl,rfl,rfl,rfl,trivial⟩ rfl rfl ⟨rfl,trivial⟩ rfl rfl rfl rfl) ?_
 refine zF ?_
 cases hy10
 exact zJ (wc)
 refine zI ?_
 cases hy10
 exact zJ (wc)
 refine Q14 ?_
 refine q2 ?_
 have ⟨b195,hb195,h⟩:=bE h
 refine yK ((zC (lq rfl) rfl).bool (oi hb195)) ?_
 refine q20 (.d (di y8)) ?_
 refine q20 (.d (di (wi ((wu (wi (a1+a3))) / 2 ^ 1)))) ?_
 refine q64 (.d (db (decide (y8 < (wi ((wu (wi (a1+a3))) / 2 ^ 1)))))) ?_
 refine Q47 ?_
 have ⟨y11,hy11,h⟩:=bE h
 refine tl .normal ⟨[(0,.row 3000),(3,.d (di a3)),(4,.d fv4),(18,.d (di (wi ((wu (wi (a1+a3))) / 2 ^ 1)))),(24,.d (di (wi ((wi ((wi ((wu (wi (a1+a3))) / 2 ^ 1))+a2)) - y8))))],[(3000,.win 3 eI.size 0 (eI.all y11))]⟩ ?_ ?_
 refine yY hy11 (fun hy11=>?_) (fun hy11=>?_)
 refine Q86 ?_
 refine Q20 ?_
 have ⟨t205,ht205,hy11⟩:=bE hy11
 refine kN rfl (zAK [(3000,3000)] (ih hf4 ht205) (lq rfl) (by decide) ⟨rfl,rfl,rfl,rfl,rfl,trivial⟩ rfl rfl ⟨rfl,trivial⟩ rfl rfl rfl rfl) ?_
 refine zF ?_
 cases hy11
 exact zJ (wc)
 refine zI ?_
 cases hy11
 exact zJ (wc)
 refine Q28 ?_
 refine q2 ?_
 have ⟨b209,hb209,h⟩:=bE h
 refine yK ((zC (lq rfl) rfl).bool (oi hb209)) ?_
 refine q20 (.d (di (wi ((wi ((wi ((wu (wi (a1+a3))) / 2 ^ 1))+a2)) - y8)))) ?_
 refine q20 (.d (di a3)) ?_
 refine q64 (.d (db (decide ((wi ((wi ((wi ((wu (wi (a1+a3))) / 2 ^ 1))+a2)) - y8)) < a3)))) ?_
 refine Q47 ?_
 refine yY h (fun h=>?_) (fun h=>?_)
 refine Q86 ?_
 refine Q20 ?_
 have ⟨t219,ht219,h⟩:=bE h
 refine kN rfl (zAK [(3000,3000)] (ih hf4 ht219) (lq rfl) (by decide) ⟨rfl,rfl,rfl,rfl,rfl,trivial⟩ rfl rfl ⟨rfl,trivial⟩ rfl rfl rfl rfl) ?_
 refine zF ?_
 cases h
 exact ⟨rfl,⟨rfl,trivial⟩⟩
 refine zI ?_
 cases h
 exact ⟨rfl,⟨rfl,trivial⟩⟩
theorem zC6 {fv2:DV} {a0:(List Int)} {a1:Int} {a2:Int→Int→Option (Int)} (hf2:∀x0 x1 y,a2 x0 x1=some y→FnC Tryd.prog fv2 [(di x0),(di x1)] [(di y)]) {r:(List Int)} (h:xJ a0 a1 a2=some r):GC Tryd.prog 71 [.row 3000,.d (di a1),.d fv2] [(3000,.win 3 eI.size 0 (eI.all a0))] [3000] [] [(3000,.win 3 eI.size 0 (eI.all r))]:=by
 refine zA5 Tryd.func71 (by kernel_rfl) rfl (lq rfl) (lq rfl) fun w0 I0 hG0 p0=>?_
 unfold xJ at h
 refine Q54 ?_
 refine Q24 ?_
 refine Q42 ?_
 have ⟨y1,hy1,h⟩:=bE h
 refine tl (.exit 0) ⟨[(0,.row 3000),(1,.d (di a1)),(2,.d fv2),(6,.d (di 20)),(7,.d (di y1.1))],[(3000,.win 3 eI.size 0 (eI.all y1.2))]⟩ ?_ ?_
 refine zE (fun x=>⟨[(0,.row 3000),(1,.d (di a1)),(2,.d fv2),(6,.d (di 20)),(7,.d (di x.1)),(8,.d (di x.2.1))],[(3000,.win 3 eI.size 0 (eI.all x.2.2))]⟩) hy1 (wc) ?_
 rintro ⟨v7,v8,r3000⟩ sy1 p1
 replace p1:zY a1 a2 v7 v8 r3000=some sy1:=p1
 unfold zY at p1
 refine Q14 ?_
 refine q66 ?_
 refine zF ?_
 refine yY p1 (fun p1=>?_) (fun p1=>?_)
 refine zI<|yQ<|Q85 ?_
 have ⟨t18,ht18,p1⟩:=bE p1
 refine kN rfl (zAK [(3000,3000)] (wX hf2 ht18) (lq rfl) (by decide) ⟨rfl,rfl,rfl,rfl,trivial⟩ rfl rfl ⟨rfl,trivial⟩ rfl rfl rfl rfl) ?_
 refine zF<|Q32 ?_
 refine Q57 ?_
 refine Q18 ?_
 cases p1
 exact wc
 refine zH ?_
 cases p1
 intro q;cases q
 exact zJ (wc)
 refine Q85 ?_
 have ⟨t27,ht27,h⟩:=bE h
 refine kN rfl (zAK [(3000,3000)] (wX hf2 ht27) (lq rfl) (by decide) ⟨rfl,rfl,rfl,rfl,trivial⟩ rfl rfl ⟨rfl,trivial⟩ rfl rfl rfl rfl) ?_
 refine zF<|yQ ?_
 have ⟨y2,hy2,h⟩:=bE h
 refine tl (.exit 2) ⟨[(0,.row 3000)],[(3000,.win 3 eI.size 0 (eI.all y2))]⟩ ?_ ?_
 refine zE (fun x=>⟨[(0,.row 3000),(1,.d (di a1)),(2,.d fv2),(6,.d (di x.1))],[(3000,.win 3 eI.size 0 (eI.all x.2))]⟩) hy2 (wc) ?_
 rintro ⟨v6,r3000⟩ sy2 p2
 replace p2:z5 a1 a2 v6 r3000=some sy2:=p2
 unfold z5 at p2
 refine Q49 ?_
 refine yY p2 (fun p2=>?_) (fun p2=>?_)
 refine zI<|Q64 ?_
 refine yK (zXF (lq rfl) rfl rfl) ?_
 refine Q24 ?_
 refine Q42 ?_
 have ⟨y3,hy3,p2⟩:=bE p2
 refine tl (.exit 4) ⟨[(0,.row 3000),(1,.d (di a1)),(2,.d fv2),(6,.d (di v6)),(7,.d (di y3.1))],[(3000,.win 3 eI.size 0 (eI.all y3.2))]⟩ ?_ ?_
 refine zE (fun x=>⟨[(0,.row 3000),(1,.d (di a1)),(2,.d fv2),(6,.d (di v6)),(7,.d (di x.1)),(8,.d (di x.2.1))],[(3000,.win 3 eI.size 0 (eI.all x.2.2))]⟩) hy3 (wc) ?_
 rintro ⟨v7,v8,r3000⟩ sy3 p3
 replace p3:zZ a1 v6 a2 v7 v8 r3000=some sy3:=p3
 unfold zZ at p3
 refine Q14 ?_
 refine q66 ?_
 refine zF ?_
 refine yY p3 (fun p3=>?_) (fun p3=>?_)
 refine zI<|yQ<|Q85 ?_
 refine q4 ?_
 refine Q20 ?_
 have ⟨t43,ht43,p3⟩:=bE p3
 refine kN rfl (zAK [(3000,3000)] (uU _ hf2 ht43) (lq rfl) (by decide) ⟨rfl,rfl,rfl,rfl,rfl,trivial⟩ rfl rfl ⟨rfl,trivial⟩ rfl rfl rfl rfl) ?_
 refine zF<|Q32 ?_
 refine Q57 ?_
 refine yK (zXF (lq rfl) rfl rfl) ?_
 refine Q18 ?_
 cases p3
 exact wc
 refine zH ?_
 cases p3
 intro q;cases q
 exact zJ (wc)
 refine Q14 ?_
 refine q4 ?_
 refine Q65 ?_
 refine Q7 ?_
 have ⟨y4,hy4,p2⟩:=bE p2
 refine tl .normal ⟨[(0,.row 3000),(1,.d (di a1)),(2,.d fv2),(6,.d (di v6))],[(3000,.win 3 eI.size 0 (eI.all y4))]⟩ ?_ ?_
 refine yY hy4 (fun hy4=>?_) (fun hy4=>?_)
 refine Q86 ?_
 refine Q20 ?_
 have ⟨t60,ht60,hy4⟩:=bE hy4
 refine kN rfl (zAK [(3000,3000)] (uU _ hf2 ht60) (lq rfl) (by decide) ⟨rfl,rfl,rfl,rfl,rfl,trivial⟩ rfl rfl ⟨rfl,trivial⟩ rfl rfl rfl rfl) ?_
 refine zF ?_
 cases hy4
 exact zJ (wc)
 refine zI ?_
 cases hy4
 exact zJ (wc)
 refine Q8 ?_
 refine yK (zXF (lq rfl) rfl rfl) ?_
 refine Q1 ?_
 cases p2
 exact wc
 refine zH ?_
 cases p2
 intro q;cases q
 exact zJ (wc)
 cases h
 exact ⟨rfl,⟨rfl,trivial⟩⟩
theorem zBJ {fv1:DV} {a0:(List Int)} {a1:Int→Int→Option (Int)} (hf1:∀x0 x1 y,a1 x0 x1=some y→FnC Tryd.prog fv1 [(di x0),(di x1)] [(di y)]) {r:(List Int)} (h:yU a0 a1=some r):GC Tryd.prog 50 [.row 3000,.d fv1] [(3000,.win 3 eI.size 0 (eI.all a0))] [3000] [] [(3000,.win 3 eI.size 0 (eI.all r))]:=by
 refine zA5 Tryd.func50 (by kernel_rfl) rfl (lq rfl) (lq rfl) fun w0 I0 hG0 p0=>?_
 unfold yU at h
 refine Q29 ?_
 refine q9 ?_
 refine z1Z yX ?_
 refine q0 ?_
 have ⟨t8,ht8,h⟩:=bE h
 refine kN rfl (zAK [(3000,3000)] (zC6 hf1 ht8) (lq rfl) (by decide) ⟨rfl,rfl,rfl,trivial⟩ rfl rfl ⟨rfl,trivial⟩ rfl rfl rfl rfl) ?_
 refine zF ?_
 cases h
 exact ⟨rfl,⟨rfl,trivial⟩⟩
theorem zE6 {a0:List Span} {a1 r:List Int} (h:vS a0 a1=some r):GC Tryd.prog 38 [.d (z8 eSpan a0),.d (z8 eI a1)] [] [] [.row 100] [(100,.row 3 eI.size false (eI.all r))]:=by
 unfold vS at h
 have ⟨t8,ht8,h'⟩:=bE h;clear h
 have ⟨t10,ht10,h⟩:=bE h';clear h'
 have ⟨t13,ht13,h'⟩:=bE h;clear h
 refine zA5 Tryd.func38 (by kernel_rfl) rfl (lq rfl) (lq rfl) fun w0 I0 hG0 p0=>?_
 refine Q0 ?_
 refine kN rfl (zSS (lq rfl) rfl rfl rfl) ?_
 refine Q45 ?_
 refine q24 O39 ?_
 refine q7 (zDL ht8) ?_
 refine q38 O39 ?_
 refine zF ?_
 refine zN (z0 (t:=2) (lq rfl) rfl rfl rfl) ?_
 refine Q2 ?_
 refine kN rfl (zBO [(5,100)] (zEU ht10) (lq rfl) (by decide) ⟨rfl,trivial⟩ rfl rfl trivial rfl rfl rfl (fun _=>rfl) rfl) ?_
 refine kN rfl (yN (zs:=[(.slice none 0 0)]) (lq rfl) (by kernel_rfl) rfl rfl) ?_
 refine q68 O32 ?_
 refine Q78 ?_
 refine q65 O39 ?_
 refine q0 ?_
 refine q7 zE5 ?_
 refine zF<|yQ ?_
 refine zMM [(5,.ptr 5 0),(2,.d (.pt [z8 eSpan t8])),(4,.d (.v (.slice none 0 0)))] [5] (fun k=>[(5,.box 32 [.row 100]),(100,.row 3 eI.size false (eI.all (outK (fun p=>yU p (fun x0 x1=>j6 x0 x1 t8)) Range.Lo Range.Hi t10 (jC (fun c=>yZ t8 c==some 0) a1 0 (-1)) k)))]) rfl (zDM ht13) rfl (fun _ _ _ _ h=>h) ?hk ?hT rfl (fun _=>rfl) ?hbx (fun _ _=>rfl) ?hl ?hpn ?rd ?hK
 case hk=>exact ⟨rfl,rfl,rfl,trivial⟩
 case hT=>exact ⟨rfl,rfl,trivial⟩
 case hbx=>intro k id hi;simp at hi;subst hi;exact fun (h:Blk.box _ _=Blk.none)=>by cases h
 case hl=>intro x hx;obtain ⟨y,_,rfl⟩:=List.mem_map.1 hx;rfl
 case hpn=>intro p hp;simp at hp;subst hp;exact (lq rfl)
 case rd=>
  intro w1 Iall X C0 ρ0 defs l1 D lp1 lp2 hok k x hx
  rw [List.getElem?_map] at hx
  obtain ⟨v,hv,rfl⟩:=Option.map_eq_some_iff.1 hx
  have hst:=zVP h' hv
  obtain ⟨q0,q1,q2⟩:=zX0 hst
  refine wY<|q78 ?_
  refine Q81 ?_
  refine yQ<|wY<|q24 O32 ?_
  refine q41 zG8 ?_
  refine q24 O3 ?_
  refine q41 zDS ?_
  refine q24 O3 ?_
  refine yK (zP6 (en:=eI) (lq rfl) yX rfl rfl rfl rfl q0 q1 q2) ?_
  refine yK (zG4 (lq rfl) rfl) ?_
  refine kN rfl (z43 (en:=eI) (lq rfl) rfl rfl rfl hst z9O (fun m m' hm=>zBJ (fun _ _ _ q=> .inl ⟨_,_,rfl,zH5 q⟩) hm) rfl) ?_
  refine zF ?_
  exact ⟨rfl,rfl,trivial⟩
 case hK=>
  rw [List.length_map,zXZ h']
  refine Q0 ?_
  refine q24 O32 ?_
  refine Q19 ?_
  refine zB ?_
  exact ⟨⟨_,_,rfl,rfl,rfl⟩,rfl,trivial⟩
theorem zIT {a0 a1 a2 r} (h:jV a0 a1 a2=some r):zG Tryd.prog 30 [(eNorm.dv a0),(z8 eI a1),(db a2)] [(z8 eI r)]:=by
 refine co Tryd.func30 ?_;intro _ _ _ _
 unfold jV at h
 refine Q0 ?_
 refine q75 ?_
 refine Q45 ?_
 refine yK ((k9 (lq rfl) G45 rfl rfl rfl rfl).data rfl) ?_
 have ⟨t12,ht12,h⟩:=bE h
 refine q7 (zC4 ht12) ?_
 refine q13 G45 ?_
 refine Q34 ?_
 refine yK ((k9 (lq rfl) G45 rfl rfl rfl rfl).data rfl) ?_
 refine q0 ?_
 have ⟨t15,ht15,h⟩:=bE h
 refine kN rfl (zN4 [(5,2515),(6,3015),(7,3515)] (zB7 ht15) (lq rfl) (by decide) ⟨rfl,rfl,trivial⟩ rfl rfl trivial rfl rfl rfl (fun _=>rfl) rfl) ?_
 refine q98 ?_
 refine zF<|Q3 ?_
 refine zN (zAQ (t:=8) 1008 3 eI.size (lq rfl) (lq rfl) rfl rfl) ?_
 refine Q4 ?_
 refine Q58 ?_
 have ⟨y1,hy1,h⟩:=bE h
 refine tl (.exit 0) ⟨[(3,.ptr 3 0),(8,.row 1008)],[(3,.box 45 [.d (z8 eSpan t12.Classes),.d (z8 eMapping t12.Decomp),.d (z8 eRange t12.Excluded.Ranges)]),(1008,.row 3 eI.size false (eI.all y1))]⟩ ?_ ?_
 refine zE (fun x=>⟨[(3,.ptr 3 0),(7,.clo 45 [.ptr 2515 0,.d (.pt (eNorm.cells ({Classes:=t12.Classes,Decomp:=t12.Decomp,Excluded:=({Ranges:=t12.Excluded.Ranges}:Set)}:Norm))),.d (.pt [(db a2)]),.ptr 3015 0]),(8,.row 1008),(16,.d (z8 eI a1)),(17,.d (di (a1.length:Int))),(18,.d (di x.1))],[(3,.box 45 [.d (z8 eSpan t12.Classes),.d (z8 eMapping t12.Decomp),.d (z8 eRange t12.Excluded.Ranges)]),(1008,.row 3 eI.size false (eI.all x.2.1)),(2515,.box 104 [.row 3515]),(3015,.box 87 [.clo 45 [.ptr 2515 0,.d (.pt (eNorm.cells ({Classes:=t12.Classes,Decomp:=t12.Decomp,Excluded:=({Ranges:=t12.Excluded.Ranges}:Set)}:Norm))),.d (.pt [(db a2)]),.ptr 3015 0]]),(3515,.map (xL kI (eL eI) x.2.2))]⟩) hy1 (wc) ?_
 rintro ⟨v18,r1008,r3515⟩ sy1 p1
 replace p1:jB a1 t12 a2 v18 r1008 r3515=some sy1:=p1
 unfold jB at p1
 refine Q13 ?_
 refine yY p1 (fun p1=>?_) (fun p1=>?_)
 refine Q25 ?_
 have ⟨t20,ht20,p1⟩:=bE p1
 refine q14 yX ht20 ?_
 refine q49 O3 ht20 ?_
 refine Q1 ?_
 refine Q29 ?_
 refine yK (zA4 (lq rfl) rfl) ?_
 refine q0 ?_
 have ⟨t25,ht25,p1⟩:=bE p1
 refine kN rfl (zJ0 [(3001,2515),(3004,3015),(3120,3515)] (zBE _ ht25) (lq rfl) (by decide) rfl ⟨rfl,rfl,rfl,rfl,rfl,trivial⟩ rfl rfl ⟨rfl,rfl,rfl,trivial⟩ rfl rfl rfl (fun _=>rfl) rfl) ?_
 have ⟨r1008_2,hr1008_2,p1⟩:=bE p1
 refine q34 yX hr1008_2 ?_
 refine Q19 ?_
 refine Q16 ?_
 cases p1
 exact wc
 refine zH ?_
 cases p1
 intro q;cases q
 exact zJ (wc)
 refine Q0 ?_
 refine q41 zM6 ?_
 refine q24 O39 ?_
 refine q9 ?_
 refine zF5 (zCZ (t:=30) (lq rfl) rfl rfl) ?_ (by simp)
 have ⟨t31,ht31,h⟩:=bE h
 refine kN rfl (zBO [(100,2531)] (zE6 ht31) (lq rfl) (by decide) ⟨rfl,rfl,trivial⟩ rfl rfl trivial rfl rfl rfl (fun _=>rfl) rfl) ?_
 refine Q19 ?_
 cases h
 refine zB ?_
 exact zL rfl
end Go.Proofs.YtjcbhabmkcdcnaaDoor.Walk


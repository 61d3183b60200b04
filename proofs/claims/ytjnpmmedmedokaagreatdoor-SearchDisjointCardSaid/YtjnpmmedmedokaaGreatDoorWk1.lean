/- Each function of the program answers as its plain counterpart does, where that answers. Conditions: none. -/
import Derived.Test.YtjnpmmedmedokaaGreatDoorMir
import Derived.Test.YtjnpmmedmedokaaGreatDoorLa3
import Derived.Test.YtjnpmmedmedokaaGreatDoorProg
import Derived.Test.YtjnpmmedmedokaaGreatDoorLa4
import Derived.Test.YtjnpmmedmedokaaGreatDoorSh1
import Derived.Shelf.Sort.Plain
import Derived.Shelf.Slices.In.SortNone
import Derived.Shelf.Slices.CompactI
import Derived.Shelf.Spec.SlicesGrow
set_option linter.unusedSimpArgs false
set_option linter.unusedVariables false
set_option linter.unnecessarySimpa false
namespace Go.Proofs.YtjnpmmedmedokaaGreatDoor.Walk
open Go.AV Go.M Go.RowKit Go.Proofs
theorem zXP:ArTy Tryz.prog 122 4 1 37 [(.slice none 0 0),(.slice none 0 0),(.slice none 0 0),(.slice none 0 0)]:=ArTy.of Tryz.underlying122 (by kernel_rfl) (by decide) (by kernel_rfl) rfl
theorem zLT:ArTy Tryz.prog 125 4 1 3 [(.int IntKind.i64 (0)),(.int IntKind.i64 (0)),(.int IntKind.i64 (0)),(.int IntKind.i64 (0))]:=ArTy.of Tryz.underlying125 (by kernel_rfl) (by decide) (by kernel_rfl) rfl
theorem yKI:ArTy Tryz.prog 141 9 1 3 [(.int IntKind.i64 (0)),(.int IntKind.i64 (0)),(.int IntKind.i64 (0)),(.int IntKind.i64 (0)),(.int IntKind.i64 (0)),(.int IntKind.i64 (0)),(.int IntKind.i64 (0)),(.int IntKind.i64 (0)),(.int IntKind.i64 (0))]:=ArTy.of Tryz.underlying141 (by kernel_rfl) (by decide) (by kernel_rfl) rfl
theorem yS8:ArTy Tryz.prog 210 4 2 43 [(.int IntKind.i64 (0)),(.int IntKind.i64 (0)),(.int IntKind.i64 (0)),(.int IntKind.i64 (0)),(.int IntKind.i64 (0)),(.int IntKind.i64 (0)),(.int IntKind.i64 (0)),(.int IntKind.i64 (0))]:=ArTy.of Tryz.underlying210 (by kernel_rfl) (by decide) (by kernel_rfl) rfl
theorem zSS:ArTy Tryz.prog 219 3 1 3 [(.int IntKind.i64 (0)),(.int IntKind.i64 (0)),(.int IntKind.i64 (0))]:=ArTy.of Tryz.underlying219 (by kernel_rfl) (by decide) (by kernel_rfl) rfl
theorem yS9:StTy Tryz.prog 105 [(0,3),(3,5),(8,4),(12,1),(13,1),(14,1),(15,1),(16,1),(17,1)] [(.slice none 0 0),(.slice none 0 0),(.slice none 0 0),(.slice none 0 0),(.slice none 0 0),(.int IntKind.i64 (0)),(.int IntKind.i64 (0)),(.int IntKind.i64 (0)),(.int IntKind.i64 (0)),(.int IntKind.i64 (0)),(.bool false),(.bool false),(.slice none 0 0),(.slice none 0 0),(.slice none 0 0),(.slice none 0 0),(.map none),(.map none)]:=fx Tryz.underlying105
theorem yTA:StTy Tryz.prog 139 [(0,5),(5,1),(6,1),(7,1),(8,1)] [(.slice none 0 0),(.slice none 0 0),(.int IntKind.i64 (0)),(.int IntKind.i64 (0)),(.int IntKind.i64 (0)),(.map none),(.int IntKind.i64 (0)),(.slice none 0 0),(.int IntKind.i64 (0))]:=fx Tryz.underlying139
theorem yTB:StTy Tryz.prog 214 [(0,1),(1,1)] [(.int IntKind.i64 (0)),(.string ⟨#[]⟩)]:=fx Tryz.underlying214
theorem B26:StTy Tryz.prog 26 [(0,1)] [(.slice none 0 0)]:=fx Tryz.underlying26
theorem B28:StTy Tryz.prog 28 [(0,1),(1,1),(2,1)] [(.slice none 0 0),(.slice none 0 0),(.slice none 0 0)]:=fx Tryz.underlying28
theorem B32:StTy Tryz.prog 32 [(0,1),(1,1),(2,1),(3,1),(4,1)] [(.slice none 0 0),(.slice none 0 0),(.int IntKind.i64 (0)),(.int IntKind.i64 (0)),(.int IntKind.i64 (0))]:=fx Tryz.underlying32
theorem B34:StTy Tryz.prog 34 [(0,1),(1,1),(2,1),(3,1)] [(.int IntKind.i64 (0)),(.int IntKind.i64 (0)),(.bool false),(.bool false)]:=fx Tryz.underlying34
theorem B43:StTy Tryz.prog 43 [(0,1),(1,1)] [(.int IntKind.i64 (0)),(.int IntKind.i64 (0))]:=fx Tryz.underlying43
theorem B82:StTy Tryz.prog 82 [(0,1),(1,1),(2,1),(3,1)] [(.int IntKind.i64 (0)),(.int IntKind.i64 (0)),(.int IntKind.i64 (0)),(.bool false)]:=fx Tryz.underlying82
theorem B91:StTy Tryz.prog 91 [(0,1),(1,1)] [(.slice none 0 0),(.slice none 0 0)]:=fx Tryz.underlying91
theorem zST:AggTy Tryz.prog 125 4:=fx Tryz.underlying125
theorem yKJ:AggTy Tryz.prog 141 9:=fx Tryz.underlying141
theorem uY:AggTy Tryz.prog 144 3:=fx Tryz.underlying144
theorem z4A:AggTy Tryz.prog 206 3:=fx Tryz.underlying206
theorem yTH:AggTy Tryz.prog 210 8:=fx Tryz.underlying210
theorem yRC:AggTy Tryz.prog 214 2:=fx Tryz.underlying214
theorem z4B:AggTy Tryz.prog 219 3:=fx Tryz.underlying219
theorem G26:AggTy Tryz.prog 26 1:=fx Tryz.underlying26
theorem G28:AggTy Tryz.prog 28 3:=fx Tryz.underlying28
theorem G32:AggTy Tryz.prog 32 5:=fx Tryz.underlying32
theorem G34:AggTy Tryz.prog 34 4:=fx Tryz.underlying34
theorem G43:AggTy Tryz.prog 43 2:=fx Tryz.underlying43
theorem G47:AggTy Tryz.prog 47 15:=fx Tryz.underlying47
theorem G60:AggTy Tryz.prog 60 3:=fx Tryz.underlying60
theorem G82:AggTy Tryz.prog 82 4:=fx Tryz.underlying82
theorem G91:AggTy Tryz.prog 91 2:=fx Tryz.underlying91
theorem K3:KeyTy Tryz.prog 3 kI:=yOI Tryz.underlying3
theorem K9:KeyTy Tryz.prog 9 kS:=yOJ Tryz.underlying9
theorem yOT:FldTy Tryz.prog 105 0 0 3 28:=fx Tryz.underlying105
theorem yOU:FldTy Tryz.prog 105 1 3 5 32:=fx Tryz.underlying105
theorem yOV:FldTy Tryz.prog 105 2 8 4 34:=fx Tryz.underlying105
theorem yOW:FldTy Tryz.prog 105 3 12 1 37:=fx Tryz.underlying105
theorem yFY:FldTy Tryz.prog 105 4 13 1 96:=fx Tryz.underlying105
theorem yFZ:FldTy Tryz.prog 105 5 14 1 79:=fx Tryz.underlying105
theorem yF0:FldTy Tryz.prog 105 6 15 1 37:=fx Tryz.underlying105
theorem zIS:FldTy Tryz.prog 105 7 16 1 103:=fx Tryz.underlying105
theorem zIT:FldTy Tryz.prog 105 8 17 1 103:=fx Tryz.underlying105
theorem z7E:FldTy Tryz.prog 139 0 0 5 32:=fx Tryz.underlying139
theorem yF1:FldTy Tryz.prog 139 1 5 1 137:=fx Tryz.underlying139
theorem z0Z:FldTy Tryz.prog 139 2 6 1 3:=fx Tryz.underlying139
theorem zQB:FldTy Tryz.prog 139 3 7 1 22:=fx Tryz.underlying139
theorem z7F:FldTy Tryz.prog 139 4 8 1 3:=fx Tryz.underlying139
theorem zHF:FldTy Tryz.prog 144 0 0 1 3:=fx Tryz.underlying144
theorem zHG:FldTy Tryz.prog 144 1 1 1 3:=fx Tryz.underlying144
theorem zIU:FldTy Tryz.prog 144 2 2 1 3:=fx Tryz.underlying144
theorem zSU:FldTy Tryz.prog 206 0 0 1 9:=fx Tryz.underlying206
theorem zSV:FldTy Tryz.prog 206 1 1 1 3:=fx Tryz.underlying206
theorem zSW:FldTy Tryz.prog 206 2 2 1 3:=fx Tryz.underlying206
theorem zLU:FldTy Tryz.prog 26 0 0 1 24:=fx Tryz.underlying26
theorem zAZ:FldTy Tryz.prog 28 0 0 1 22:=fx Tryz.underlying28
theorem zWD:FldTy Tryz.prog 28 1 1 1 23:=fx Tryz.underlying28
theorem yF2:FldTy Tryz.prog 28 2 2 1 26:=fx Tryz.underlying28
theorem z4D:FldTy Tryz.prog 32 0 0 1 29:=fx Tryz.underlying32
theorem zWE:FldTy Tryz.prog 32 1 1 1 30:=fx Tryz.underlying32
theorem zPW:FldTy Tryz.prog 32 2 2 1 3:=fx Tryz.underlying32
theorem z9Q:FldTy Tryz.prog 32 3 3 1 3:=fx Tryz.underlying32
theorem z9R:FldTy Tryz.prog 32 4 4 1 3:=fx Tryz.underlying32
theorem zK0:FldTy Tryz.prog 34 0 0 1 3:=fx Tryz.underlying34
theorem zZL:FldTy Tryz.prog 34 1 1 1 3:=fx Tryz.underlying34
theorem yF3:FldTy Tryz.prog 34 2 2 1 4:=fx Tryz.underlying34
theorem z9S:FldTy Tryz.prog 34 3 3 1 4:=fx Tryz.underlying34
theorem zOD:FldTy Tryz.prog 43 0 0 1 3:=fx Tryz.underlying43
theorem zK1:FldTy Tryz.prog 43 1 1 1 3:=fx Tryz.underlying43
theorem z9T:FldTy Tryz.prog 47 0 0 3 28:=fx Tryz.underlying47
theorem z4E:FldTy Tryz.prog 47 1 3 5 32:=fx Tryz.underlying47
theorem z4F:FldTy Tryz.prog 47 2 8 4 34:=fx Tryz.underlying47
theorem yF4:FldTy Tryz.prog 47 3 12 1 37:=fx Tryz.underlying47
theorem zRH:FldTy Tryz.prog 47 4 13 1 37:=fx Tryz.underlying47
theorem zTU:FldTy Tryz.prog 47 5 14 1 37:=fx Tryz.underlying47
theorem zLV:FldTy Tryz.prog 60 0 0 1 3:=fx Tryz.underlying60
theorem zIC:FldTy Tryz.prog 60 1 1 1 37:=fx Tryz.underlying60
theorem zFW:FldTy Tryz.prog 60 2 2 1 9:=fx Tryz.underlying60
theorem z4G:FldTy Tryz.prog 82 0 0 1 3:=fx Tryz.underlying82
theorem zRI:FldTy Tryz.prog 82 1 1 1 3:=fx Tryz.underlying82
theorem zRJ:FldTy Tryz.prog 82 2 2 1 3:=fx Tryz.underlying82
theorem zZM:FldTy Tryz.prog 82 3 3 1 4:=fx Tryz.underlying82
theorem zJX:FldTy Tryz.prog 91 0 0 1 37:=fx Tryz.underlying91
theorem zOE:FldTy Tryz.prog 91 1 1 1 79:=fx Tryz.underlying91
theorem zBN:MapTy Tryz.prog 103 3 3 (.int IntKind.i64 (0)):=MapTy.of Tryz.underlying103 (by kernel_rfl)
theorem yRD:MapTy Tryz.prog 137 141 79 (.slice none 0 0):=MapTy.of Tryz.underlying137 (by kernel_rfl)
theorem yRE:MapTy Tryz.prog 158 3 37 (.slice none 0 0):=MapTy.of Tryz.underlying158 (by kernel_rfl)
theorem yRF:MapTy Tryz.prog 208 9 4 (.bool false):=MapTy.of Tryz.underlying208 (by kernel_rfl)
theorem yRG:MapTy Tryz.prog 212 214 4 (.bool false):=MapTy.of Tryz.underlying212 (by kernel_rfl)
theorem zF0:OneTy Tryz.prog 103:=fx Tryz.underlying103
theorem yF5:OneTy Tryz.prog 110:=fx Tryz.underlying110
theorem yOX:OneTy Tryz.prog 126:=fx Tryz.underlying126
theorem yRH:OneTy Tryz.prog 137:=fx Tryz.underlying137
theorem yOY:OneTy Tryz.prog 147:=fx Tryz.underlying147
theorem yOZ:OneTy Tryz.prog 158:=fx Tryz.underlying158
theorem O22:OneTy Tryz.prog 22:=fx Tryz.underlying22
theorem O23:OneTy Tryz.prog 23:=fx Tryz.underlying23
theorem O24:OneTy Tryz.prog 24:=fx Tryz.underlying24
theorem O29:OneTy Tryz.prog 29:=fx Tryz.underlying29
theorem O3:OneTy Tryz.prog 3:=fx Tryz.underlying3
theorem O30:OneTy Tryz.prog 30:=fx Tryz.underlying30
theorem O37:OneTy Tryz.prog 37:=fx Tryz.underlying37
theorem O4:OneTy Tryz.prog 4:=fx Tryz.underlying4
theorem O70:OneTy Tryz.prog 70:=fx Tryz.underlying70
theorem O79:OneTy Tryz.prog 79:=fx Tryz.underlying79
theorem O9:OneTy Tryz.prog 9:=fx Tryz.underlying9
theorem O96:OneTy Tryz.prog 96:=fx Tryz.underlying96
theorem yF6:SlTy Tryz.prog 108 79 1 24 (.slice none 0 0):=fx Tryz.underlying108
theorem zXR:SlTy Tryz.prog 128 125 4 32 (.agg #[(.int IntKind.i64 (0)),(.int IntKind.i64 (0)),(.int IntKind.i64 (0)),(.int IntKind.i64 (0))]):=fx Tryz.underlying128
theorem yKK:SlTy Tryz.prog 151 4 1 1 (.bool false):=fx Tryz.underlying151
theorem S22:SlTy Tryz.prog 22 144 3 24 (.agg #[(.int IntKind.i64 (0)),(.int IntKind.i64 (0)),(.int IntKind.i64 (0))]):=fx Tryz.underlying22
theorem S23:SlTy Tryz.prog 23 60 3 48 (.agg #[(.int IntKind.i64 (0)),(.slice none 0 0),(.string ⟨#[]⟩)]):=fx Tryz.underlying23
theorem S24:SlTy Tryz.prog 24 43 2 16 (.agg #[(.int IntKind.i64 (0)),(.int IntKind.i64 (0))]):=fx Tryz.underlying24
theorem S29:SlTy Tryz.prog 29 91 2 48 (.agg #[(.slice none 0 0),(.slice none 0 0)]):=fx Tryz.underlying29
theorem S30:SlTy Tryz.prog 30 206 3 32 (.agg #[(.string ⟨#[]⟩),(.int IntKind.i64 (0)),(.int IntKind.i64 (0))]):=fx Tryz.underlying30
theorem yF:SlTy Tryz.prog 37 3 1 8 (.int IntKind.i64 (0)):=fx Tryz.underlying37
theorem S79:SlTy Tryz.prog 79 82 4 32 (.agg #[(.int IntKind.i64 (0)),(.int IntKind.i64 (0)),(.int IntKind.i64 (0)),(.bool false)]):=fx Tryz.underlying79
theorem S96:SlTy Tryz.prog 96 37 1 24 (.slice none 0 0):=fx Tryz.underlying96
theorem Z0:uB Tryz.prog 0=some [.int .i64 4352,.int .i64 4370,.int .i64 4449,.int .i64 4469,.int .i64 4520,.int .i64 4546,.int .i64 44032,.int .i64 55203]:=by kernel_rfl
theorem yTJ:EqTy Tryz.prog 125 bS:=EqTy.ofA (vals:=λ(x:bG)=>[.int IntKind.i64 x.x0,.int IntKind.i64 x.x1,.int IntKind.i64 x.x2,.int IntKind.i64 x.x3]) (cs:=λ(a b:bG)=>[decide (a.x0=b.x0),decide (a.x1=b.x1),decide (a.x2=b.x2),decide (a.x3=b.x3)]) zLT O3 (by kernel_rfl) (λ_=>rfl) (λa b w=>(Pw.cons ⟨_,_,rfl,rfl,Go.AV.run_equalIn_int Tryz.underlying3 _ _ _ _⟩ (Pw.cons ⟨_,_,rfl,rfl,Go.AV.run_equalIn_int Tryz.underlying3 _ _ _ _⟩ (Pw.cons ⟨_,_,rfl,rfl,Go.AV.run_equalIn_int Tryz.underlying3 _ _ _ _⟩ (Pw.cons ⟨_,_,rfl,rfl,Go.AV.run_equalIn_int Tryz.underlying3 _ _ _ _⟩ Pw.nil))))) (λa b=>by cases a;cases b;simp)
theorem yTK:EqTy Tryz.prog 141 cL:=EqTy.ofA (vals:=λ(x:bW)=>[.int IntKind.i64 x.x0,.int IntKind.i64 x.x1,.int IntKind.i64 x.x2,.int IntKind.i64 x.x3,.int IntKind.i64 x.x4,.int IntKind.i64 x.x5,.int IntKind.i64 x.x6,.int IntKind.i64 x.x7,.int IntKind.i64 x.x8]) (cs:=λ(a b:bW)=>[decide (a.x0=b.x0),decide (a.x1=b.x1),decide (a.x2=b.x2),decide (a.x3=b.x3),decide (a.x4=b.x4),decide (a.x5=b.x5),decide (a.x6=b.x6),decide (a.x7=b.x7),decide (a.x8=b.x8)]) yKI O3 (by kernel_rfl) (λ_=>rfl) (λa b w=>(Pw.cons ⟨_,_,rfl,rfl,Go.AV.run_equalIn_int Tryz.underlying3 _ _ _ _⟩ (Pw.cons ⟨_,_,rfl,rfl,Go.AV.run_equalIn_int Tryz.underlying3 _ _ _ _⟩ (Pw.cons ⟨_,_,rfl,rfl,Go.AV.run_equalIn_int Tryz.underlying3 _ _ _ _⟩ (Pw.cons ⟨_,_,rfl,rfl,Go.AV.run_equalIn_int Tryz.underlying3 _ _ _ _⟩ (Pw.cons ⟨_,_,rfl,rfl,Go.AV.run_equalIn_int Tryz.underlying3 _ _ _ _⟩ (Pw.cons ⟨_,_,rfl,rfl,Go.AV.run_equalIn_int Tryz.underlying3 _ _ _ _⟩ (Pw.cons ⟨_,_,rfl,rfl,Go.AV.run_equalIn_int Tryz.underlying3 _ _ _ _⟩ (Pw.cons ⟨_,_,rfl,rfl,Go.AV.run_equalIn_int Tryz.underlying3 _ _ _ _⟩ (Pw.cons ⟨_,_,rfl,rfl,Go.AV.run_equalIn_int Tryz.underlying3 _ _ _ _⟩ Pw.nil)))))))))) (λa b=>by cases a;cases b;simp)
set_option maxRecDepth 10000 in
theorem yTL:EqTy Tryz.prog 214 cG:=EqTy.of (vals:=λ(x:bN)=>[.int IntKind.i64 x.cH,.string ⟨x.cM.toArray⟩]) (cs:=λ(a b:bN)=>[decide (a.cH=b.cH),decide (a.cM=b.cM)]) Tryz.underlying214 (by kernel_rfl) (by kernel_rfl) (λ_=>rfl) (λa b w=>(zOV (d:=9998) rfl O3 (yJ1 (d:=9998) rfl O9 z0O Tryz.underlying9 rfl rfl) Tryz.underlying3 rfl rfl)) (λa b=>by cases a;cases b;simp)
theorem yTM:EqTy Tryz.prog 219 cK:=EqTy.ofA (vals:=λ(x:b4)=>[.int IntKind.i64 x.x0,.int IntKind.i64 x.x1,.int IntKind.i64 x.x2]) (cs:=λ(a b:b4)=>[decide (a.x0=b.x0),decide (a.x1=b.x1),decide (a.x2=b.x2)]) zSS O3 (by kernel_rfl) (λ_=>rfl) (λa b w=>(Pw.cons ⟨_,_,rfl,rfl,Go.AV.run_equalIn_int Tryz.underlying3 _ _ _ _⟩ (Pw.cons ⟨_,_,rfl,rfl,Go.AV.run_equalIn_int Tryz.underlying3 _ _ _ _⟩ (Pw.cons ⟨_,_,rfl,rfl,Go.AV.run_equalIn_int Tryz.underlying3 _ _ _ _⟩ Pw.nil)))) (λa b=>by cases a;cases b;simp)
set_option maxRecDepth 10000 in
theorem E43:EqTy Tryz.prog 43 aE:=EqTy.of (vals:=λ(x:Range)=>[.int IntKind.i64 x.Lo,.int IntKind.i64 x.Hi]) (cs:=λ(a b:Range)=>[decide (a.Lo=b.Lo),decide (a.Hi=b.Hi)]) Tryz.underlying43 (by kernel_rfl) (by kernel_rfl) (λ_=>rfl) (λa b w=>(zOV (d:=9998) rfl O3 (zOV (d:=9998) rfl O3 z0O Tryz.underlying3 rfl rfl) Tryz.underlying3 rfl rfl)) (λa b=>by cases a;cases b;simp)
set_option maxRecDepth 10000 in
theorem E82:EqTy Tryz.prog 82 aG:=EqTy.of (vals:=λ(x:aP)=>[.int IntKind.i64 x.aT,.int IntKind.i64 x.aL,.int IntKind.i64 x.aO,.bool x.aD]) (cs:=λ(a b:aP)=>[decide (a.aT=b.aT),decide (a.aL=b.aL),decide (a.aO=b.aO),decide (a.aD=b.aD)]) Tryz.underlying82 (by kernel_rfl) (by kernel_rfl) (λ_=>rfl) (λa b w=>(zOV (d:=9998) rfl O3 (zOV (d:=9998) rfl O3 (zOV (d:=9998) rfl O3 (yFF (d:=9998) rfl O4 z0O Tryz.underlying4 rfl rfl) Tryz.underlying3 rfl rfl) Tryz.underlying3 rfl rfl) Tryz.underlying3 rfl rfl)) (λa b=>by cases a;cases b;simp)
theorem yRK:KeyTy Tryz.prog 141 zG3:=yFJ (vals:=λ(x:bW)=>[.int IntKind.i64 x.x0,.int IntKind.i64 x.x1,.int IntKind.i64 x.x2,.int IntKind.i64 x.x3,.int IntKind.i64 x.x4,.int IntKind.i64 x.x5,.int IntKind.i64 x.x6,.int IntKind.i64 x.x7,.int IntKind.i64 x.x8]) Tryz.underlying141 yTK (λ_=>rfl) (λ_=>rfl) (λ_=>rfl) (λ_=>by simp[Instr.sameBits,zV1]) (λa b w=>yCD yKI O3 Tryz.underlying3 rfl rfl b w)
theorem yRL:KeyTy Tryz.prog 214 zI2:=yFJ (vals:=λ(x:bN)=>[.int IntKind.i64 x.cH,.string ⟨x.cM.toArray⟩]) Tryz.underlying214 yTL (λ_=>rfl) (λ_=>rfl) (λ_=>rfl) (λ_=>by simp[Instr.sameBits,zV1]) (λa b w=>z67 Tryz.underlying214 (List.forall_mem_cons.2 ⟨⟨O3,⟨_,Tryz.underlying3,rfl⟩,lq rfl⟩,(List.forall_mem_cons.2 ⟨⟨O9,⟨_,Tryz.underlying9,rfl⟩,lq rfl⟩,(λ_ h=>by cases h)⟩)⟩) b w)
theorem MX:Tryz.prog.follows .mixedOrders=true:=by kernel_rfl
section
variable {P:Program} {r:Option Nat} {E:Env} {S S':AState} {ops:Array Oper} {o:Oper} {rest:List Oper} {J:AState->Prop} {d j t:Nat} {x:AV} {b:Bool} {G H I F0 F1 F2 F3 F4 F5 F6 F7:Prop}
theorem q0 (k:H) (h:H->G:=by exact λk=>jW (kF lr rfl) k):G:=h k
theorem q1 (k:H) (h:H->G:=by exact λk=>jW (zP5 lr rfl) k):G:=h k
theorem q2 (f0:F0) (k:H) (h:F0->H->G:=by exact λf0 k=>jW (uH lr f0 rfl) k):G:=h f0 k
theorem q3 (k:H) (h:H->G:=by exact λk=>jW (zZB lr rfl rfl) k):G:=h k
theorem q4 (f0:F0) (k:H) (h:F0->H->G:=by exact λf0 k=>jW (z3N lr f0 rfl) k):G:=h f0 k
theorem q5 (k:H) (h:H->G:=by exact λk=>jW (zQ1 lr rfl rfl) k):G:=h k
theorem q6 (f0:F0) (k:H) (h:F0->H->G:=by exact λf0 k=>jW (jP lr rfl f0) k):G:=h f0 k
theorem q7 (f0:F0) (k:H) (h:F0->H->G:=by exact λf0 k=>jW (vC lr f0 rfl rfl) k):G:=h f0 k
theorem q8 (k:H) (h:H->G:=by exact λk=>daa (kF lr rfl) k):G:=h k
theorem q9 (f0:F0) (k:H) (h:F0->H->G:=by exact λf0 k=>jW ((kF lr rfl).bool (g6 f0)) k):G:=h f0 k
theorem q10 (k:H) (h:H->G:=by exact λk=>jW (zJK lr rfl) k):G:=h k
theorem q11 (f0:F0) (f1:F1) (k:H) (h:F0->F1->H->G:=by exact λf0 f1 k=>jW (kX lr f0 rfl rfl f1) k):G:=h f0 f1 k
theorem q12 (f0:F0) (k:H) (h:F0->H->G:=by exact λf0 k=>jW (zLO lr f0 rfl rfl) k):G:=h f0 k
theorem q13 (f0:F0) (k:H) (h:F0->H->G:=by exact λf0 k=>daa (uH lr f0 rfl) k):G:=h f0 k
theorem q14 (f0:F0) (k:H) (h:F0->H->G:=by exact λf0 k=>xd rfl (zRB f0 rfl rfl rfl rfl rfl rfl) k):G:=h f0 k
theorem q15 (x:AV) (k:Sq P r E ops rest (S.put d (.cond (gd true b) x)) J) (ha:GdO o ops S E j t d b true:=by exact rfl) (h:b=true->AOp P r E S o d x:=by exact λhb=>by subst hb;exact kF lr rfl):Sq P r E ops (o::rest) S J:=sqt x ha h k
theorem q16 (k:H) (h:H->G:=by exact λk=>jW (z0I lr rfl) k):G:=h k
theorem q17 (k:H) (h:H->G:=by exact λk=>jW (zGY lr rfl rfl) k):G:=h k
theorem q18 (f0:F0) (k:H) (h:F0->H->G:=by exact λf0 k=>yH rfl (zRB f0 rfl rfl rfl rfl rfl rfl) k):G:=h f0 k
theorem q19 (f0:F0) (k:H) (h:F0->H->G:=by exact λf0 k=>daa (vC lr f0 rfl rfl) k):G:=h f0 k
theorem q20 (f0:F0) (k:H) (h:F0->H->G:=by exact λf0 k=>daa (jP lr rfl f0) k):G:=h f0 k
theorem q21 (f0:F0) (f1:F1) (k:H) (h:F0->F1->H->G:=by exact λf0 f1 k=>xc rfl (zHV lr f0 rfl rfl rfl f1) k):G:=h f0 f1 k
theorem q22 (k:H) (h:H->G:=by exact λk=>jW (zSJ lr rfl rfl) k):G:=h k
theorem q23 (f0:F0) (k:H) (h:F0->H->G:=by exact λf0 k=>jW (yE1 lr f0 rfl rfl rfl rfl (by decide) rfl) k):G:=h f0 k
theorem q24 (x:AV) (f0:F0) (k:Sq P r E ops rest (S.put d (.cond (gd false b) x)) J) (ha:GdO o ops S E j t d b false:=by exact rfl) (h:F0->b=false->AOp P r E S o d x:=by exact λf0 hb=>by subst hb;exact uH lr f0 rfl):Sq P r E ops (o::rest) S J:=sqf x ha (h f0) k
theorem q25 (f0:F0) (f1:F1) (f2:F2) (k:H) (h:F0->F1->F2->H->G:=by exact λf0 f1 f2 k=>xd rfl (z3Z f0 rfl rfl rfl f1 f2 rfl rfl rfl rfl) k):G:=h f0 f1 f2 k
theorem q26 (x:AV) (f0:F0) (k:Sq P r E ops rest (S.put d (.cond (gd false b) x)) J) (ha:GdO o ops S E j t d b false:=by exact rfl) (h:F0->b=false->AOp P r E S o d x:=by exact λf0 hb=>by subst hb;exact vC lr f0 rfl rfl):Sq P r E ops (o::rest) S J:=sqf x ha (h f0) k
theorem q27 (f0:F0) (k:H) (h:F0->H->G:=by exact λf0 k=>jW (zGZ lr f0 rfl rfl rfl) k):G:=h f0 k
theorem q28 (k:H) (h:H->G:=by exact λk=>jW (zYV lr rfl) k):G:=h k
theorem q29 (f0:F0) (f1:F1) (k:H) (h:F0->F1->H->G:=by exact λf0 f1 k=>daa (kX lr f0 rfl rfl f1) k):G:=h f0 f1 k
theorem q30 (k:H) (h:H->G:=by exact λk=>jW (zTN lr rfl rfl) k):G:=h k
theorem q31 (k:H) (h:H->G:=by exact λk=>xc rfl (zP5 lr rfl) k):G:=h k
theorem q32 (k:H) (h:H->G:=by exact λk=>jW (zZC (size:=3) lr rfl rfl) k):G:=h k
theorem q33 (f0:F0) (k:H) (h:F0->H->G:=by exact λf0 k=>daa (zLO lr f0 rfl rfl) k):G:=h f0 k
theorem q34 (k:H) (h:H->G:=by exact λk=>jW (zTP lr rfl rfl) k):G:=h k
theorem q35 (f0:F0) (k:H) (h:F0->H->G:=by exact λf0 k=>xc rfl (jP lr rfl f0) k):G:=h f0 k
theorem q36 (f0:F0) (f1:F1) (k:H) (h:F0->F1->H->G:=by exact λf0 f1 k=>jW (yA (en:=eI) (off:=0) lr f0 rfl f1 rfl) k):G:=h f0 f1 k
theorem q37 (k:H) (h:H->G:=by exact λk=>daa (zP5 lr rfl) k):G:=h k
theorem q38 (f0:F0) (f1:F1) (k:H) (h:F0->F1->H->G:=by exact λf0 f1 k=>xc rfl (zMJ lr f0 rfl rfl f1 rfl) k):G:=h f0 f1 k
theorem q39 (k:H) (h:H->G:=by exact λk=>jW (zNR lr rfl rfl) k):G:=h k
theorem q40 (k:H) (h:H->G:=by exact λk=>jW (zM2 lr rfl rfl) k):G:=h k
theorem q41 (f0:F0) (k:H) (h:F0->H->G:=by exact λf0 k=>xc rfl (zGZ lr f0 rfl rfl rfl) k):G:=h f0 k
theorem q42 (x:AV) (k:Sq P r E ops rest (S.put d (.cond (gd false b) x)) J) (ha:GdO o ops S E j t d b false:=by exact rfl) (h:b=false->AOp P r E S o d x:=by exact λhb=>by subst hb;exact kF lr rfl):Sq P r E ops (o::rest) S J:=sqf x ha h k
theorem q43 (f0:F0) (f1:F1) (k:H) (h:F0->F1->H->G:=by exact λf0 f1 k=>xc rfl (zF6 lr f0 rfl rfl rfl f1) k):G:=h f0 f1 k
theorem q44 (k:H) (h:H->G:=by exact λk=>jW (zZC (size:=5) lr rfl rfl) k):G:=h k
theorem q45 (x:AV) (k:DA P r E ops rest (S.put d (.cond (gd false b) x)) J) (ha:GdO o ops S E j t d b false:=by exact rfl) (h:b=false->AOp P r E S o d x:=by exact λhb=>by subst hb;exact kF lr rfl):DA P r E ops (o::rest) S J:=daf x ha h k
theorem q46 (f0:F0) (k:H) (h:F0->H->G:=by exact λf0 k=>daa (zFN lr f0 rfl rfl rfl) k):G:=h f0 k
theorem q47 (f0:F0) (k:H) (h:F0->H->G:=by exact λf0 k=>daa ((kF lr rfl).bool (g6 f0)) k):G:=h f0 k
theorem q48 (x:AV) (k:DA P r E ops rest (S.put d (.cond (gd true b) x)) J) (ha:GdO o ops S E j t d b true:=by exact rfl) (h:b=true->AOp P r E S o d x:=by exact λhb=>by subst hb;exact kF lr rfl):DA P r E ops (o::rest) S J:=dat x ha h k
theorem q49 (f0:F0) (k:H) (h:F0->H->G:=by exact λf0 k=>jW (zFJ lr f0 rfl rfl) k):G:=h f0 k
theorem q50 (k:H) (h:H->G:=by exact λk=>xd rfl (kK (zs:=[(.int IntKind.i64 (0)),(.int IntKind.i64 (0)),(.int IntKind.i64 (0))]) lr (by kernel_rfl) rfl rfl) k):G:=h k
theorem q51 (k:H) (h:H->G:=by exact λk=>jW (zYW lr rfl rfl) k):G:=h k
theorem q52 (f0:F0) (k:H) (h:F0->H->G:=by exact λf0 k=>jW (zAM lr f0 rfl) k):G:=h f0 k
theorem q53 (k:H) (h:H->G:=by exact λk=>jW (zQ2 lr rfl rfl) k):G:=h k
theorem q54 (f0:F0) (k:H) (h:F0->H->G:=by exact λf0 k=>jW (zFN lr f0 rfl rfl rfl) k):G:=h f0 k
theorem q55 (x:AV) (f0:F0) (k:Sq P r E ops rest (S.put d (.cond (gd true b) x)) J) (ha:GdO o ops S E j t d b true:=by exact rfl) (h:F0->b=true->AOp P r E S o d x:=by exact λf0 hb=>by subst hb;exact uH lr f0 rfl):Sq P r E ops (o::rest) S J:=sqt x ha (h f0) k
theorem q56 (f0:F0) (f1:F1) (k:H) (m:I) (h:F0->F1->H->I->G:=by exact λf0 f1 k m=>xa rfl (uC (en:=aR) (off:=0) lr f0 rfl f1 rfl rfl (by decide)) k m):G:=h f0 f1 k m
theorem q57 (k:H) (h:H->G:=by exact λk=>xd rfl (kK (zs:=[(.slice none 0 0),(.slice none 0 0),(.int IntKind.i64 (0)),(.int IntKind.i64 (0)),(.int IntKind.i64 (0))]) lr (by kernel_rfl) rfl rfl) k):G:=h k
theorem q58 (f0:F0) (k:H) (h:F0->H->G:=by exact λf0 k=>jW (wX lr f0 rfl) k):G:=h f0 k
theorem q59 (x:AV) (k:Sq P r E ops rest (S.put d (.cond (gd false b) x)) J) (ha:GdO o ops S E j t d b false:=by exact rfl) (h:b=false->AOp P r E S o d x:=by exact λhb=>by subst hb;exact zQ2 lr rfl rfl):Sq P r E ops (o::rest) S J:=sqf x ha h k
theorem q60 (f0:F0) (k:H) (h:F0->H->G:=by exact λf0 k=>daa (wX lr f0 rfl) k):G:=h f0 k
theorem q61 (f0:F0) (f1:F1) (k:H) (m:I) (h:F0->F1->H->I->G:=by exact λf0 f1 k m=>xa rfl (z9F lr f0 f1 rfl rfl) k m):G:=h f0 f1 k m
theorem q62 (x:AV) (f0:F0) (k:Sq P r E ops rest (S.put d (.cond (gd true b) x)) J) (ha:GdO o ops S E j t d b true:=by exact rfl) (h:F0->b=true->AOp P r E S o d x:=by exact λf0 hb=>by subst hb;exact vC lr f0 rfl rfl):Sq P r E ops (o::rest) S J:=sqt x ha (h f0) k
theorem q63 (x:AV) (k:Sq P r E ops rest (S.put d (.cond (gd true b) x)) J) (ha:GdO o ops S E j t d b true:=by exact rfl) (h:b=true->AOp P r E S o d x:=by exact λhb=>by subst hb;exact zKP lr rfl rfl):Sq P r E ops (o::rest) S J:=sqt x ha h k
theorem q64 (k:H) (h:H->G:=by exact λk=>yH rfl (kK (zs:=[(.int IntKind.i64 (0)),(.int IntKind.i64 (0))]) lr (by kernel_rfl) rfl rfl) k):G:=h k
theorem q65 (k:H) (h:H->G:=by exact λk=>jW (zZC (size:=4) lr rfl rfl) k):G:=h k
theorem q66 (f0:F0) (k:H) (h:F0->H->G:=by exact λf0 k=>yH rfl (zLB f0 rfl rfl lr rfl rfl rfl) k):G:=h f0 k
theorem q67 (k:H) (h:H->G:=by exact λk=>jW (zKP lr rfl rfl) k):G:=h k
theorem q68 (f0:F0) (f1:F1) (k:H) (h:F0->F1->H->G:=by exact λf0 f1 k=>jW (yOF lr f0 f1 rfl) k):G:=h f0 f1 k
theorem q69 (k:H) (h:H->G:=by exact λk=>daa (zGY lr rfl rfl) k):G:=h k
theorem q70 (k:H) (h:H->G:=by exact λk=>jW (zZC (size:=1) lr rfl rfl) k):G:=h k
theorem q71 (f0:F0) (k:H) (h:F0->H->G:=by exact λf0 k=>xc rfl (zLO lr f0 rfl rfl) k):G:=h f0 k
theorem q72 (x:AV) (f0:F0) (k:DA P r E ops rest (S.put d (.cond (gd true b) x)) J) (ha:GdO o ops S E j t d b true:=by exact rfl) (h:F0->b=true->AOp P r E S o d x:=by exact λf0 hb=>by subst hb;exact zLO lr f0 rfl rfl):DA P r E ops (o::rest) S J:=dat x ha (h f0) k
theorem q73 (f0:F0) (f1:F1) (k:H) (h:F0->F1->H->G:=by exact λf0 f1 k=>daa (yA (en:=eI) (off:=0) lr f0 rfl f1 rfl) k):G:=h f0 f1 k
theorem q74 (k:H) (h:H->G:=by exact λk=>daa (zJK lr rfl) k):G:=h k
theorem q75 (f0:F0) (k:H) (h:F0->H->G:=by exact λf0 k=>jW (zUB lr f0 rfl rfl (by decide)) k):G:=h f0 k
theorem q76 (f0:F0) (f1:F1) (k:H) (h:F0->F1->H->G:=by exact λf0 f1 k=>xc rfl (z9F lr f0 f1 rfl rfl) k):G:=h f0 f1 k
theorem q77 (f0:F0) (f1:F1) (k:H) (h:F0->F1->H->G:=by exact λf0 f1 k=>xc rfl (uC (en:=aR) (off:=0) lr f0 rfl f1 rfl rfl (by decide)) k):G:=h f0 f1 k
theorem q78 (f0:F0) (k:H) (h:F0->H->G:=by exact λf0 k=>xc rfl (zAM lr f0 rfl) k):G:=h f0 k
theorem q79 (x:AV) (f0:F0) (k:Sq P r E ops rest (S.put d (.cond (gd true b) x)) J) (ha:GdO o ops S E j t d b true:=by exact rfl) (h:F0->b=true->AOp P r E S o d x:=by exact λf0 hb=>by subst hb;exact zLO lr f0 rfl rfl):Sq P r E ops (o::rest) S J:=sqt x ha (h f0) k
theorem q80 (k:H) (h:H->G:=by exact λk=>jW (zMD lr rfl) k):G:=h k
theorem q81 (k:H) (h:H->G:=by exact λk=>daa (zHU lr rfl) k):G:=h k
theorem q82 (x:AV) (k:Sq P r E ops rest (S.put d (.cond (gd true b) x)) J) (ha:GdO o ops S E j t d b true:=by exact rfl) (h:b=true->AOp P r E S o d x:=by exact λhb=>by subst hb;exact zQ1 lr rfl rfl):Sq P r E ops (o::rest) S J:=sqt x ha h k
theorem q83 (x:AV) (f0:F0) (k:Sq P r E ops rest (S.put d (.cond (gd false b) x)) J) (ha:GdO o ops S E j t d b false:=by exact rfl) (h:F0->b=false->AOp P r E S o d x:=by exact λf0 hb=>by subst hb;exact z3N lr f0 rfl):Sq P r E ops (o::rest) S J:=sqf x ha (h f0) k
theorem q84 (f0:F0) (f1:F1) (k:H) (h:F0->F1->H->G:=by exact λf0 f1 k=>xd rfl (yFS f0 rfl rfl rfl rfl f1 rfl) k):G:=h f0 f1 k
theorem q85 (f0:F0) (k:H) (m:I) (h:F0->H->I->G:=by exact λf0 k m=>xa rfl (zGZ lr f0 rfl rfl rfl) k m):G:=h f0 k m
theorem q86 (f0:F0) (f1:F1) (k:H) (m:I) (h:F0->F1->H->I->G:=by exact λf0 f1 k m=>xa rfl (zMJ lr f0 rfl rfl f1 rfl) k m):G:=h f0 f1 k m
theorem q87 (f0:F0) (k:H) (m:I) (h:F0->H->I->G:=by exact λf0 k m=>xa rfl (jP lr rfl f0) k m):G:=h f0 k m
theorem q88 (x:AV) (k:Sq P r E ops rest (S.put d (.cond (gd true b) x)) J) (ha:GdO o ops S E j t d b true:=by exact rfl) (h:b=true->AOp P r E S o d x:=by exact λhb=>by subst hb;exact zYV lr rfl):Sq P r E ops (o::rest) S J:=sqt x ha h k
theorem q89 (f0:F0) (k:H) (h:F0->H->G:=by exact λf0 k=>jW (yFH lr f0 rfl rfl) k):G:=h f0 k
theorem q90 (f0:F0) (f1:F1) (k:H) (h:F0->F1->H->G:=by exact λf0 f1 k=>jW (zF6 lr f0 rfl rfl rfl f1) k):G:=h f0 f1 k
theorem q91 (f0:F0) (k:H) (h:F0->H->G:=by exact λf0 k=>jW (zOT lr f0 rfl) k):G:=h f0 k
theorem q92 (f0:F0) (k:H) (h:F0->H->G:=by exact λf0 k=>yH rfl (zT9 f0 rfl rfl lr rfl rfl rfl) k):G:=h f0 k
theorem q93 (k:H) (h:H->G:=by exact λk=>daa (zSJ lr rfl rfl) k):G:=h k
theorem q94 (x:AV) (f0:F0) (k:DA P r E ops rest (S.put d (.cond (gd false b) x)) J) (ha:GdO o ops S E j t d b false:=by exact rfl) (h:F0->b=false->AOp P r E S o d x:=by exact λf0 hb=>by subst hb;exact wX lr f0 rfl):DA P r E ops (o::rest) S J:=daf x ha (h f0) k
theorem q95 (k:H) (h:H->G:=by exact λk=>jW (yQV lr rfl rfl (by decide)) k):G:=h k
theorem q96 (x:AV) (k:Sq P r E ops rest (S.put d (.cond (gd false b) x)) J) (ha:GdO o ops S E j t d b false:=by exact rfl) (h:b=false->AOp P r E S o d x:=by exact λhb=>by subst hb;exact zGY lr rfl rfl):Sq P r E ops (o::rest) S J:=sqf x ha h k
theorem q97 (k:H) (h:H->G:=by exact λk=>yH rfl (yBW lr rfl rfl) k):G:=h k
theorem q98 (x:AV) (f0:F0) (k:Sq P r E ops rest (S.put d (.cond (gd true b) x)) J) (ha:GdO o ops S E j t d b true:=by exact rfl) (h:F0->b=true->AOp P r E S o d x:=by exact λf0 hb=>by subst hb;exact z3N lr f0 rfl):Sq P r E ops (o::rest) S J:=sqt x ha (h f0) k
theorem q99 (f0:F0) (f1:F1) (k:H) (h:F0->F1->H->G:=by exact λf0 f1 k=>jW (yA (en:=aC) (off:=1) lr f0 rfl f1 rfl) k):G:=h f0 f1 k
theorem yTS (k:H) (h:H->G:=by exact λk=>jW (zZC (size:=15) lr rfl rfl) k):G:=h k
theorem z00 (x:AV) (k:Sq P r E ops rest (S.put d (.cond (gd true b) x)) J) (ha:GdO o ops S E j t d b true:=by exact rfl) (h:b=true->AOp P r E S o d x:=by exact λhb=>by subst hb;exact zM2 lr rfl rfl):Sq P r E ops (o::rest) S J:=sqt x ha h k
theorem z4I (x:AV) (k:Sq P r E ops rest (S.put d (.cond (gd false b) x)) J) (ha:GdO o ops S E j t d b false:=by exact rfl) (h:b=false->AOp P r E S o d x:=by exact λhb=>by subst hb;exact zYV lr rfl):Sq P r E ops (o::rest) S J:=sqf x ha h k
theorem z01 (f0:F0) (f1:F1) (k:H) (h:F0->F1->H->G:=by exact λf0 f1 k=>jW (uC (en:=aC) (off:=0) lr f0 rfl f1 rfl rfl (by decide)) k):G:=h f0 f1 k
theorem z7K (f0:F0) (f1:F1) (k:H) (h:F0->F1->H->G:=by exact λf0 f1 k=>jW (uC (en:=aE) (off:=0) lr f0 rfl f1 rfl rfl (by decide)) k):G:=h f0 f1 k
theorem z02 (f0:F0) (k:H) (h:F0->H->G:=by exact λf0 k=>jW (yM8 lr rfl rfl f0) k):G:=h f0 k
theorem z4J (x:AV) (f0:F0) (k:DA P r E ops rest (S.put d (.cond (gd true b) x)) J) (ha:GdO o ops S E j t d b true:=by exact rfl) (h:F0->b=true->AOp P r E S o d x:=by exact λf0 hb=>by subst hb;exact uH lr f0 rfl):DA P r E ops (o::rest) S J:=dat x ha (h f0) k
theorem z4K (x:AV) (f0:F0) (k:DA P r E ops rest (S.put d (.cond (gd true b) x)) J) (ha:GdO o ops S E j t d b true:=by exact rfl) (h:F0->b=true->AOp P r E S o d x:=by exact λf0 hb=>by subst hb;exact vC lr f0 rfl rfl):DA P r E ops (o::rest) S J:=dat x ha (h f0) k
theorem z4L (x:AV) (f0:F0) (k:DA P r E ops rest (S.put d (.cond (gd true b) x)) J) (ha:GdO o ops S E j t d b true:=by exact rfl) (h:F0->b=true->AOp P r E S o d x:=by exact λf0 hb=>by subst hb;exact wX lr f0 rfl):DA P r E ops (o::rest) S J:=dat x ha (h f0) k
theorem z4M (f0:F0) (k:H) (h:F0->H->G:=by exact λf0 k=>daa (zAM lr f0 rfl) k):G:=h f0 k
theorem z4N (k:H) (h:H->G:=by exact λk=>daa (zTP lr rfl rfl) k):G:=h k
theorem z4O (f0:F0) (f1:F1) (k:H) (m:I) (h:F0->F1->H->I->G:=by exact λf0 f1 k m=>xa rfl (zHV lr f0 rfl rfl rfl f1) k m):G:=h f0 f1 k m
theorem z4P (k:H) (h:H->G:=by exact λk=>daa (zQ1 lr rfl rfl) k):G:=h k
theorem z4Q (k:H) (h:H->G:=by exact λk=>daa (zZB lr rfl rfl) k):G:=h k
theorem z4R (f0:F0) (k:H) (m:I) (h:F0->H->I->G:=by exact λf0 k m=>xa rfl (zLO lr f0 rfl rfl) k m):G:=h f0 k m
theorem z7L (f0:F0) (f1:F1) (k:H) (h:F0->F1->H->G:=by exact λf0 f1 k=>jW (yA (en:=(eL eI)) (off:=0) lr f0 rfl f1 rfl) k):G:=h f0 f1 k
theorem z7M (x:AV) (k:Sq P r E ops rest (S.put d (.cond (gd false b) x)) J) (ha:GdO o ops S E j t d b false:=by exact rfl) (h:b=false->AOp P r E S o d x:=by exact λhb=>by subst hb;exact zNR lr rfl rfl):Sq P r E ops (o::rest) S J:=sqf x ha h k
theorem z7N (x:AV) (k:Sq P r E ops rest (S.put d (.cond (gd false b) x)) J) (ha:GdO o ops S E j t d b false:=by exact rfl) (h:b=false->AOp P r E S o d x:=by exact λhb=>by subst hb;exact zM2 lr rfl rfl):Sq P r E ops (o::rest) S J:=sqf x ha h k
theorem z7O (k:H) (h:H->G:=by exact λk=>yH rfl (yB2 lr rfl) k):G:=h k
theorem z7P (k:H) (h:H->G:=by exact λk=>daa (zQ2 lr rfl rfl) k):G:=h k
theorem z7Q (k:H) (h:H->G:=by exact λk=>jW (zVU lr rfl) k):G:=h k
theorem yTT (k:H) (h:H->G:=by exact λk=>yH rfl (kK (zs:=[(.int IntKind.i64 (0)),(.slice none 0 0),(.string ⟨#[]⟩)]) lr (by kernel_rfl) rfl rfl) k):G:=h k
theorem yCO (f0:F0) (k:H) (h:F0->H->G:=by exact λf0 k=>jW (yOH lr f0 rfl rfl) k):G:=h f0 k
theorem z7R (k:H) (h:H->G:=by exact λk=>yH rfl (kK (zs:=[(.slice none 0 0)]) lr (by kernel_rfl) rfl rfl) k):G:=h k
theorem z7S (f0:F0) (k:H) (h:F0->H->G:=by exact λf0 k=>jW (yM7 lr rfl rfl f0) k):G:=h f0 k
theorem z7T (f0:F0) (k:H) (h:F0->H->G:=by exact λf0 k=>yH rfl (zT8 lr f0 rfl rfl rfl rfl (by decide) rfl) k):G:=h f0 k
theorem z7U (k:H) (h:H->G:=by exact λk=>jW (z60 lr rfl rfl) k):G:=h k
theorem yCP (k:H) (h:H->G:=by exact λk=>yH rfl (kK (zs:=[(.slice none 0 0),(.slice none 0 0)]) lr (by kernel_rfl) rfl rfl) k):G:=h k
theorem yCQ (k:H) (h:H->G:=by exact λk=>jW (z6X lr rfl rfl) k):G:=h k
theorem yCR (f0:F0) (f1:F1) (k:H) (h:F0->F1->H->G:=by exact λf0 f1 k=>yH rfl (z3P f0 f1 rfl rfl rfl rfl rfl rfl) k):G:=h f0 f1 k
theorem yCS (x:AV) (k:DA P r E ops rest (S.put d (.cond (gd true b) x)) J) (ha:GdO o ops S E j t d b true:=by exact rfl) (h:b=true->AOp P r E S o d x:=by exact λhb=>by subst hb;exact zTP lr rfl rfl):DA P r E ops (o::rest) S J:=dat x ha h k
theorem yGF (k:H) (h:H->G:=by exact λk=>jW (zZC (size:=2) lr rfl rfl) k):G:=h k
theorem yGG (f0:F0) (f1:F1) (k:H) (h:F0->F1->H->G:=by exact λf0 f1 k=>jW (uC (en:=aG) (off:=0) lr f0 rfl f1 rfl rfl (by decide)) k):G:=h f0 f1 k
theorem yCT (f0:F0) (k:H) (h:F0->H->G:=by exact λf0 k=>daa (z3N lr f0 rfl) k):G:=h f0 k
theorem yCU (k:H) (h:H->G:=by exact λk=>yH rfl (kK (zs:=[(.int IntKind.i64 (0)),(.int IntKind.i64 (0)),(.int IntKind.i64 (0))]) lr (by kernel_rfl) rfl rfl) k):G:=h k
theorem yCV (f0:F0) (k:H) (h:F0->H->G:=by exact λf0 k=>jW (zKT lr rfl rfl f0) k):G:=h f0 k
theorem yCW (f0:F0) (k:H) (h:F0->H->G:=by exact λf0 k=>jW (yB4 lr f0 rfl rfl (by decide)) k):G:=h f0 k
theorem yCX (f0:F0) (k:H) (h:F0->H->G:=by exact λf0 k=>xd rfl (zLB f0 rfl rfl lr rfl rfl rfl) k):G:=h f0 k
theorem yCY (f0:F0) (f1:F1) (k:H) (h:F0->F1->H->G:=by exact λf0 f1 k=>daa (zHV lr f0 rfl rfl rfl f1) k):G:=h f0 f1 k
theorem yCZ (f0:F0) (f1:F1) (k:H) (h:F0->F1->H->G:=by exact λf0 f1 k=>daa (zMJ lr f0 rfl rfl f1 rfl) k):G:=h f0 f1 k
theorem yC0 (k:H) (h:H->G:=by exact λk=>daa (zYW lr rfl rfl) k):G:=h k
theorem yC1 (f0:F0) (k:H) (m:I) (h:F0->H->I->G:=by exact λf0 k m=>xa rfl (zAM lr f0 rfl) k m):G:=h f0 k m
theorem yC2 (x:AV) (f0:F0) (k:Sq P r E ops rest (S.put d (.cond (gd true b) x)) J) (ha:GdO o ops S E j t d b true:=by exact rfl) (h:F0->b=true->AOp P r E S o d x:=by exact λf0 hb=>by subst hb;exact yE1 lr f0 rfl rfl rfl rfl (by decide) rfl):Sq P r E ops (o::rest) S J:=sqt x ha (h f0) k
theorem yC3 (x:AV) (f0:F0) (k:Sq P r E ops rest (S.put d (.cond (gd true b) x)) J) (ha:GdO o ops S E j t d b true:=by exact rfl) (h:F0->b=true->AOp P r E S o d x:=by exact λf0 hb=>by subst hb;exact wX lr f0 rfl):Sq P r E ops (o::rest) S J:=sqt x ha (h f0) k
theorem yO3 (x:AV) (k:Sq P r E ops rest (S.put d (.cond (gd false b) x)) J) (ha:GdO o ops S E j t d b false:=by exact rfl) (h:b=false->AOp P r E S o d x:=by exact λhb=>by subst hb;exact zQ1 lr rfl rfl):Sq P r E ops (o::rest) S J:=sqf x ha h k
theorem yKN (k:H) (h:H->G:=by exact λk=>yH rfl (kK (zs:=[(.int IntKind.i64 (0)),(.int IntKind.i64 (0)),(.int IntKind.i64 (0)),(.bool false)]) lr (by kernel_rfl) rfl rfl) k):G:=h k
theorem yGH (k:H) (h:H->G:=by exact λk=>jW (yQZ lr rfl rfl) k):G:=h k
theorem yGI (k:H) (h:H->G:=by exact λk=>jW (zIZ lr rfl) k):G:=h k
theorem yGJ (k:H) (h:H->G:=by exact λk=>daa (zVU lr rfl) k):G:=h k
theorem yGK (k:H) (h:H->G:=by exact λk=>daa (zI9 lr rfl) k):G:=h k
theorem yGL (k:H) (m:I) (h:H->I->G:=by exact λk m=>xb rfl (kK (zs:=[(.int IntKind.i64 (0)),(.int IntKind.i64 (0)),(.int IntKind.i64 (0))]) lr (by kernel_rfl) rfl rfl) k m):G:=h k m
theorem yGM (x:AV) (k:Sq P r E ops rest (S.put d (.cond (gd true b) x)) J) (ha:GdO o ops S E j t d b true:=by exact rfl) (h:b=true->AOp P r E S o d x:=by exact λhb=>by subst hb;exact zTN lr rfl rfl):Sq P r E ops (o::rest) S J:=sqt x ha h k
theorem yGN (f0:F0) (k:H) (h:F0->H->G:=by exact λf0 k=>daa (yE1 lr f0 rfl rfl rfl rfl (by decide) rfl) k):G:=h f0 k
theorem yGO (x:AV) (k:DA P r E ops rest (S.put d (.cond (gd true b) x)) J) (ha:GdO o ops S E j t d b true:=by exact rfl) (h:b=true->AOp P r E S o d x:=by exact λhb=>by subst hb;exact zJK lr rfl):DA P r E ops (o::rest) S J:=dat x ha h k
theorem yKO (f0:F0) (f1:F1) (k:H) (h:F0->F1->H->G:=by exact λf0 f1 k=>daa (zF6 lr f0 rfl rfl rfl f1) k):G:=h f0 f1 k
theorem yKP (f0:F0) (k:H) (h:F0->H->G:=by exact λf0 k=>daa (z9I lr f0 rfl rfl) k):G:=h f0 k
theorem yGP (f0:F0) (f1:F1) (k:H) (h:F0->F1->H->G:=by exact λf0 f1 k=>daa (yA (en:=aC) (off:=0) lr f0 rfl f1 rfl) k):G:=h f0 f1 k
theorem yGQ (k:H) (h:H->G:=by exact λk=>jW (zKQ lr rfl) k):G:=h k
theorem yGR (f0:F0) (k:H) (h:F0->H->G:=by exact λf0 k=>daa (zOT lr f0 rfl) k):G:=h f0 k
theorem yGS (k:H) (h:H->G:=by exact λk=>daa (zYV lr rfl) k):G:=h k
theorem yGT (k:H) (h:H->G:=by exact λk=>jW (zHU lr rfl) k):G:=h k
theorem yKQ (f0:F0) (f1:F1) (k:H) (h:F0->F1->H->G:=by exact λf0 f1 k=>daa (z0L lr f0 rfl rfl rfl f1) k):G:=h f0 f1 k
theorem yGU (k:H) (h:H->G:=by exact λk=>xc rfl (zI9 lr rfl) k):G:=h k
theorem yKR (f0:F0) (f1:F1) (k:H) (h:F0->F1->H->G:=by exact λf0 f1 k=>jW (zVZ lr f0 rfl rfl f1) k):G:=h f0 f1 k
theorem yGV (x:AV) (f0:F0) (k:Sq P r E ops rest (S.put d (.cond (gd true b) x)) J) (ha:GdO o ops S E j t d b true:=by exact rfl) (h:F0->b=true->AOp P r E S o d x:=by exact λf0 hb=>by subst hb;exact zFJ lr f0 rfl rfl):Sq P r E ops (o::rest) S J:=sqt x ha (h f0) k
theorem yKS (x:AV) (f0:F0) (k:Sq P r E ops rest (S.put d (.cond (gd false b) x)) J) (ha:GdO o ops S E j t d b false:=by exact rfl) (h:F0->b=false->AOp P r E S o d x:=by exact λf0 hb=>by subst hb;exact wX lr f0 rfl):Sq P r E ops (o::rest) S J:=sqf x ha (h f0) k
theorem yKT (x:AV) (f0:F0) (k:Sq P r E ops rest (S.put d (.cond (gd true b) x)) J) (ha:GdO o ops S E j t d b true:=by exact rfl) (h:F0->b=true->AOp P r E S o d x:=by exact λf0 hb=>by subst hb;exact zFN lr f0 rfl rfl rfl):Sq P r E ops (o::rest) S J:=sqt x ha (h f0) k
theorem yKU (k:H) (h:H->G:=by exact λk=>yH rfl (kK (zs:=[(.slice none 0 0),(.slice none 0 0),(.int IntKind.i64 (0)),(.int IntKind.i64 (0)),(.int IntKind.i64 (0))]) lr (by kernel_rfl) rfl rfl) k):G:=h k
theorem yKV (f0:F0) (f1:F1) (k:H) (h:F0->F1->H->G:=by exact λf0 f1 k=>jW (yFB lr f0 rfl rfl f1) k):G:=h f0 f1 k
theorem yKW (f0:F0) (k:H) (h:F0->H->G:=by exact λf0 k=>jW (zVY lr f0 rfl) k):G:=h f0 k
theorem yKX (f0:F0) (f1:F1) (k:H) (h:F0->F1->H->G:=by exact λf0 f1 k=>jW (uC (en:=bA) (off:=0) lr f0 rfl f1 rfl rfl (by decide)) k):G:=h f0 f1 k
theorem yKY (k:H) (h:H->G:=by exact λk=>yH rfl (kK (zs:=[(.string ⟨#[]⟩),(.int IntKind.i64 (0)),(.int IntKind.i64 (0))]) lr (by kernel_rfl) rfl rfl) k):G:=h k
theorem yKZ (x:AV) (k:Sq P r E ops rest (S.put d (.cond (gd true b) x)) J) (ha:GdO o ops S E j t d b true:=by exact rfl) (h:b=true->AOp P r E S o d x:=by exact λhb=>by subst hb;exact zSJ lr rfl rfl):Sq P r E ops (o::rest) S J:=sqt x ha h k
theorem yK0 (k:H) (h:H->G:=by exact λk=>daa (zTN lr rfl rfl) k):G:=h k
theorem yK1 (f0:F0) (k:H) (h:F0->H->G:=by exact λf0 k=>daa (zGZ lr f0 rfl rfl rfl) k):G:=h f0 k
theorem yK2 (f0:F0) (f1:F1) (k:H) (h:F0->F1->H->G:=by exact λf0 f1 k=>jW (uC (en:=aR) (off:=0) lr f0 rfl f1 rfl rfl (by decide)) k):G:=h f0 f1 k
theorem yK3 (f0:F0) (f1:F1) (k:H) (h:F0->F1->H->G:=by exact λf0 f1 k=>daa (uC (en:=aC) (off:=0) lr f0 rfl f1 rfl rfl (by decide)) k):G:=h f0 f1 k
theorem yK4 (f0:F0) (f1:F1) (k:H) (m:I) (h:F0->F1->H->I->G:=by exact λf0 f1 k m=>xa rfl (zF6 lr f0 rfl rfl rfl f1) k m):G:=h f0 f1 k m
theorem yK5 (k:H) (h:H->G:=by exact λk=>jW (z9B lr rfl rfl) k):G:=h k
theorem yK6 (f0:F0) (f1:F1) (k:H) (h:F0->F1->H->G:=by exact λf0 f1 k=>daa (uC (en:=aE) (off:=0) lr f0 rfl f1 rfl rfl (by decide)) k):G:=h f0 f1 k
theorem yK7 (k:H) (h:H->G:=by exact λk=>jW (z6R lr rfl) k):G:=h k
theorem yK8 (k:H) (h:H->G:=by exact λk=>jW (zI9 lr rfl) k):G:=h k
theorem yK9 (k:H) (h:H->G:=by exact λk=>yH rfl (kK (zs:=[(.slice none 0 0),(.slice none 0 0),(.slice none 0 0)]) lr (by kernel_rfl) rfl rfl) k):G:=h k
theorem yLA (f0:F0) (k:H) (h:F0->H->G:=by exact λf0 k=>jW (yOK lr f0 rfl rfl) k):G:=h f0 k
theorem yLB (f0:F0) (f1:F1) (k:H) (h:F0->F1->H->G:=by exact λf0 f1 k=>daa (zV0 lr f0 rfl rfl f1) k):G:=h f0 f1 k
theorem yO4 (f0:F0) (f1:F1) (k:H) (h:F0->F1->H->G:=by exact λf0 f1 k=>daa (zVZ lr f0 rfl rfl f1) k):G:=h f0 f1 k
theorem yLC (x:AV) (f0:F0) (k:DA P r E ops rest (S.put d (.cond (gd false b) x)) J) (ha:GdO o ops S E j t d b false:=by exact rfl) (h:F0->b=false->AOp P r E S o d x:=by exact λf0 hb=>by subst hb;exact uH lr f0 rfl):DA P r E ops (o::rest) S J:=daf x ha (h f0) k
theorem yLD (x:AV) (f0:F0) (k:DA P r E ops rest (S.put d (.cond (gd false b) x)) J) (ha:GdO o ops S E j t d b false:=by exact rfl) (h:F0->b=false->AOp P r E S o d x:=by exact λf0 hb=>by subst hb;exact vC lr f0 rfl rfl):DA P r E ops (o::rest) S J:=daf x ha (h f0) k
theorem yLE (f0:F0) (f1:F1) (f2:F2) (k:H) (h:F0->F1->F2->H->G:=by exact λf0 f1 f2 k=>jW (yFV lr f0 rfl f1 f2 rfl rfl) k):G:=h f0 f1 f2 k
end
section
variable {G H:Prop}
theorem Q0 (k:H) (h:H->G:=by intro k;refine yV ?_;exact x9 k):G:=h k
theorem Q1 (k:H) (h:H->G:=by intro k;refine q1 ?_;exact zN k):G:=h k
theorem Q2 (k:H) (h:H->G:=by intro k;refine Q0 ?_;exact q0 k):G:=h k
theorem Q3 (k:H) (h:H->G:=by intro k;refine Q0 ?_;exact Q1 k):G:=h k
theorem Q4 (k:H) (h:H->G:=by intro k;refine yV ?_;exact Q2 k):G:=h k
theorem Q5 (k:H) (h:H->G:=by intro k;refine zP ?_;exact yV k):G:=h k
theorem Q6 (k:H) (h:H->G:=by intro k;refine q5 ?_;exact zN k):G:=h k
theorem Q7 (k:H) (h:H->G:=by intro k;refine q0 ?_;exact zN k):G:=h k
theorem Q8 (k:H) (h:H->G:=by intro k;refine x9 ?_;exact q0 k):G:=h k
theorem Q9 (k:H) (h:H->G:=by intro k;refine Q5 ?_;exact yY k):G:=h k
theorem Q10 (k:H) (h:H->G:=by intro k;refine q3 ?_;exact Q1 k):G:=h k
theorem Q11 (k:H) (h:H->G:=by intro k;refine q16 ?_;exact zN k):G:=h k
theorem Q12 (k:H) (h:H->G:=by intro k;refine q0 ?_;exact q0 k):G:=h k
theorem Q13 (k:H) (h:H->G:=by intro k;refine Q8 ?_;exact Q10 k):G:=h k
theorem Q14 (k:H) (h:H->G:=by intro k;refine Q4 ?_;exact q0 k):G:=h k
theorem Q15 (k:H) (h:H->G:=by intro k;refine Q1 ?_;exact Q2 k):G:=h k
theorem Q16 (k:H) (h:H->G:=by intro k;refine Q1 ?_;exact yV k):G:=h k
theorem Q17 (k:H) (h:H->G:=by intro k;refine Q0 ?_;exact Q6 k):G:=h k
theorem Q18 (k:H) (h:H->G:=by intro k;refine Q17 ?_;exact yV k):G:=h k
theorem Q19 (k:H) (h:H->G:=by intro k;refine x9 ?_;exact q3 k):G:=h k
theorem Q20 (k:H) (h:H->G:=by intro k;refine Q19 ?_;exact Q7 k):G:=h k
theorem Q21 (k:H) (h:H->G:=by intro k;refine Q0 ?_;exact q10 k):G:=h k
theorem Q22 (k:H) (h:H->G:=by intro k;refine Q3 ?_;exact yY k):G:=h k
theorem Q23 (k:H) (h:H->G:=by intro k;refine Q3 ?_;exact yE k):G:=h k
theorem Q24 (k:H) (h:H->G:=by intro k;refine Q7 ?_;exact yY k):G:=h k
theorem Q25 (k:H) (h:H->G:=by intro k;refine q8 ?_;exact q8 k):G:=h k
theorem Q26 (k:H) (h:H->G:=by intro k;refine x9 ?_;exact q10 k):G:=h k
theorem Q27 (k:H) (h:H->G:=by intro k;refine Q2 ?_;exact q0 k):G:=h k
theorem Q28 (k:H) (h:H->G:=by intro k;refine xn [6] ?_;exact q31 k):G:=h k
theorem Q29 (k:H) (h:H->G:=by intro k;refine Q28 ?_;exact xn [7] k):G:=h k
theorem Q30 (k:H) (h:H->G:=by intro k;refine Q29 ?_;exact q14 G32 k):G:=h k
theorem Q31 (k:H) (h:H->G:=by intro k;refine yV ?_;exact Q0 k):G:=h k
theorem Q32 (k:H) (h:H->G:=by intro k;refine Q9 ?_;exact Q0 k):G:=h k
theorem Q33 (k:H) (h:H->G:=by intro k;refine Q0 ?_;exact q32 k):G:=h k
theorem Q34 (k:H) (h:H->G:=by intro k;refine yV ?_;exact Q22 k):G:=h k
theorem Q35 (k:H) (h:H->G:=by intro k;refine Q1 ?_;exact Q0 k):G:=h k
theorem Q36 (k:H) (h:H->G:=by intro k;refine q28 ?_;exact zN k):G:=h k
theorem Q37 (k:H) (h:H->G:=by intro k;refine q30 ?_;exact zN k):G:=h k
theorem Q38 (k:H) (h:H->G:=by intro k;refine zP ?_;exact Q13 k):G:=h k
theorem Q39 (k:H) (h:H->G:=by intro k;refine q17 ?_;exact zN k):G:=h k
theorem Q40 (k:H) (h:H->G:=by intro k;refine Q2 ?_;exact Q1 k):G:=h k
theorem Q41 (k:H) (h:H->G:=by intro k;refine zP ?_;exact Q20 k):G:=h k
theorem Q42 (k:H) (h:H->G:=by intro k;refine xn [12] ?_;exact q14 uY k):G:=h k
theorem Q43 (k:H) (h:H->G:=by intro k;refine Q3 ?_;exact Q4 k):G:=h k
theorem Q44 (k:H) (h:H->G:=by intro k;refine q37 ?_;exact wF k):G:=h k
theorem Q45 (k:H) (h:H->G:=by intro k;refine q22 ?_;exact zN k):G:=h k
theorem Q46 (k:H) (h:H->G:=by intro k;refine zP ?_;exact Q0 k):G:=h k
theorem Q47 (k:H) (h:H->G:=by intro k;refine q17 ?_;exact Q1 k):G:=h k
theorem Q48 (k:H) (h:H->G:=by intro k;refine Q16 ?_;exact Q0 k):G:=h k
theorem Q49 (k:H) (h:H->G:=by intro k;refine xn [11] ?_;exact q14 uY k):G:=h k
theorem Q50 (k:H) (h:H->G:=by intro k;refine Q49 ?_;exact Q42 k):G:=h k
theorem Q51 (k:H) (h:H->G:=by intro k;refine q1 ?_;exact Q1 k):G:=h k
theorem Q52 (k:H) (h:H->G:=by intro k;refine Q21 ?_;exact Q11 k):G:=h k
theorem Q53 (k:H) (h:H->G:=by intro k;refine Q3 ?_;exact Q2 k):G:=h k
theorem Q54 (k:H) (h:H->G:=by intro k;refine zN ?_;exact Q0 k):G:=h k
theorem Q55 (k:H) (h:H->G:=by intro k;refine Q33 ?_;exact q44 k):G:=h k
theorem Q56 (k:H) (h:H->G:=by intro k;refine q12 G28 ?_;exact q12 G32 k):G:=h k
theorem Q57 (k:H) (h:H->G:=by intro k;refine Q14 ?_;exact q4 S23 k):G:=h k
theorem Q58 (k:H) (h:H->G:=by intro k;refine zP ?_;exact Q3 k):G:=h k
theorem Q59 (k:H) (h:H->G:=by intro k;refine q53 ?_;exact zN k):G:=h k
theorem Q60 (k:H) (h:H->G:=by intro k;refine q18 G43 ?_;exact zN k):G:=h k
theorem Q61 (k:H) (h:H->G:=by intro k;refine Q57 ?_;exact Q6 k):G:=h k
theorem Q62 (k:H) (h:H->G:=by intro k;refine Q12 ?_;exact q0 k):G:=h k
theorem Q63 (k:H) (h:H->G:=by intro k;refine q4 yF ?_;exact Q24 k):G:=h k
theorem Q64 (k:H) (h:H->G:=by intro k;refine Q9 ?_;exact Q2 k):G:=h k
theorem Q65 (k:H) (h:H->G:=by intro k;refine yY ?_;exact Q2 k):G:=h k
theorem Q66 (k:H) (h:H->G:=by intro k;refine yY ?_;exact Q0 k):G:=h k
theorem Q67 (k:H) (h:H->G:=by intro k;refine Q15 ?_;exact Q37 k):G:=h k
theorem Q68 (k:H) (h:H->G:=by intro k;refine q64 ?_;exact Q60 k):G:=h k
theorem Q69 (k:H) (h:H->G:=by intro k;refine Q15 ?_;exact q0 k):G:=h k
theorem Q70 (k:H) (h:H->G:=by intro k;refine zP ?_;exact Q4 k):G:=h k
theorem Q71 (k:H) (h:H->G:=by intro k;refine Q26 ?_;exact Q12 k):G:=h k
theorem Q72 (k:H) (h:H->G:=by intro k;refine xn [2] ?_;exact q76 zAZ O22 k):G:=h k
theorem Q73 (k:H) (h:H->G:=by intro k;refine Q72 ?_;exact Q30 k):G:=h k
theorem Q74 (k:H) (h:H->G:=by intro k;refine Q5 ?_;exact Q0 k):G:=h k
theorem Q75 (k:H) (h:H->G:=by intro k;refine Q14 ?_;exact Q6 k):G:=h k
theorem Q76 (k:H) (h:H->G:=by intro k;refine Q9 ?_;exact yV k):G:=h k
theorem Q77 (k:H) (h:H->G:=by intro k;refine q34 ?_;exact Q1 k):G:=h k
theorem Q78 (k:H) (h:H->G:=by intro k;refine q2 zOD ?_;exact q7 O3 k):G:=h k
theorem Q79 (k:H) (h:H->G:=by intro k;refine Q56 ?_;exact q12 G34 k):G:=h k
theorem Q80 (k:H) (h:H->G:=by intro k;refine Q3 ?_;exact Q34 k):G:=h k
theorem Q81 (k:H) (h:H->G:=by intro k;refine Q9 ?_;exact Q27 k):G:=h k
theorem Q82 (k:H) (h:H->G:=by intro k;refine q80 ?_;exact q51 k):G:=h k
theorem Q83 (k:H) (h:H->G:=by intro k;refine Q82 ?_;exact q51 k):G:=h k
theorem Q84 (k:H) (h:H->G:=by intro k;refine Q8 ?_;exact q0 k):G:=h k
theorem Q85 (k:H) (h:H->G:=by intro k;refine q4 yF ?_;exact Q6 k):G:=h k
theorem Q86 (k:H) (h:H->G:=by intro k;refine q39 ?_;exact zN k):G:=h k
theorem Q87 (k:H) (h:H->G:=by intro k;refine q0 ?_;exact q23 yF k):G:=h k
theorem Q88 (k:H) (h:H->G:=by intro k;refine q50 ?_;exact Q50 k):G:=h k
theorem Q89 (k:H) (h:H->G:=by intro k;refine q40 ?_;exact zN k):G:=h k
theorem Q90 (k:H) (h:H->G:=by intro k;refine Q16 ?_;exact yY k):G:=h k
theorem Q91 (k:H) (h:H->G:=by intro k;refine Q8 ?_;exact Q1 k):G:=h k
theorem Q92 (k:H) (h:H->G:=by intro k;refine Q55 ?_;exact q65 k):G:=h k
theorem Q93 (k:H) (h:H->G:=by intro k;refine q33 G28 ?_;exact q33 G32 k):G:=h k
theorem Q94 (k:H) (h:H->G:=by intro k;refine Q0 ?_;exact q70 k):G:=h k
theorem Q95 (k:H) (h:H->G:=by intro k;refine q69 ?_;exact wF k):G:=h k
theorem Q96 (k:H) (h:H->G:=by intro k;refine q2 z4G ?_;exact q7 O3 k):G:=h k
theorem Q97 (k:H) (h:H->G:=by intro k;refine q74 ?_;exact q8 k):G:=h k
theorem Q98 (k:H) (h:H->G:=by intro k;refine q40 ?_;exact Q1 k):G:=h k
theorem Q99 (k:H) (h:H->G:=by intro k;refine q2 zLU ?_;exact q7 O24 k):G:=h k
theorem zXU (k:H) (h:H->G:=by intro k;refine Q0 ?_;exact q44 k):G:=h k
theorem z4W (k:H) (h:H->G:=by intro k;refine q2 zK1 ?_;exact q7 O3 k):G:=h k
theorem z4X (k:H) (h:H->G:=by intro k;refine Q21 ?_;exact Q12 k):G:=h k
theorem zXV (k:H) (h:H->G:=by intro k;refine xn [8] ?_;exact q41 zF0 k):G:=h k
theorem zXW (k:H) (h:H->G:=by intro k;refine xn [3] ?_;exact q41 zF0 k):G:=h k
theorem z7X (k:H) (h:H->G:=by intro k;refine Q1 ?_;exact Q3 k):G:=h k
theorem zXX (k:H) (h:H->G:=by intro k;refine Q16 ?_;exact Q22 k):G:=h k
theorem z05 (k:H) (h:H->G:=by intro k;refine Q99 ?_;exact q4 S24 k):G:=h k
theorem z06 (k:H) (h:H->G:=by intro k;refine q2 z4D ?_;exact q7 O29 k):G:=h k
theorem yO7 (k:H) (h:H->G:=by intro k;refine Q0 ?_;exact yTS k):G:=h k
theorem yO8 (k:H) (h:H->G:=by intro k;refine q2 z9T ?_;exact q54 G28 k):G:=h k
theorem z07 (k:H) (h:H->G:=by intro k;refine zN ?_;exact Q31 k):G:=h k
theorem z08 (k:H) (h:H->G:=by intro k;refine q2 zLV ?_;exact q7 O3 k):G:=h k
theorem z09 (k:H) (h:H->G:=by intro k;refine yY ?_;exact Q27 k):G:=h k
theorem z7Y (k:H) (h:H->G:=by intro k;refine q13 zK1 ?_;exact q19 O3 k):G:=h k
theorem z1A (k:H) (h:H->G:=by intro k;refine q2 zWD ?_;exact q7 O23 k):G:=h k
theorem z1B (k:H) (h:H->G:=by intro k;refine q8 ?_;exact q81 k):G:=h k
theorem z1C (k:H) (h:H->G:=by intro k;refine q18 G34 ?_;exact zN k):G:=h k
theorem z7Z (k:H) (h:H->G:=by intro k;refine Q93 ?_;exact q8 k):G:=h k
theorem yTV (k:H) (h:H->G:=by intro k;refine q13 z9T ?_;exact q46 G28 k):G:=h k
theorem yTW (k:H) (h:H->G:=by intro k;refine yTV ?_;exact q13 z4E k):G:=h k
theorem yTX (k:H) (h:H->G:=by intro k;refine yTW ?_;exact q46 G32 k):G:=h k
theorem yTY (k:H) (h:H->G:=by intro k;refine yTX ?_;exact q13 z4F k):G:=h k
theorem yRP (k:H) (h:H->G:=by intro k;refine yTY ?_;exact q46 G34 k):G:=h k
theorem yRQ (k:H) (h:H->G:=by intro k;refine q13 zRH ?_;exact q19 O37 k):G:=h k
theorem z70 (k:H) (h:H->G:=by intro k;refine Q5 ?_;exact Q22 k):G:=h k
theorem z4Y (k:H) (h:H->G:=by intro k;refine Q3 ?_;exact Q27 k):G:=h k
theorem z71 (k:H) (h:H->G:=by intro k;refine Q3 ?_;exact Q3 k):G:=h k
theorem z4Z (k:H) (h:H->G:=by intro k;refine Q40 ?_;exact yE k):G:=h k
theorem z40 (k:H) (h:H->G:=by intro k;refine q66 O3 ?_;exact zN k):G:=h k
theorem z72 (k:H) (h:H->G:=by intro k;refine q67 ?_;exact zN k):G:=h k
theorem z73 (k:H) (h:H->G:=by intro k;refine q13 zOD ?_;exact q19 O3 k):G:=h k
theorem yC8 (k:H) (h:H->G:=by intro k;refine q4 S24 ?_;exact Q24 k):G:=h k
theorem z41 (k:H) (h:H->G:=by intro k;refine Q51 ?_;exact Q4 k):G:=h k
theorem yRR (k:H) (h:H->G:=by intro k;refine Q48 ?_;exact q12 G47 k):G:=h k
theorem yTZ (k:H) (h:H->G:=by intro k;refine yRP ?_;exact q13 yF4 k):G:=h k
theorem yT0 (k:H) (h:H->G:=by intro k;refine yTZ ?_;exact q19 O37 k):G:=h k
theorem yRS (k:H) (h:H->G:=by intro k;refine yT0 ?_;exact yRQ k):G:=h k
theorem z74 (k:H) (h:H->G:=by intro k;refine q7 O3 ?_;exact q5 k):G:=h k
theorem z75 (k:H) (h:H->G:=by intro k;refine Q0 ?_;exact q65 k):G:=h k
theorem z76 (k:H) (h:H->G:=by intro k;refine Q4 ?_;exact zN k):G:=h k
theorem z77 (k:H) (h:H->G:=by intro k;refine xm 0 ?_;exact xm 1 k):G:=h k
theorem z78 (k:H) (h:H->G:=by intro k;refine q4 S23 ?_;exact Q24 k):G:=h k
theorem yT1 (k:H) (h:H->G:=by intro k;refine yTT ?_;exact q18 G60 k):G:=h k
theorem z79 (k:H) (h:H->G:=by intro k;refine yT1 ?_;exact zN k):G:=h k
theorem z8A (k:H) (h:H->G:=by intro k;refine Q21 ?_;exact Q62 k):G:=h k
theorem yG3 (k:H) (h:H->G:=by intro k;refine q12 G43 ?_;exact q23 S24 k):G:=h k
theorem z8B (k:H) (h:H->G:=by intro k;refine q1 ?_;exact Q15 k):G:=h k
theorem yT2 (k:H) (h:H->G:=by intro k;refine q3 ?_;exact q68 Tryz.underlying3 Tryz.underlying134 k):G:=h k
theorem yT3 (k:H) (h:H->G:=by intro k;refine yT2 ?_;exact q95 k):G:=h k
theorem z8C (k:H) (h:H->G:=by intro k;refine yT3 ?_;exact q68 Tryz.underlying134 Tryz.underlying3 k):G:=h k
theorem yC9 (k:H) (h:H->G:=by intro k;refine Q1 ?_;exact yE k):G:=h k
theorem z8D (k:H) (h:H->G:=by intro k;refine q97 ?_;exact Q35 k):G:=h k
theorem yDA (k:H) (h:H->G:=by intro k;refine Q21 ?_;exact q0 k):G:=h k
theorem z8E (k:H) (h:H->G:=by intro k;refine Q26 ?_;exact q0 k):G:=h k
theorem z8F (k:H) (h:H->G:=by intro k;refine Q35 ?_;exact Q79 k):G:=h k
theorem yDB (k:H) (h:H->G:=by intro k;refine Q14 ?_;exact Q85 k):G:=h k
theorem yT4 (k:H) (h:H->G:=by intro k;refine xn [5] ?_;exact q57 k):G:=h k
theorem z8G (k:H) (h:H->G:=by intro k;refine yT4 ?_;exact Q30 k):G:=h k
theorem yLG (k:H) (h:H->G:=by intro k;refine yO7 ?_;exact yRR k):G:=h k
theorem yT5 (k:H) (h:H->G:=by intro k;refine yO8 ?_;exact q2 z4E k):G:=h k
theorem yT6 (k:H) (h:H->G:=by intro k;refine yT5 ?_;exact q54 G32 k):G:=h k
theorem yT7 (k:H) (h:H->G:=by intro k;refine yT6 ?_;exact q2 z4F k):G:=h k
theorem z8H (k:H) (h:H->G:=by intro k;refine yT7 ?_;exact q54 G34 k):G:=h k
theorem z8I (k:H) (h:H->G:=by intro k;refine q2 yF4 ?_;exact q7 O37 k):G:=h k
end
theorem zXY {k r} (h:zKV k=some r):zE Tryz.prog 60 [(zI aR k)] [(db r)]:=by refine co Tryz.func60 ?_;intro _ _ _ _;unfold zKV at h;refine Q53 ?_;refine q4 S22 ?_;refine q67 ?_;refine Q1 ?_;exact er h
theorem zXZ {K r} (h:zHW K=some r):zE Tryz.prog 61 [(zI aC K)] [(db r)]:=by
 refine co Tryz.func61 ?_;intro _ _ _ _;unfold zHW at h;refine Q80 ?_;have ⟨Y,k,h⟩:=bE h;refine zQ Y (.exit 0) (λY=>⟨[(0,.d (zI aC K))],[]⟩) .ret (λY=>⟨[(2,.d (db Y))],[]⟩) ?_ ?_ ?_;refine zD (λx=>⟨[(0,.d (zI aC K)),(3,.d (di x))],[]⟩) k wc ?_
 rintro T Z D
 replace D:zCO K T=some Z:=D;unfold zCO at D;refine Q57 ?_;refine q5 ?_;have ⟨_,k,D⟩:=bE D;refine q9 k ?_;refine q15 (.d (di T)) ?_;refine q82 (.d (db (decide (T<30)))) ?_;refine Q39 ?_;refine zZ D (λD=>?_) (λD=>?_);refine Q81 ?_;have ⟨_,k,D⟩:=bE D;refine q11 S23 k ?_;refine q58 zIC ?_;refine q99 O37 k ?_;refine q4 yF ?_;refine q53 ?_;have ⟨_,k,D⟩:=bE D;refine q9 k ?_;refine q42 (.d (zI aC K)) ?_;refine q42 (.d (di T)) ?_;have ⟨H,O,D⟩:=bE D;refine sqf (.ip (aC.all K) (T.toNat*aC.size)) rfl (λhb=>by subst hb;exact kX (en:=aC) lr S23 rfl rfl O) ?_
 refine yKS (.ip (aC.all K) (T.toNat*aC.size+2)) zFW ?_;refine sqf (.d (ds H.bO)) rfl (λhb=>by subst hb;exact yA (en:=aC) (l:=K) (i:=T) (v:=H) (off:=2) lr O9 rfl O rfl) ?_
 refine sqf (.d (di (H.bO.length:Int))) rfl (λhb=>by subst hb;exact zVY (s:=H.bO) lr Tryz.underlying9 rfl) ?_
 refine q59 (.d (db (decide (40<(H.bO.length:Int))))) ?_;refine Q45 ?_;refine zZ D (λD=>?_) (λD=>?_);refine Q23 ?_;cases D;intro q;cases q;exact⟨rfl,wc⟩;refine Q38 ?_;exact ew D;refine zG ?_;cases D;intro q;cases q;exact⟨rfl,wc⟩
 rintro Y rfl
 replace h:=eL h;refine Q2 ?_;refine q4 S23 ?_;refine q67 ?_;refine Q1 ?_;exact er h
 rintro Y rfl
 replace h:=eR h;exact es h
theorem zX0 {k r} (h:zKW k=some r):zE Tryz.prog 62 [(bY.dv k)] [(db r)]:=by refine co Tryz.func62 ?_;intro _ _ _ _;unfold zKW at h;refine Q94 ?_;refine Q35 ?_;refine z05 ?_;refine q67 ?_;refine Q1 ?_;exact er h
theorem zX1 {D r} (h:zHX D=some r):zE Tryz.prog 32 [(bD.dv D)] [(db r)]:=by
 refine co Tryz.func32 ?_;intro _ _ _ _;unfold zHX at h;refine Q33 ?_;refine Q35 ?_;refine q2 zAZ ?_;refine q7 O22 ?_;have ⟨_,k,h⟩:=bE h;refine q6 (zXY k) ?_;have ⟨_,k,h⟩:=bE h;refine q9 k ?_;refine q55 (.ip (bD.cells D) (0+1)) zWD ?_;refine q62 (.d (zI aC D.aA)) O23 ?_;have ⟨T,K,h⟩:=bE h;refine sqt (.d (db T)) rfl (λhb=>by subst hb;exact jP lr rfl (zXZ K)) ?_
 refine q17 ?_;have ⟨_,k,h⟩:=bE h;refine q9 k ?_;refine q55 (.ip (bD.cells D) (0+2)) yF2 ?_;refine yKT (.d (bY.dv D.aN)) G26 ?_;have ⟨O,H,h⟩:=bE h;refine sqt (.d (db O)) rfl (λhb=>by subst hb;exact jP lr rfl (zX0 H)) ?_
 refine Q47 ?_;exact er h
theorem zX2 {H r} (h:zHY H=some r):zE Tryz.prog 33 [(aH.dv H)] [(db r)]:=by
 refine co Tryz.func33 ?_;intro _ _ _ _;unfold zHY at h;refine zXU ?_;refine Q48 ?_;refine z06 ?_;refine q4 S29 ?_;refine q53 ?_;have ⟨_,k,h⟩:=bE h;refine q9 k ?_;refine q24 (.ip (aH.cells H) (0+1)) zWE ?_;refine q26 (.d (zI bA H.aF)) O30 ?_;refine q83 (.d (di (H.aF.length:Int))) S30 ?_;refine q59 (.d (db (decide (8<(H.aF.length:Int))))) ?_;refine Q45 ?_;refine zZ h (λh=>?_) (λh=>?_);refine Q3 ?_;exact er h;refine z70 ?_;have ⟨Y,k,h⟩:=bE h;refine zQ Y (.exit 0) (λY=>⟨[],[]⟩) .ret (λY=>⟨[(2,.d (db Y))],[]⟩) ?_ ?_ ?_;refine zD (λx=>⟨[(1,.d (.pt (aH.cells H))),(3,.d (di x))],[]⟩) k wc ?_
 rintro T Z D
 replace D:zCP H T=some Z:=D;unfold zCP at D;refine Q4 ?_;refine z06 ?_;refine q4 S29 ?_;refine Q6 ?_;refine zZ D (λD=>?_) (λD=>?_);refine Q32 ?_;refine z06 ?_;refine q0 ?_;have ⟨aa,k,D⟩:=bE D;refine q11 S29 k ?_;refine q58 zJX ?_;refine jW (yA (en:=bB) (l:=H.aB) (i:=T) (v:=aa) (off:=0) lr O37 rfl k rfl) ?_;refine q4 yF ?_;refine q53 ?_;have ⟨_,k,D⟩:=bE D;refine q9 k ?_;refine q24 (.ip (aH.cells H) (0+0)) z4D ?_;refine q26 (.d (zI bB H.aB)) O29 ?_;refine q42 (.d (di T)) ?_;have ⟨K,O,D⟩:=bE D;refine sqf (.ip (bB.all H.aB) (T.toNat*bB.size)) rfl (λhb=>by subst hb;exact kX (en:=bB) lr S29 rfl rfl O) ?_
 refine yKS (.ip (bB.all H.aB) (T.toNat*bB.size+1)) zOE ?_;refine sqf (.d (zI aG K.aV)) rfl (λhb=>by subst hb;exact yA (en:=bB) (l:=H.aB) (i:=T) (v:=K) (off:=1) lr O79 rfl O rfl) ?_
 refine q83 (.d (di (K.aV.length:Int))) S79 ?_;refine q59 (.d (db (decide (20<(K.aV.length:Int))))) ?_;refine Q45 ?_;refine zZ D (λD=>?_) (λD=>?_);refine Q23 ?_;cases D;intro q;cases q;exact⟨rfl,wc⟩;refine Q38 ?_;exact ew D;refine zG ?_;cases D;intro q;cases q;exact⟨rfl,wc⟩
 rintro Y rfl
 replace h:=eL h;refine Q3 ?_;exact er h
 rintro Y rfl
 replace h:=eR h;exact es h
theorem zOF {k a1 r} (h:zJD k a1=some r):zE Tryz.prog 13 [(zI eI k),(di a1)] [(db r)]:=by refine co Tryz.func13 ?_;intro _ _ _ _;unfold zJD at h;refine Q53 ?_;refine q4 yF ?_;refine q0 ?_;refine q67 ?_;refine Q1 ?_;exact er h
theorem zIF {D r} (h:zER D=some r):zE Tryz.prog 17 [(aS.dv D)] [(db r)]:=by
 refine co Tryz.func17 ?_;intro _ _ _ _;unfold zER at h;refine yO7 ?_;refine Q35 ?_;refine yO8 ?_;have ⟨_,k,h⟩:=bE h;refine q6 (zX1 k) ?_;have ⟨_,k,h⟩:=bE h;refine q9 k ?_;refine q55 (.ip (aS.cells D) (0+3)) z4E ?_;refine yKT (.d (aH.dv D.Collation)) G32 ?_;have ⟨t9,T,h⟩:=bE h;refine sqt (.d (db t9)) rfl (λhb=>by subst hb;exact jP lr rfl (zX2 T)) ?_
 refine q17 ?_;have ⟨_,k,h⟩:=bE h;refine q9 k ?_;refine q55 (.ip (aS.cells D) (0+12)) yF4 ?_;refine q62 (.d (zI eI D.aX)) O37 ?_;have ⟨Y,H,h⟩:=bE h;refine sqt (.d (db Y)) rfl (λhb=>by subst hb;exact jP lr rfl (zOF H)) ?_
 refine q17 ?_;have ⟨_,k,h⟩:=bE h;refine q9 k ?_;refine q55 (.ip (aS.cells D) (0+13)) zRH ?_;refine q62 (.d (zI eI D.bU)) O37 ?_;have ⟨Z,K,h⟩:=bE h;refine sqt (.d (db Z)) rfl (λhb=>by subst hb;exact jP lr rfl (zOF K)) ?_
 refine q17 ?_;have ⟨_,k,h⟩:=bE h;refine q9 k ?_;refine q55 (.ip (aS.cells D) (0+14)) zTU ?_;refine q62 (.d (zI eI D.bZ)) O37 ?_;have ⟨aa,O,h⟩:=bE h;refine sqt (.d (db aa)) rfl (λhb=>by subst hb;exact jP lr rfl (zOF O)) ?_
 refine Q47 ?_;exact er h
theorem zUG {r} (h:zHN=some r):zE Tryz.prog 39 [] [(aH.dv r)]:=by refine co Tryz.func39 ?_;intro _ _ _ _;unfold zHN at h;refine Q0 ?_;refine yKU ?_;refine Q54 ?_;refine q23 yF ?_;refine q49 B82 ?_;refine q23 S79 ?_;refine q49 B91 ?_;refine yCP ?_;refine q18 G91 ?_;refine zN ?_;refine zO (zT (t:=1) lr rfl rfl rfl) ?_;refine Q0 ?_;refine q23 yF ?_;refine q49 B82 ?_;refine q23 S79 ?_;refine q49 B91 ?_;refine yCP ?_;refine q18 G91 ?_;refine zN ?_;refine zO (zT (t:=2) lr rfl rfl rfl) ?_;refine Q0 ?_;refine q23 yF ?_;refine q49 B82 ?_;refine q23 S79 ?_;refine q49 B91 ?_;refine yCP ?_;refine q18 G91 ?_;refine zN ?_;refine zO (zT (t:=3) lr rfl rfl rfl) ?_;refine Q0 ?_;refine q12 G91 ?_;refine q12 G91 ?_;refine q12 G91 ?_;refine q23 S29 ?_;refine jW ((zFJ lr B32 rfl rfl).nils (bs:=aH.cells ({aB:=[({aY:=[65],aV:=[({aT:=5,aL:=32,aO:=8,aD:=false}:aP)]}:bP),({aY:=[97],aV:=[({aT:=5,aL:=32,aO:=2,aD:=false}:aP)]}:bP),({aY:=[769],aV:=[({aT:=0,aL:=40,aO:=2,aD:=false}:aP)]}:bP)],aF:=[],bL:=64448,bF:=32,bK:=2}:Collation)) (nlE (nlN (nlE (nlE (nlE nl0)))))) ?_;refine q18 G32 ?_;refine zN ?_;cases h;refine yE ?_;exact wW rfl rfl G32 rfl
set_option maxRecDepth 20000 in
theorem zRM {O r} (h:zIR O=some r):zE Tryz.prog 147 [(.v (.int .u64 O))] [(di r)]:=by refine co Tryz.func147 ?_;intro _ _ _ _;unfold zIR at h;refine Q43 ?_;refine Q86 ?_;have ⟨T,D,h⟩:=bE h;refine tl .normal ⟨[(0,.d (.v (.int .u64 T.1))),(2,.d (di T.2))],[]⟩ ?_ ?_;refine zZ D (λD=>?_) (λD=>?_);refine Q2 ?_;refine q95 ?_;refine Q1 ?_;refine x9<|Q1 ?_;exact eo D;refine zP ?_;exact eo D;refine Q4 ?_;refine Q86 ?_;have ⟨Y,H,h⟩:=bE h;refine tl .normal ⟨[(0,.d (.v (.int .u64 Y.1))),(2,.d (di Y.2))],[]⟩ ?_ ?_;refine zZ H (λH=>?_) (λH=>?_);refine Q2 ?_;refine q95 ?_;refine Q1 ?_;refine Q13 ?_;exact eo H;refine zP ?_;exact eo H;refine Q4 ?_;refine Q86 ?_;have ⟨Z,K,h⟩:=bE h;refine tl .normal ⟨[(0,.d (.v (.int .u64 Z.1))),(2,.d (di Z.2))],[]⟩ ?_ ?_;refine zZ K (λK=>?_) (λK=>?_);refine Q2 ?_;refine q95 ?_;refine Q1 ?_;refine Q13 ?_;exact eo K;refine zP ?_;exact eo K;refine Q27 ?_;refine q68 Tryz.underlying180 Tryz.underlying5 ?_;have ⟨_,k,h⟩:=bE h;refine yKV Tryz.underlying9 k ?_;refine q68 Tryz.underlying5 Tryz.underlying3 ?_;refine Q10 ?_;exact er h
theorem zUH {D r} (h:zE4 D=some r):zE Tryz.prog 104 [(.v (.int .u64 D))] [(di r)]:=by refine co Tryz.func104 ?_;intro _ _ _ _;unfold zE4 at h;refine Q3 ?_;refine yV ?_;refine zJL rfl ⟨λc=>(by cases c),λ_=>?_⟩;refine zP<|Q2 ?_;have ⟨_,k,h⟩:=bE h;refine q6 (zRM k) ?_;refine Q1 ?_;exact er h
theorem zM7 {k r} (h:zE5 k=some r):zE Tryz.prog 100 [(di k)] [(db r)]:=by refine co Tryz.func100 ?_;intro _ _ _ _;unfold zE5 at h;refine z4Y ?_;refine q30 ?_;refine Q1 ?_;exact er h
theorem yLH {l r:List Int} (h:z9N l=some r):GC Tryz.prog 75 [.row 0] [(0,.win 3 eI.size 0 (eI.all l))] [0] [] [(0,.win 3 eI.size 0 (eI.all r))]:=by
 unfold z9N at h;split at h;rename_i H;cases h;exact yKF (en:=eI) (encV:=Value.int .i64) (λ_=>rfl) rfl (λ_=>rfl) (by simp) ⟨_,Tryz.func75,by kernel_rfl,rfl⟩ (λ_ B c w=>Any.slices_Sort_int_none Tryz.lays189 B c w) (λblk off k w D hb=>Any.slices_Sort_int Tryz.lays189 blk off k l w D hb (by unfold LIM at H;omega))
 cases h
theorem yLI {l r:List Int} (h:z9O l=some r):GC Tryz.prog 76 [.row 0] [(0,.win 3 eI.size 0 (eI.all l))] [] [.d (zI eI r)] []:=by
 unfold z9O at h;split at h;rename_i K;cases h;exact z7C (en:=eI) (encV:=Value.int .i64) (pad:=List.replicate (l.length-(Lib.compact l).length) 0) (λ_=>rfl) rfl (λ_=>rfl) (z33 l) ⟨_,Tryz.func76,by kernel_rfl,rfl⟩ (λ_ B c w=>Any.slices_Compact_int_empty Tryz.lays2n20 B c w) (λblk off k w D H=>Any.slices_Compact_int Tryz.lays2n20 blk off k l w D (by unfold LIM at K;omega) H)
 cases h
theorem zQC {O a1 r} (h:zCQ O a1=some r):zE Tryz.prog 46 [(zI eI O),(di a1)] [(zI eI r)]:=by
 refine co Tryz.func46 ?_;intro _ _ _ _;unfold zCQ at h;refine z71 ?_;refine zO (xJ (t:=5) 1005 3 eI.size lr lr rfl rfl) ?_;refine Q4 ?_;refine Q63 ?_;have ⟨y1,k,h⟩:=bE h;refine tl (.exit 0) ⟨[(5,.row 1005)],[(1005,.row 3 eI.size false (eI.all y1))]⟩ ?_ ?_;refine zD (λx=>⟨[(1,.d (di a1)),(5,.row 1005),(8,.d (zI eI O)),(9,.d (di (O.length:Int))),(10,.d (di x.1))],[(1005,.row 3 eI.size false (eI.all x.2))]⟩) k wc ?_
 rintro⟨Y,H⟩ Z K
 replace K:wP O a1 Y H=some Z:=K;unfold wP at K;refine Q18 ?_;refine zZ K (λK=>?_) (λK=>?_);refine Q5 ?_;have ⟨y2,D,K⟩:=bE K;refine tl .normal ⟨[(1,.d (di a1)),(5,.row 1005),(8,.d (zI eI O)),(9,.d (di (O.length:Int))),(10,.d (di Y))],[(1005,.row 3 eI.size false (eI.all y2))]⟩ ?_ ?_;refine Q66 ?_;have ⟨T,k,D⟩:=bE D;refine q11 yF k ?_;refine q36 O3 k ?_;refine Q15 ?_;refine q39 ?_;have ⟨_,k,D⟩:=bE D;refine q9 k ?_;refine q15 (.d (di T)) ?_;refine q15 (.d (di a1)) ?_;refine q63 (.d (db (decide (T<=a1)))) ?_;refine Q39 ?_;refine zZ D (λD=>?_) (λD=>?_);refine Q26 ?_;refine Q87 ?_;have ⟨_,k,D⟩:=bE D;refine yH rfl (yI (en:=eI) (l:=H) (m:=[T]) lr yF rfl rfl rfl k (by decide) (by decide) rfl rfl) ?_;refine Q11 ?_;exact eo D;refine zP ?_;exact eo D;refine Q20 ?_;exact ew K;exact zG (ex K);refine Q21 ?_;refine zEP (zRC (id:=1005) rfl) ?_ (by simp);have ⟨_,k,h⟩:=bE h;refine yH rfl (zCN [(0,1005)] (yLH k) lr (by decide) ⟨rfl,trivial⟩ rfl rfl ⟨rfl,trivial⟩ rfl rfl rfl (λ_=>rfl) rfl) ?_;refine zN<|Q21 ?_;have ⟨_,k,h⟩:=bE h;refine yH rfl (zCN [(0,1005)] (yLI k) lr (by decide) ⟨rfl,trivial⟩ rfl rfl ⟨rfl,trivial⟩ rfl rfl rfl (λ_=>rfl) rfl) ?_;refine Q1 ?_;exact er h
theorem zIG {D r} (h:zBF D=some r):zE Tryz.prog 148 [(di D)] [(db r)]:=by refine co Tryz.func148 ?_;intro _ _ _ _;unfold zBF at h;refine Q53 ?_;refine q39 ?_;have ⟨_,k,h⟩:=bE h;refine q9 k ?_;refine q15 (.d (di D)) ?_;refine q63 (.d (db (decide (D<=65535)))) ?_;refine Q47 ?_;exact er h
theorem zQD {O r} (h:zCR O=some r):zE Tryz.prog 183 [(ds O)] [(db r)]:=by
 refine co Tryz.func183 ?_;intro _ _ _ _;unfold zCR at h;refine Q43 ?_;refine yKW Tryz.underlying9 ?_;refine Q24 ?_;have ⟨Z,k,h⟩:=bE h;refine zQ Z (.exit 0) (λZ=>⟨[(0,.d (ds O))],[]⟩) .ret (λZ=>⟨[(2,.d (db Z))],[]⟩) ?_ ?_ ?_;refine zD (λx=>⟨[(0,.d (ds O)),(6,.d (di (O.length:Int))),(7,.d (di x))],[]⟩) k wc ?_
 rintro v7 ac H
 replace H:wQ O v7=some ac:=H;unfold wQ at H;refine Q18 ?_;refine zZ H (λH=>?_) (λH=>?_);refine Q64 ?_;refine Q69 ?_;have ⟨D,k,H⟩:=bE H;refine yKV Tryz.underlying9 k ?_;refine Q15 ?_;refine q39 ?_;have ⟨_,k,H⟩:=bE H;refine q9 k ?_;refine q15 (.d (dby D)) ?_;refine q63 (.d (db (decide (D<=90)))) ?_;refine q17 ?_;have ⟨_,k,H⟩:=bE H;refine q9 k ?_;refine q42 (.d (dby D)) ?_;refine z7M (.d (db (decide (97<=D)))) ?_;have ⟨T,aa,H⟩:=bE H;refine sqf (.d (db T)) rfl (λhb=>by subst hb;exact(kF lr rfl).bool (oi aa)) ?_
 refine wI (x:= .d (dby D)) rfl rfl rfl lr lr rfl (λhb=>by obtain⟨hb,K⟩:=zS hb;obtain rfl:=gF hb;obtain rfl:T=true:=K;exact kF lr rfl) ?_
 refine wI (x:= .d (db (decide (D<=122)))) rfl rfl rfl lr lr rfl (λhb=>by obtain⟨hb,K⟩:=zS hb;obtain rfl:=gF hb;obtain rfl:T=true:=K;exact zKP lr rfl rfl) ?_
 refine q96 (.d (db (T&&(decide (D<=122))))) ?_;refine q22 ?_;have ⟨_,k,H⟩:=bE H;refine q9 k ?_;refine q42 (.d (dby D)) ?_;refine z7M (.d (db (decide (48<=D)))) ?_;have ⟨Y,ab,H⟩:=bE H;refine sqf (.d (db Y)) rfl (λhb=>by subst hb;exact(kF lr rfl).bool (oi ab)) ?_
 refine wI (x:= .d (dby D)) rfl rfl rfl lr lr rfl (λhb=>by obtain⟨hb,K⟩:=zS hb;obtain rfl:=gF hb;obtain rfl:Y=true:=K;exact kF lr rfl) ?_
 refine wI (x:= .d (db (decide (D<=57)))) rfl rfl rfl lr lr rfl (λhb=>by obtain⟨hb,K⟩:=zS hb;obtain rfl:=gF hb;obtain rfl:Y=true:=K;exact zKP lr rfl rfl) ?_
 refine q96 (.d (db (Y&&(decide (D<=57))))) ?_;refine q22 ?_;have ⟨_,k,H⟩:=bE H;refine q9 k ?_;refine q42 (.d (dby D)) ?_;refine z7N (.d (db (decide (D=95)))) ?_;refine q22 ?_;refine Q36 ?_;refine zZ H (λH=>?_) (λH=>?_);refine Q23 ?_;cases H;intro q;cases q;exact⟨rfl,wc⟩;refine Q41 ?_;exact ew H;refine zG ?_;cases H;intro q;cases q;exact⟨rfl,wc⟩
 rintro Z rfl
 replace h:=eL h;refine Q2 ?_;refine yCQ ?_;have ⟨_,k,h⟩:=bE h;refine q9 k ?_;refine q15 (.d (ds O)) ?_;refine sqt (.d (di (O.length:Int))) rfl (λhb=>by subst hb;exact zVY (s:=O) lr Tryz.underlying9 rfl) ?_
 refine q63 (.d (db (decide ((O.length:Int)<=32)))) ?_;refine Q47 ?_;exact er h
 rintro Z rfl
 replace h:=eR h;exact es h
theorem zLX {D r} (h:uD D=some r):zE Tryz.prog 149 [(aH.dv D)] [(di r)]:=by
 refine co Tryz.func149 ?_;intro _ _ _ _;unfold uD at h;refine zXU ?_;refine Q48 ?_;refine q2 zWE ?_;refine q7 O30 ?_;refine q4 S30 ?_;refine Q24 ?_;have ⟨y1,an,h⟩:=bE h;refine zQ y1 (.exit 0) (λy1=>⟨[(1,.d (.pt (aH.cells D)))],[]⟩) .ret (λy1=>⟨[(2,.d (di y1))],[]⟩) ?_ ?_ ?_;refine zD (λx=>⟨[(1,.d (.pt (aH.cells D))),(13,.d (zI bA D.aF)),(14,.d (di (D.aF.length:Int))),(15,.d (di x))],[]⟩) an wc ?_
 rintro ax ap T
 replace T:xP D ax=some ap:=T;unfold xP at T;refine Q18 ?_;refine zZ T (λT=>?_) (λT=>?_);refine Q32 ?_;have ⟨_,ab,T⟩:=bE T;refine q11 S30 ab ?_;refine yKX z4A ab ?_;refine yKY ?_;refine q18 z4A ?_;refine zN ?_;refine zO (zT (t:=4) lr rfl rfl rfl) ?_;refine Q0 ?_;refine q2 zSU ?_;refine q7 O9 ?_;have ⟨_,al,T⟩:=bE T;refine q6 (zQD al) ?_;refine Q36 ?_;refine zZ T (λT=>?_) (λT=>?_);refine Q23 ?_;cases T;intro q;cases q;exact⟨rfl,wc⟩;refine Q41 ?_;exact ew T;refine zG ?_;cases T;intro q;cases q;exact⟨rfl,wc⟩
 rintro y1 rfl
 replace h:=eL h;refine Q0 ?_;refine z7O ?_;refine Q11 ?_;refine Q31 ?_;refine q2 zWE ?_;refine q7 O30 ?_;refine q4 S30 ?_;refine Q24 ?_;have ⟨y2,ao,h⟩:=bE h;refine zQ y2 (.exit 2) (λy2=>⟨[(1,.d (.pt (aH.cells D)))],[]⟩) .ret (λy2=>⟨[(2,.d (di y2))],[]⟩) ?_ ?_ ?_;refine zD (λx=>⟨[(1,.d (.pt (aH.cells D))),(5,.row 24),(26,.d (zI bA D.aF)),(27,.d (di (D.aF.length:Int))),(28,.d (di x.1))],[(24,.map (wK kS eB x.2))]⟩) ao wc ?_
 rintro⟨ay,am⟩ aq Y
 replace Y:jX D ay am=some aq:=Y;unfold jX at Y;refine Q18 ?_;refine zZ Y (λY=>?_) (λY=>?_);refine Q32 ?_;have ⟨aw,ac,Y⟩:=bE Y;refine q11 S30 ac ?_;refine yKX z4A ac ?_;refine yKY ?_;refine q18 z4A ?_;refine zN ?_;refine zO (zT (t:=7) lr rfl rfl rfl) ?_;refine yV<|Q21 ?_;refine q2 zSU ?_;refine q7 O9 ?_;refine jW (yFE (kv:=kS) (ev:=eB) (mp:=am) (k:=aw.bT) (zero:=false) lr yRF K9 rfl rfl rfl (λ_ _=> .v _)) ?_;refine zN ?_;refine zZ Y (λY=>?_) (λY=>?_);refine Q23 ?_;cases Y;intro q;cases q;exact⟨rfl,wc⟩;refine zP<|Q26 ?_;refine q2 zSU ?_;refine q7 O9 ?_;refine yCR yRF K9 ?_;refine zN<|Q20 ?_;exact ew Y;refine zG ?_;cases Y;intro q;cases q;exact⟨rfl,wc⟩
 rintro y2 rfl
 replace h:=eL h;refine Q31 ?_;refine q2 zWE ?_;refine q7 O30 ?_;refine q4 S30 ?_;refine Q24 ?_;have ⟨y3,k,h⟩:=bE h;refine zQ y3 (.exit 4) (λy3=>⟨[(1,.d (.pt (aH.cells D)))],[]⟩) .ret (λy3=>⟨[(2,.d (di y3))],[]⟩) ?_ ?_ ?_;refine zD (λx=>⟨[(1,.d (.pt (aH.cells D))),(41,.d (zI bA D.aF)),(42,.d (di (D.aF.length:Int))),(43,.d (di x))],[]⟩) k wc ?_
 rintro az ar K
 replace K:xQ D az=some ar:=K;unfold xQ at K;refine Q18 ?_;refine zZ K (λK=>?_) (λK=>?_);refine Q32 ?_;have ⟨H,k,K⟩:=bE K;refine q11 S30 k ?_;refine yKX z4A k ?_;refine yKY ?_;refine q18 z4A ?_;refine zN ?_;refine zO (zT (t:=9) lr rfl rfl rfl) ?_;refine Q0 ?_;refine q2 zSV ?_;refine z74 ?_;have ⟨_,k,K⟩:=bE K;refine q9 k ?_;refine q24 (.ip (bA.cells H) (0+2)) zSW ?_;refine q26 (.d (di H.Hi)) O3 ?_;refine q24 (.ip (bA.cells H) (0+1)) zSV ?_;refine q26 (.d (di H.Lo)) O3 ?_;refine yO3 (.d (db (decide (H.Hi<H.Lo)))) ?_;refine q22 ?_;have ⟨_,k,K⟩:=bE K;refine q9 k ?_;refine q24 (.ip (bA.cells H) (0+2)) zSW ?_;refine q26 (.d (di H.Hi)) O3 ?_;refine q24 (.ip (aH.cells D) (0+2)) zPW ?_;refine q26 (.d (di D.bL)) O3 ?_;refine z7M (.d (db (decide (D.bL<=H.Hi)))) ?_;refine Q45 ?_;refine zZ K (λK=>?_) (λK=>?_);refine Q23 ?_;cases K;intro q;cases q;exact⟨rfl,wc⟩;refine Q41 ?_;exact ew K;refine zG ?_;cases K;intro q;cases q;exact⟨rfl,wc⟩
 rintro y3 rfl
 replace h:=eL h;refine Q31 ?_;refine q2 zWE ?_;refine q7 O30 ?_;refine q4 S30 ?_;refine Q24 ?_;have ⟨y4,k,h⟩:=bE h;refine zQ y4 (.exit 6) (λy4=>⟨[],[]⟩) .ret (λy4=>⟨[(2,.d (di y4))],[]⟩) ?_ ?_ ?_;refine zD (λx=>⟨[(1,.d (.pt (aH.cells D))),(66,.d (zI bA D.aF)),(67,.d (di (D.aF.length:Int))),(68,.d (di x))],[]⟩) k wc ?_
 rintro Z au O
 replace O:xR D Z=some au:=O;unfold xR at O;refine Q18 ?_;refine zZ O (λO=>?_) (λO=>?_);refine Q64 ?_;have ⟨ag,k,O⟩:=bE O;refine q11 S30 k ?_;refine yKX z4A k ?_;refine yKY ?_;refine q1 ?_;refine q18 z4A ?_;refine zN ?_;refine zO (zT (t:=11) lr rfl rfl rfl) ?_;refine yV ?_;refine zW MX rfl ?_;refine q8 ?_;refine z7P ?_;have ⟨_,k,O⟩:=bE O;refine q47 k ?_;refine z4J (.ip (bA.cells ag) (0+1)) zSV ?_;refine z4K (.d (di ag.Lo)) O3 ?_;refine z4J (.ip (aH.cells D) (0+1)) zWE ?_;refine z4K (.d (zI bA D.aF)) O30 ?_;refine q48 (.d (di Z)) ?_;refine yCS (.d (di (wi (Z-1)))) ?_;have ⟨aa,ad,O⟩:=bE O;refine dat (.ip (bA.all D.aF) ((wi (Z-1)).toNat*bA.size)) rfl (λhb=>by subst hb;exact kX (en:=bA) lr S30 rfl rfl ad) ?_
 refine z4L (.ip (bA.all D.aF) ((wi (Z-1)).toNat*bA.size+2)) zSW ?_;refine dat (.d (di aa.Hi)) rfl (λhb=>by subst hb;exact yA (en:=bA) (l:=D.aF) (i:=(wi (Z-1))) (v:=aa) (off:=2) lr O3 rfl ad rfl) ?_
 refine dat (.d (di (wi (aa.Hi+1)))) rfl (λhb=>by subst hb;exact zZB lr rfl rfl) ?_
 refine dat (.d (db (!decide (ag.Lo=(wi (aa.Hi+1)))))) rfl (λhb=>by subst hb;exact zTN lr rfl rfl) ?_
 refine Q95 ?_;refine zZ O (λO=>?_) (λO=>?_);refine Q23 ?_;cases O;intro q;cases q;exact⟨rfl,wc⟩;refine Q41 ?_;exact ew O;refine zG ?_;cases O;intro q;cases q;exact⟨rfl,wc⟩
 rintro y4 rfl
 replace h:=eL h;refine Q3 ?_;exact er h
 rintro y4 rfl
 replace h:=eR h;exact es h
 rintro y3 rfl
 replace h:=eR h;exact es h
 rintro y2 rfl
 replace h:=eR h;exact es h
 rintro y1 rfl
 replace h:=eR h;exact es h
theorem zD6 {D r} (h:zAN D=some r):zE Tryz.prog 157 [(di D)] [(db r)]:=by refine co Tryz.func157 ?_;intro _ _ _ _;unfold zAN at h;refine Q53 ?_;refine q39 ?_;have ⟨_,k,h⟩:=bE h;refine q9 k ?_;refine q15 (.d (di D)) ?_;refine q63 (.d (db (decide (D<=1114111)))) ?_;refine Q47 ?_;exact er h
theorem zUI {D r} (h:zE6 D=some r):zE Tryz.prog 184 [(aG.dv D)] [(di r)]:=by
 refine co Tryz.func184 ?_;intro _ _ _ _;unfold zE6 at h;refine z75 ?_;refine Q48 ?_;refine Q96 ?_;refine q2 zRI ?_;refine q7 O3 ?_;refine q2 zRJ ?_;refine q7 O3 ?_;refine q89 zSS ?_;refine Q24 ?_;have ⟨T,k,h⟩:=bE h;refine zQ T (.exit 0) (λT=>⟨[(1,.d (.pt (aG.cells D)))],[]⟩) .ret (λT=>⟨[(2,.d (di T))],[]⟩) ?_ ?_ ?_;refine zD (λx=>⟨[(1,.d (.pt (aG.cells D))),(11,.d (cK.dv ({x0:=D.aT,x1:=D.aL,x2:=D.aO}:b4))),(12,.d (di x))],[]⟩) k wc ?_
 rintro ac ab H
 replace H:zA1 D ac=some ab:=H;unfold zA1 at H;refine Q18 ?_;refine zZ H (λH=>?_) (λH=>?_);refine Q32 ?_;have ⟨aa,k,H⟩:=bE H;refine jW (zN3 (en:=eI) (l:=[({x0:=D.aT,x1:=D.aL,x2:=D.aO}:b4).x0,({x0:=D.aT,x1:=D.aL,x2:=D.aO}:b4).x1,({x0:=D.aT,x1:=D.aL,x2:=D.aO}:b4).x2]) lr zSS O3 (λ_=>rfl) rfl rfl rfl k) ?_;refine Q15 ?_;refine q5 ?_;have ⟨_,k,H⟩:=bE H;refine q9 k ?_;refine q42 (.d (di aa)) ?_;refine q59 (.d (db (decide (65535<aa)))) ?_;refine Q45 ?_;refine zZ H (λH=>?_) (λH=>?_);refine Q23 ?_;cases H;intro q;cases q;exact⟨rfl,wc⟩;refine Q41 ?_;exact ew H;refine zG ?_;cases H;intro q;cases q;exact⟨rfl,wc⟩
 rintro T rfl
 replace h:=eL h;refine yV<|Q66 ?_;refine Q96 ?_;refine q30 ?_;have ⟨O,k,h⟩:=bE h;refine q9 k ?_;refine q55 (.ip (aG.cells D) (0+1)) zRI ?_;refine q62 (.d (di D.aL)) O3 ?_;refine z00 (.d (db (decide (D.aL=0)))) ?_;have ⟨Y,Z,h⟩:=bE h;refine sqt (.d (db Y)) rfl (λhb=>by subst hb;exact(kF lr rfl).bool (oi Z)) ?_
 refine wI (x:= .ip (aG.cells D) (0+2)) rfl rfl rfl lr lr rfl (λhb=>by obtain⟨hb,K⟩:=zS hb;obtain rfl:O=true:=hb;obtain rfl:=gF K;exact uH lr zRJ rfl) ?_
 refine wI (x:= .d (di D.aO)) rfl rfl rfl lr lr rfl (λhb=>by obtain⟨hb,K⟩:=zS hb;obtain rfl:O=true:=hb;obtain rfl:=gF K;exact vC lr O3 rfl rfl) ?_
 refine wI (x:= .d (db (decide (D.aO=0)))) rfl rfl rfl lr lr rfl (λhb=>by obtain⟨hb,K⟩:=zS hb;obtain rfl:O=true:=hb;obtain rfl:=gF K;exact zM2 lr rfl rfl) ?_
 refine yKZ (.d (db (Y ||(decide (D.aO=0))))) ?_;refine Q47 ?_;refine zZ h (λh=>?_) (λh=>?_);refine Q3 ?_;exact er h;refine Q0 ?_;refine q2 zRI ?_;refine q7 O3 ?_;refine q30 ?_;have ⟨_,k,h⟩:=bE h;refine q9 k ?_;refine q55 (.ip (aG.cells D) (0+2)) zRJ ?_;refine q62 (.d (di D.aO)) O3 ?_;refine z00 (.d (db (decide (D.aO=0)))) ?_;refine Q47 ?_;refine zZ h (λh=>?_) (λh=>?_);refine Q3 ?_;exact er h;refine Q0 ?_;refine q2 zZM ?_;refine q7 O4 ?_;have ⟨_,k,h⟩:=bE h;refine q9 k ?_;refine q55 (.ip (aG.cells D) (0+0)) z4G ?_;refine q62 (.d (di D.aT)) O3 ?_;refine z00 (.d (db (decide (D.aT=0)))) ?_;refine Q47 ?_;refine zZ h (λh=>?_) (λh=>?_);refine Q3 ?_;exact er h;refine Q58 ?_;exact er h
 rintro T rfl
 replace h:=eR h;exact es h
theorem zMO {D a1 r} (h:u0 D a1=some r):zE Tryz.prog 150 [(bB.dv D),(di a1)] [(di r)]:=by
 refine co Tryz.func150 ?_;intro _ _ _ _;unfold u0 at h;refine Q0 ?_;refine yGF ?_;refine Q48 ?_;refine q2 zJX ?_;refine q7 O37 ?_;refine q4 yF ?_;refine q5 ?_;have ⟨_,k,h⟩:=bE h;refine q9 k ?_;refine q24 (.ip (bB.cells D) (0+0)) zJX ?_;refine q26 (.d (zI eI D.aY)) O37 ?_;refine q83 (.d (di (D.aY.length:Int))) yF ?_;refine q59 (.d (db (decide (8<(D.aY.length:Int))))) ?_;refine q22 ?_;have ⟨_,k,h⟩:=bE h;refine q9 k ?_;refine q24 (.ip (bB.cells D) (0+1)) zOE ?_;refine q26 (.d (zI aG D.aV)) O79 ?_;refine q83 (.d (di (D.aV.length:Int))) S79 ?_;refine q59 (.d (db (decide (16<(D.aV.length:Int))))) ?_;refine Q45 ?_;refine zZ h (λh=>?_) (λh=>?_);refine Q3 ?_;exact er h;refine Q74 ?_;refine q2 zJX ?_;refine q7 O37 ?_;refine Q63 ?_;have ⟨T,k,h⟩:=bE h;refine zQ T (.exit 0) (λT=>⟨[(1,.d (di a1)),(2,.d (.pt (bB.cells D)))],[]⟩) .ret (λT=>⟨[(4,.d (di T))],[]⟩) ?_ ?_ ?_;refine zD (λx=>⟨[(1,.d (di a1)),(2,.d (.pt (bB.cells D))),(29,.d (zI eI D.aY)),(30,.d (di (D.aY.length:Int))),(31,.d (di x))],[]⟩) k wc ?_
 rintro ad aa H
 replace H:j6 D ad=some aa:=H;unfold j6 at H;refine Q18 ?_;refine zZ H (λH=>?_) (λH=>?_);refine Q32 ?_;have ⟨_,k,H⟩:=bE H;refine q11 yF k ?_;refine q36 O3 k ?_;refine Q15 ?_;have ⟨_,k,H⟩:=bE H;refine q6 (zD6 k) ?_;refine Q36 ?_;refine zZ H (λH=>?_) (λH=>?_);refine Q23 ?_;cases H;intro q;cases q;exact⟨rfl,wc⟩;refine Q41 ?_;exact ew H;refine zG ?_;cases H;intro q;cases q;exact⟨rfl,wc⟩
 rintro T rfl
 replace h:=eL h;refine Q31 ?_;refine q2 zOE ?_;refine q7 O79 ?_;refine q4 S79 ?_;refine Q24 ?_;have ⟨Y,k,h⟩:=bE h;refine zQ Y (.exit 2) (λY=>⟨[(1,.d (di a1)),(2,.d (.pt (bB.cells D)))],[]⟩) .ret (λY=>⟨[(4,.d (di Y))],[]⟩) ?_ ?_ ?_;refine zD (λx=>⟨[(1,.d (di a1)),(2,.d (.pt (bB.cells D))),(40,.d (zI aG D.aV)),(41,.d (di (D.aV.length:Int))),(42,.d (di x))],[]⟩) k wc ?_
 rintro ag ab K
 replace K:wB D ag=some ab:=K;unfold wB at K;refine Q18 ?_;refine zZ K (λK=>?_) (λK=>?_);refine Q32 ?_;have ⟨_,k,K⟩:=bE K;refine q11 S79 k ?_;refine yGG G82 k ?_;refine yKN ?_;refine q18 G82 ?_;refine zN ?_;refine zO (zT (t:=8) lr rfl rfl rfl) ?_;refine Q0 ?_;refine q12 G82 ?_;have ⟨_,k,K⟩:=bE K;refine q6 (zUI k) ?_;refine Q67 ?_;refine zZ K (λK=>?_) (λK=>?_);refine z4Z ?_;cases K;intro q;cases q;exact⟨rfl,wc⟩;refine Q41 ?_;exact ew K;refine zG ?_;cases K;intro q;cases q;exact⟨rfl,wc⟩
 rintro Y rfl
 replace h:=eL h;refine Q31 ?_;refine q2 zOE ?_;refine q7 O79 ?_;refine q4 S79 ?_;refine Q24 ?_;have ⟨Z,k,h⟩:=bE h;refine zQ Z (.exit 4) (λZ=>⟨[],[]⟩) .ret (λZ=>⟨[(4,.d (di Z))],[]⟩) ?_ ?_ ?_;refine zD (λx=>⟨[(1,.d (di a1)),(53,.d (zI aG D.aV)),(54,.d (di (D.aV.length:Int))),(55,.d (di x))],[]⟩) k wc ?_
 rintro ah ac O
 replace O:j7 D a1 ah=some ac:=O;unfold j7 at O;refine Q18 ?_;refine zZ O (λO=>?_) (λO=>?_);refine Q32 ?_;have ⟨_,k,O⟩:=bE O;refine q11 S79 k ?_;refine yGG G82 k ?_;refine yKN ?_;refine q18 G82 ?_;refine zN ?_;refine zO (zT (t:=11) lr rfl rfl rfl) ?_;refine Q0 ?_;refine Q96 ?_;refine q0 ?_;refine Q86 ?_;refine zZ O (λO=>?_) (λO=>?_);refine Q23 ?_;cases O;intro q;cases q;exact⟨rfl,wc⟩;refine Q41 ?_;exact ew O;refine zG ?_;cases O;intro q;cases q;exact⟨rfl,wc⟩
 rintro Z rfl
 replace h:=eL h;refine Q3 ?_;exact er h
 rintro Z rfl
 replace h:=eR h;exact es h
 rintro Y rfl
 replace h:=eR h;exact es h
 rintro T rfl
 replace h:=eR h;exact es h
theorem vS {D a1 r} (h:xL D a1=some r):zE Tryz.prog 71 [(di D),(di a1)] [(di r)]:=by refine co Tryz.func71 ?_;intro _ _ _ _;unfold xL at h;refine Q53 ?_;have ⟨_,k,h⟩:=bE h;refine q6 (zM7 k) ?_;refine Q15 ?_;have ⟨_,k,h⟩:=bE h;refine q6 (zM7 k) ?_;refine Q1 ?_;refine z76 ?_;refine zZ h (λh=>?_) (λh=>?_);refine z76 ?_;refine zZ h (λh=>?_) (λh=>?_);refine Q3 ?_;exact er h;refine Q58 ?_;exact er h;refine Q70 ?_;refine zN ?_;refine zZ h (λh=>?_) (λh=>?_);refine Q3 ?_;exact er h;refine zP<|Q75 ?_;refine zZ h (λh=>?_) (λh=>?_);refine Q3 ?_;exact er h;refine zP<|Q14 ?_;refine Q59 ?_;refine zZ h (λh=>?_) (λh=>?_);refine Q3 ?_;exact er h;refine Q58 ?_;exact er h
theorem zPI {H a1 r} (h:zB4 H a1=some r):zE Tryz.prog 38 [(zI eI H),(zI eI a1)] [(di r)]:=by
 refine co Tryz.func38 ?_;intro _ _ _ _;unfold zB4 at h;refine Q43 ?_;refine q4 yF ?_;refine q0 ?_;refine q4 yF ?_;refine yGH ?_;refine Q24 ?_;have ⟨K,k,h⟩:=bE h;refine zQ K (.exit 0) (λK=>⟨[(0,.d (zI eI H)),(1,.d (zI eI a1))],[]⟩) .ret (λK=>⟨[(4,.d (di K))],[]⟩) ?_ ?_ ?_;refine zD (λx=>⟨[(0,.d (zI eI H)),(1,.d (zI eI a1)),(10,.d (di (min (H.length:Int) (a1.length:Int)))),(11,.d (di x))],[]⟩) k wc ?_
 rintro T O D
 replace D:vF H a1 T=some O:=D;unfold vF at D;refine Q18 ?_;refine zZ D (λD=>?_) (λD=>?_);refine Q64 ?_;refine Q16 ?_;refine zW MX rfl ?_;refine Q25 ?_;have ⟨_,k,D⟩:=bE D;refine q29 yF k ?_;refine q73 O3 k ?_;refine Q25 ?_;have ⟨_,k,D⟩:=bE D;refine q29 yF k ?_;refine q73 O3 k ?_;refine yK0 ?_;refine wF ?_;refine zZ D (λD=>?_) (λD=>?_);refine yV ?_;refine zW MX rfl ?_;refine Q25 ?_;have ⟨_,k,D⟩:=bE D;refine q29 yF k ?_;refine q73 O3 k ?_;refine Q25 ?_;have ⟨_,k,D⟩:=bE D;refine q29 yF k ?_;refine q73 O3 k ?_;have ⟨_,k,D⟩:=bE D;refine q20 (vS k) ?_;refine Q44 ?_;refine yE ?_;cases D;intro q;cases q;exact⟨rfl,wc⟩;refine Q41 ?_;exact ew D;refine zG ?_;cases D;intro q;cases q;exact⟨rfl,wc⟩
 rintro K rfl
 replace h:=eL h;refine Q2 ?_;refine q4 yF ?_;refine q0 ?_;refine q4 yF ?_;have ⟨_,k,h⟩:=bE h;refine q6 (vS k) ?_;refine Q1 ?_;exact er h
 rintro K rfl
 replace h:=eR h;exact es h
theorem zRN {H r} (h:zBS H=some r):zE Tryz.prog 107 [(aH.dv H)] [(di r)]:=by
 refine co Tryz.func107 ?_;intro _ _ _ _;unfold zBS at h;refine zXU ?_;refine Q48 ?_;refine q2 zPW ?_;refine z74 ?_;have ⟨_,k,h⟩:=bE h;refine q9 k ?_;refine q24 (.ip (aH.cells H) (0+2)) zPW ?_;refine q26 (.d (di H.bL)) O3 ?_;refine q59 (.d (db (decide (65502<H.bL)))) ?_;refine q22 ?_;have ⟨_,k,h⟩:=bE h;refine q9 k ?_;refine q24 (.ip (aH.cells H) (0+3)) z9Q ?_;refine q26 (.d (di H.bF)) O3 ?_;have ⟨ac,Z,h⟩:=bE h;refine sqf (.d (db ac)) rfl (λhb=>by subst hb;exact jP lr rfl (zIG Z)) ?_
 refine z4I (.d (db (!ac))) ?_;refine q22 ?_;have ⟨_,k,h⟩:=bE h;refine q9 k ?_;refine q24 (.ip (aH.cells H) (0+4)) z9R ?_;refine q26 (.d (di H.bK)) O3 ?_;have ⟨ad,aa,h⟩:=bE h;refine sqf (.d (db ad)) rfl (λhb=>by subst hb;exact jP lr rfl (zIG aa)) ?_
 refine z4I (.d (db (!ad))) ?_;refine Q45 ?_;refine zZ h (λh=>?_) (λh=>?_);refine Q3 ?_;exact er h;refine Q74 ?_;refine q12 G32 ?_;have ⟨_,k,h⟩:=bE h;refine q6 (zLX k) ?_;refine Q67 ?_;refine zZ h (λh=>?_) (λh=>?_);refine Q40 ?_;exact er h;refine Q74 ?_;refine z06 ?_;refine q4 S29 ?_;refine Q24 ?_;have ⟨Y,k,h⟩:=bE h;refine zQ Y (.exit 0) (λY=>⟨[],[]⟩) .ret (λY=>⟨[(2,.d (di Y))],[]⟩) ?_ ?_ ?_;refine zD (λx=>⟨[(1,.d (.pt (aH.cells H))),(33,.d (zI bB H.aB)),(34,.d (di (H.aB.length:Int))),(35,.d (di x))],[]⟩) k wc ?_
 rintro K ai D
 replace D:uI H K=some ai:=D;unfold uI at D;refine Q18 ?_;refine zZ D (λD=>?_) (λD=>?_);refine Q64 ?_;have ⟨T,k,D⟩:=bE D;refine q11 S29 k ?_;refine jW (uC (en:=bB) (l:=H.aB) (i:=K) (v:=T) (off:=0) lr G91 rfl k rfl rfl (by decide)) ?_;refine yCP ?_;refine q1 ?_;refine q18 G91 ?_;refine zN ?_;refine zO (zT (t:=5) lr rfl rfl rfl) ?_;refine Q31 ?_;refine q12 G91 ?_;refine q2 zPW ?_;refine q7 O3 ?_;have ⟨_,k,D⟩:=bE D;refine q6 (zMO k) ?_;refine Q67 ?_;refine zZ D (λD=>?_) (λD=>?_);refine z4Z ?_;cases D;intro q;cases q;exact⟨rfl,wc⟩;refine Q5 ?_;refine zW MX rfl ?_;refine q8 ?_;refine z7P ?_;have ⟨_,k,D⟩:=bE D;refine q47 k ?_;refine z4J (.ip (aH.cells H) (0+0)) z4D ?_;refine z4K (.d (zI bB H.aB)) O29 ?_;refine q48 (.d (di K)) ?_;refine yCS (.d (di (wi (K-1)))) ?_;have ⟨ag,O,D⟩:=bE D;refine dat (.ip (bB.all H.aB) ((wi (K-1)).toNat*bB.size)) rfl (λhb=>by subst hb;exact kX (en:=bB) lr S29 rfl rfl O) ?_
 refine z4L (.ip (bB.all H.aB) ((wi (K-1)).toNat*bB.size+0)) zJX ?_;refine dat (.d (zI eI ag.aY)) rfl (λhb=>by subst hb;exact yA (en:=bB) (l:=H.aB) (i:=(wi (K-1))) (v:=ag) (off:=0) lr O37 rfl O rfl) ?_
 refine z4J (.ip (bB.cells T) (0+0)) zJX ?_;refine z4K (.d (zI eI T.aY)) O37 ?_;have ⟨ah,ab,D⟩:=bE D;refine dat (.d (di ah)) rfl (λhb=>by subst hb;exact jP lr rfl (zPI ab)) ?_
 refine dat (.d (db (decide (0<=ah)))) rfl (λhb=>by subst hb;exact zNR lr rfl rfl) ?_
 refine Q95 ?_;refine zZ D (λD=>?_) (λD=>?_);refine Q23 ?_;cases D;intro q;cases q;exact⟨rfl,wc⟩;refine Q41 ?_;exact ew D;refine zG ?_;cases D;intro q;cases q;exact⟨rfl,wc⟩
 rintro Y rfl
 replace h:=eL h;refine Q3 ?_;exact er h
 rintro Y rfl
 replace h:=eR h;exact es h
theorem zK3 {k r} (h:zDO k=some r):zE Tryz.prog 108 [(zI eI k)] [(cL.dv r)]:=by refine co Tryz.func108 ?_;intro _ _ _ _;unfold zDO at h;refine Q0 ?_;refine yH rfl (kK (zs:=[(.int IntKind.i64 (0)),(.int IntKind.i64 (0)),(.int IntKind.i64 (0)),(.int IntKind.i64 (0)),(.int IntKind.i64 (0)),(.int IntKind.i64 (0)),(.int IntKind.i64 (0)),(.int IntKind.i64 (0)),(.int IntKind.i64 (0))]) lr (by kernel_rfl) rfl rfl) ?_;refine zN<|Q2 ?_;refine q4 yF ?_;refine q89 yKI ?_;refine yH rfl (kK (zs:=[(.int IntKind.i64 (0)),(.int IntKind.i64 (0)),(.int IntKind.i64 (0)),(.int IntKind.i64 (0)),(.int IntKind.i64 (0)),(.int IntKind.i64 (0)),(.int IntKind.i64 (0)),(.int IntKind.i64 (0)),(.int IntKind.i64 (0))]) lr (by kernel_rfl) rfl rfl) ?_;refine q18 yKJ ?_;refine Q54 ?_;refine jW (z3V 1 lr yKI rfl (by decide)) ?_;refine q0 ?_;refine yH rfl (yJ9 (l:=k) lr yF rfl rfl rfl rfl) ?_;refine Q54 ?_;refine jW ((k7 lr yKJ rfl rfl rfl rfl).data rfl) ?_;refine q18 yKJ ?_;refine zN ?_;cases h;refine yE ?_;exact wW rfl rfl yKJ rfl
theorem zHH {a0} {r:bI} (h:zEF a0=some r):GC Tryz.prog 86 [.d (aH.dv a0)] [] [] [.ptr 13 0] [(13,.box 139 [.d (zI bB r.c.aB),.d (zI bA r.c.aF),.d (di r.c.bL),.d (di r.c.bF),.d (di r.c.bK),.row 11,.d (di r.bV),.d (zI aR r.bR),.d (di r.top)]),(11,.map (wK zG3 (eL aG) r.entries))]:=by
 refine zD4 Tryz.func86 (by kernel_rfl) rfl lr lr λw0 I0 ak p0=>?_;unfold zEF at h;refine Q0 ?_;refine q97 ?_;refine Q48 ?_;refine jW ((k7 lr G32 rfl rfl rfl rfl).data rfl) ?_;have ⟨_,ac,h⟩:=bE h;refine q6 (zRN ac) ?_;refine Q37 ?_;have ⟨D,K,h⟩:=bE h;refine tl .normal ⟨[(1,.ptr 1 0)],[(1,.box 32 [.d (zI bB D.1),.d (zI bA D.2.1),.d (di D.2.2.1),.d (di D.2.2.2.1),.d (di D.2.2.2.2)])]⟩ ?_ ?_;refine zZ K (λK=>?_) (λK=>?_);refine x9 ?_;refine jW ((zFJ lr B32 rfl rfl).nils (bs:=aH.cells ({aB:=[],aF:=[],bL:=64448,bF:=32,bK:=2}:Collation)) (nlN (nlN (nlE (nlE (nlE nl0)))))) ?_;refine q18 G32 ?_;refine zN ?_;exact eo K;refine zP ?_;exact eo K;refine Q0 ?_;refine jW ((k7 lr G32 rfl rfl rfl rfl).data rfl) ?_;refine z7O ?_;refine jW (yFM [(0,.tmp 10)] 1 (.tmp 11) lr yTA rfl rfl rfl rfl rfl rfl) ?_;refine yH rfl (zV7 lr rfl rfl) ?_;refine yGI ?_;refine z07 ?_;refine q52 z4D ?_;refine q27 O29 ?_;refine q4 S29 ?_;refine Q24 ?_;have ⟨y2,ad,h⟩:=bE h;refine tl (.exit 0) ⟨[(3,.ptr 13 0)],[(11,.map (wK zG3 (eL aG) y2.1)),(13,.box 139 [.d (zI bB (({aB:=D.1,aF:=D.2.1,bL:=D.2.2.1,bF:=D.2.2.2.1,bK:=D.2.2.2.2}:Collation).aB)),.d (zI bA (({aB:=D.1,aF:=D.2.1,bL:=D.2.2.1,bF:=D.2.2.2.1,bK:=D.2.2.2.2}:Collation).aF)),.d (di (({aB:=D.1,aF:=D.2.1,bL:=D.2.2.1,bF:=D.2.2.2.1,bK:=D.2.2.2.2}:Collation).bL)),.d (di (({aB:=D.1,aF:=D.2.1,bL:=D.2.2.1,bF:=D.2.2.2.1,bK:=D.2.2.2.2}:Collation).bF)),.d (di (({aB:=D.1,aF:=D.2.1,bL:=D.2.2.1,bF:=D.2.2.2.1,bK:=D.2.2.2.2}:Collation).bK)),.row 11,.d (di y2.2),.d (.v (.slice none 0 0)),.d (di 0)])]⟩ ?_ ?_;refine zD (λx=>⟨[(3,.ptr 13 0),(15,.d (zI bB D.1)),(16,.d (di (D.1.length:Int))),(17,.d (di x.1))],[(11,.map (wK zG3 (eL aG) x.2.1)),(13,.box 139 [.d (zI bB (({aB:=D.1,aF:=D.2.1,bL:=D.2.2.1,bF:=D.2.2.2.1,bK:=D.2.2.2.2}:Collation).aB)),.d (zI bA (({aB:=D.1,aF:=D.2.1,bL:=D.2.2.1,bF:=D.2.2.2.1,bK:=D.2.2.2.2}:Collation).aF)),.d (di (({aB:=D.1,aF:=D.2.1,bL:=D.2.2.1,bF:=D.2.2.2.1,bK:=D.2.2.2.2}:Collation).bL)),.d (di (({aB:=D.1,aF:=D.2.1,bL:=D.2.2.1,bF:=D.2.2.2.1,bK:=D.2.2.2.2}:Collation).bF)),.d (di (({aB:=D.1,aF:=D.2.1,bL:=D.2.2.1,bF:=D.2.2.2.1,bK:=D.2.2.2.2}:Collation).bK)),.row 11,.d (di x.2.2),.d (.v (.slice none 0 0)),.d (di 0)])]⟩) ad wc ?_
 rintro⟨ab,Z,T⟩ ag H
 replace H:wS D ab Z T=some ag:=H;unfold wS at H;refine Q18 ?_;refine zZ H (λH=>?_) (λH=>?_);refine Q32 ?_;have ⟨aa,O,H⟩:=bE H;refine q11 S29 O ?_;refine jW (uC (en:=bB) (l:=D.1) (i:=ab) (v:=aa) (off:=0) lr G91 rfl O rfl rfl (by decide)) ?_;refine yCP ?_;refine q18 G91 ?_;refine zN ?_;refine zO (zT (t:=5) lr rfl rfl rfl) ?_;refine yV ?_;refine zF3 9 MX rfl ?_;refine yGJ ?_;refine yGK ?_;refine z4M yF1 ?_;refine yK1 yRH ?_;refine q13 zJX ?_;refine q19 O37 ?_;have ⟨ah,Y,H⟩:=bE H;refine q20 (zK3 Y) ?_;refine q13 zOE ?_;refine q19 O79 ?_;refine wF ?_;refine yH rfl (zRD (kv:=zG3) (ev:=(eL aG)) (mp:=Z) (k:=ah) (v:=aa.aV) yRD yRK rfl rfl rfl (yJ4 rfl) rfl rfl rfl) ?_;refine zN ?_;refine zF3 11 MX rfl ?_;refine yGJ ?_;refine yGJ ?_;refine yGK ?_;refine z4M z0Z ?_;refine yK1 O3 ?_;refine q13 zJX ?_;refine q19 O37 ?_;refine yCT yF ?_;refine daa (z9B lr rfl rfl) ?_;refine yGK ?_;refine z4M z0Z ?_;refine wF<|z40 ?_;refine Q20 ?_;exact ew H;exact zG (ex H);refine Q0 ?_;refine z7Q ?_;refine yGI ?_;refine zN ?_;refine zO (zXM (bid:=13) (off:=7) aR.size rfl rfl) ?_;cases h;refine yE ?_;exact⟨⟨_,_,rfl,rfl,rfl⟩,⟨rfl,rfl,trivial⟩⟩
set_option maxHeartbeats 8000000 in
theorem zLY {a0 r} (h:zCS a0=some r):zE Tryz.prog 151 [(zI aR a0)] [(di r)]:=by
 refine co Tryz.func151 ?_;intro _ _ _ _;unfold zCS at h;refine Q43 ?_;refine q4 S22 ?_;refine Q24 ?_;have ⟨y1,k,h⟩:=bE h;refine zQ y1 (.exit 0) (λy1=>⟨[(0,.d (zI aR a0))],[]⟩) .ret (λy1=>⟨[(2,.d (di y1))],[]⟩) ?_ ?_ ?_;refine zD (λx=>⟨[(0,.d (zI aR a0)),(12,.d (zI aR a0)),(13,.d (di (a0.length:Int))),(14,.d (di x))],[]⟩) k wc ?_
 rintro aw ap O
 replace O:zAD a0 aw=some ap:=O;unfold zAD at O;refine Q18 ?_;refine zZ O (λO=>?_) (λO=>?_);refine Q32 ?_;have ⟨H,k,O⟩:=bE O;refine q11 S22 k ?_;refine yK2 uY k ?_;refine yCU ?_;refine q18 uY ?_;refine zN ?_;refine zO (zT (t:=4) lr rfl rfl rfl) ?_;refine Q0 ?_;refine q2 zHF ?_;refine z74 ?_;have ⟨_,k,O⟩:=bE O;refine q9 k ?_;refine q24 (.ip (aR.cells H) (0+1)) zHG ?_;refine q26 (.d (di H.Hi)) O3 ?_;refine q59 (.d (db (decide (1114111<H.Hi)))) ?_;refine q22 ?_;have ⟨_,k,O⟩:=bE O;refine q9 k ?_;refine q24 (.ip (aR.cells H) (0+0)) zHF ?_;refine q26 (.d (di H.Lo)) O3 ?_;refine q24 (.ip (aR.cells H) (0+1)) zHG ?_;refine q26 (.d (di H.Hi)) O3 ?_;refine q59 (.d (db (decide (H.Hi<H.Lo)))) ?_;refine q22 ?_;have ⟨_,k,O⟩:=bE O;refine q9 k ?_;refine q24 (.ip (aR.cells H) (0+2)) zIU ?_;refine q26 (.d (di H.Value)) O3 ?_;refine yO3 (.d (db (decide (H.Value<1)))) ?_;refine q22 ?_;have ⟨_,k,O⟩:=bE O;refine q9 k ?_;refine q24 (.ip (aR.cells H) (0+2)) zIU ?_;refine q26 (.d (di H.Value)) O3 ?_;refine q59 (.d (db (decide (254<H.Value)))) ?_;refine Q45 ?_;refine zZ O (λO=>?_) (λO=>?_);refine Q23 ?_;cases O;intro q;cases q;exact⟨rfl,wc⟩;refine Q41 ?_;exact ew O;refine zG ?_;cases O;intro q;cases q;exact⟨rfl,wc⟩
 rintro y1 rfl
 replace h:=eL h;refine Q34 ?_;have ⟨y2,k,h⟩:=bE h;refine zQ y2 (.exit 2) (λy2=>⟨[(0,.d (zI aR a0))],[]⟩) .ret (λy2=>⟨[(2,.d (di y2))],[]⟩) ?_ ?_ ?_;refine zD (λx=>⟨[(0,.d (zI aR a0)),(5,.d (di x))],[]⟩) k wc ?_
 rintro v5 aq Y
 replace Y:zAE a0 v5=some aq:=Y;unfold zAE at Y;refine Q14 ?_;refine q4 S22 ?_;refine Q6 ?_;refine zZ Y (λY=>?_) (λY=>?_);refine Q76 ?_;have ⟨K,k,Y⟩:=bE Y;have ⟨T,D,Y⟩:=bE Y;refine tl .normal ⟨[(0,.d (zI aR a0)),(5,.d (di v5)),(6,.ptr 6 0),(7,.ptr 7 0)],[(6,.box 144 [.d (di K.Lo),.d (di K.Hi),.d (di K.Value)]),(7,.box 144 [.d (di T.Lo),.d (di T.Hi),.d (di T.Value)])]⟩ ?_ ?_;refine zF7 MX ?_;refine z77 ?_;refine zMK (i:=2) rfl lr rfl rfl rfl rfl rfl rfl ?_;refine zZJ (en:=aR) (i:=3) rfl lr S22 rfl rfl k rfl rfl rfl rfl ?_;refine xm 5 ?_;refine xm 6 ?_;refine zZJ (en:=aR) (i:=7) rfl lr S22 rfl rfl D rfl rfl rfl rfl ?_;refine xn [4,8,9,10] ?_;refine q56 uY k ?_ ?_;refine xn [8,9,10] ?_;refine q56 uY D ?_ ?_;refine xn [9,10] ?_;refine yGL ?_ ?_;refine xn [10] ?_;refine Q88 ?_;exact ae;refine q50 ?_;refine xn [9] ?_;refine Q88 ?_;exact ae;refine yGL ?_ ?_;refine xn [8,10] ?_;refine q56 uY D ?_ ?_;refine xn [10] ?_;refine Q88 ?_;exact ae;refine q50 ?_;refine xn [8,11] ?_;refine q56 uY D ?_ ?_;refine Q50 ?_;exact ae;refine q14 uY ?_;refine xn [8] ?_;refine q77 uY D ?_;refine Q42 ?_;exact ae;refine q50 ?_;refine xn [8,9] ?_;refine q56 uY D ?_ ?_;refine xn [9] ?_;refine Q88 ?_;exact ae;refine q50 ?_;refine xn [8,11] ?_;refine q56 uY D ?_ ?_;refine Q50 ?_;exact ae;refine q14 uY ?_;refine xn [8] ?_;refine q77 uY D ?_;refine Q42 ?_;exact ae;refine q56 uY D ?_ ?_;refine xn [4,9,10] ?_;refine q56 uY k ?_ ?_;refine xn [9,10] ?_;refine yGL ?_ ?_;refine xn [10] ?_;refine Q88 ?_;exact ae;refine q50 ?_;refine xn [9] ?_;refine Q88 ?_;exact ae;refine yGL ?_ ?_;refine xn [4,10] ?_;refine q56 uY k ?_ ?_;refine xn [10] ?_;refine Q88 ?_;exact ae;refine q50 ?_;refine xn [4] ?_;refine q77 uY k ?_;refine Q50 ?_;exact ae;refine q50 ?_;refine xn [4,9] ?_;refine q56 uY k ?_ ?_;refine xn [9] ?_;refine Q88 ?_;exact ae;refine q50 ?_;refine xn [4] ?_;refine q77 uY k ?_;refine Q50 ?_;exact ae;refine yGL ?_ ?_;refine xn [4,8,10] ?_;refine q56 uY k ?_ ?_;refine xn [8,10] ?_;refine q56 uY D ?_ ?_;refine xn [10] ?_;refine Q88 ?_;exact ae;refine q50 ?_;refine xn [8,11] ?_;refine q56 uY D ?_ ?_;refine Q50 ?_;exact ae;refine q14 uY ?_;refine xn [8] ?_;refine q77 uY D ?_;refine Q42 ?_;exact ae;refine q56 uY D ?_ ?_;refine xn [4,10] ?_;refine q56 uY k ?_ ?_;refine xn [10] ?_;refine Q88 ?_;exact ae;refine q50 ?_;refine xn [4] ?_;refine q77 uY k ?_;refine Q50 ?_;exact ae;refine q50 ?_;refine xn [4,8] ?_;refine q56 uY k ?_ ?_;refine xn [8,11] ?_;refine q56 uY D ?_ ?_;refine Q50 ?_;exact ae;refine q14 uY ?_;refine xn [8] ?_;refine q77 uY D ?_;refine Q42 ?_;exact ae;refine q77 uY D ?_;refine xn [4] ?_;refine q77 uY k ?_;refine Q50 ?_;exact ae;refine q50 ?_;refine xn [4,8,9] ?_;refine q56 uY k ?_ ?_;refine xn [8,9] ?_;refine q56 uY D ?_ ?_;refine xn [9] ?_;refine Q88 ?_;exact ae;refine q50 ?_;refine xn [8,11] ?_;refine q56 uY D ?_ ?_;refine Q50 ?_;exact ae;refine q14 uY ?_;refine xn [8] ?_;refine q77 uY D ?_;refine Q42 ?_;exact ae;refine q56 uY D ?_ ?_;refine xn [4,9] ?_;refine q56 uY k ?_ ?_;refine xn [9] ?_;refine Q88 ?_;exact ae;refine q50 ?_;refine xn [4] ?_;refine q77 uY k ?_;refine Q50 ?_;exact ae;refine q50 ?_;refine xn [4,8] ?_;refine q56 uY k ?_ ?_;refine xn [8,11] ?_;refine q56 uY D ?_ ?_;refine Q50 ?_;exact ae;refine q14 uY ?_;refine xn [8] ?_;refine q77 uY D ?_;refine Q42 ?_;exact ae;refine q77 uY D ?_;refine xn [4] ?_;refine q77 uY k ?_;refine Q50 ?_;exact ae;refine zO (zT (t:=6) lr rfl rfl rfl) ?_;refine zO (zT (t:=7) lr rfl rfl rfl) ?_;refine Q0 ?_;refine q2 zHF ?_;refine q7 O3 ?_;refine q2 zHG ?_;refine q7 O3 ?_;refine q67 ?_;have ⟨_,k,Y⟩:=bE Y;refine q9 k ?_;refine q24 (.ip (aR.cells T) (0+0)) zHF ?_;refine q26 (.d (di T.Lo)) O3 ?_;refine q24 (.ip (aR.cells K) (0+1)) zHG ?_;refine q26 (.d (di K.Hi)) O3 ?_;refine sqf (.d (di (wi (K.Hi+1)))) rfl (λhb=>by subst hb;exact zZB lr rfl rfl) ?_
 refine z7N (.d (db (decide (T.Lo=(wi (K.Hi+1)))))) ?_;have ⟨ad,ao,Y⟩:=bE Y;refine sqf (.d (db ad)) rfl (λhb=>by subst hb;exact(kF lr rfl).bool (oi ao)) ?_
 refine wI (x:= .ip (aR.cells T) (0+2)) rfl rfl rfl lr lr rfl (λhb=>by obtain⟨hb,Z⟩:=zS hb;obtain rfl:=gF hb;obtain rfl:ad=true:=Z;exact uH lr zIU rfl) ?_
 refine wI (x:= .d (di T.Value)) rfl rfl rfl lr lr rfl (λhb=>by obtain⟨hb,Z⟩:=zS hb;obtain rfl:=gF hb;obtain rfl:ad=true:=Z;exact vC lr O3 rfl rfl) ?_
 refine wI (x:= .ip (aR.cells K) (0+2)) rfl rfl rfl lr lr rfl (λhb=>by obtain⟨hb,Z⟩:=zS hb;obtain rfl:=gF hb;obtain rfl:ad=true:=Z;exact uH lr zIU rfl) ?_
 refine wI (x:= .d (di K.Value)) rfl rfl rfl lr lr rfl (λhb=>by obtain⟨hb,Z⟩:=zS hb;obtain rfl:=gF hb;obtain rfl:ad=true:=Z;exact vC lr O3 rfl rfl) ?_
 refine wI (x:= .d (db (decide (T.Value=K.Value)))) rfl rfl rfl lr lr rfl (λhb=>by obtain⟨hb,Z⟩:=zS hb;obtain rfl:=gF hb;obtain rfl:ad=true:=Z;exact zM2 lr rfl rfl) ?_
 refine q96 (.d (db (ad&&(decide (T.Value=K.Value))))) ?_;refine Q45 ?_;refine zZ Y (λY=>?_) (λY=>?_);refine Q23 ?_;cases Y;intro q;cases q;exact⟨rfl,wc⟩;refine Q38 ?_;exact ew Y;refine zG ?_;cases Y;intro q;cases q;exact⟨rfl,wc⟩
 rintro y2 rfl
 replace h:=eL h;refine Q4 ?_;refine q4 S22 ?_;refine Q24 ?_;have ⟨y3,k,h⟩:=bE h;refine zQ y3 (.exit 4) (λy3=>⟨[],[]⟩) .ret (λy3=>⟨[(2,.d (di y3))],[]⟩) ?_ ?_ ?_;refine zD (λx=>⟨[(79,.d (zI aR a0)),(80,.d (di (a0.length:Int))),(81,.d (di x))],[]⟩) k wc ?_
 rintro aj ar p3
 replace p3:zAF a0 aj=some ar:=p3;unfold zAF at p3;refine Q18 ?_;refine zZ p3 (λp3=>?_) (λp3=>?_);refine Q32 ?_;have ⟨ah,k,p3⟩:=bE p3;refine q11 S22 k ?_;refine yK2 uY k ?_;refine yCU ?_;refine q18 uY ?_;refine zN ?_;refine zO (zT (t:=9) lr rfl rfl rfl) ?_;refine Q0 ?_;have ⟨ag,k,p3⟩:=bE p3;refine jW ((yJ3 (zs:=[.int .i64 4352,.int .i64 4370,.int .i64 4449,.int .i64 4469,.int .i64 4520,.int .i64 4546,.int .i64 44032,.int .i64 55203]) lr yTH Z0 rfl rfl).data (b:=cJ.dv ag) (congrArg cJ.dv (oi k))) ?_;refine Q24 ?_;have ⟨y4,k,p3⟩:=bE p3;refine zQ y4 (.exit 6) (λy4=>⟨[(79,.d (zI aR a0)),(80,.d (di (a0.length:Int))),(81,.d (di aj))],[]⟩) .ret (λy4=>⟨[(2,.d (di y4))],[]⟩) ?_ ?_ ?_;refine zD (λx=>⟨[(9,.d (.pt (aR.cells ah))),(79,.d (zI aR a0)),(80,.d (di (a0.length:Int))),(81,.d (di aj)),(85,.d (cJ.dv ag)),(86,.d (di x))],[]⟩) k wc ?_
 rintro ax au p4
 replace p4:wU ag ah ax=some au:=p4;unfold wU at p4;refine Q18 ?_;refine zZ p4 (λp4=>?_) (λp4=>?_);refine Q32 ?_;have ⟨ai,k,p4⟩:=bE p4;refine jW (yB3 (en:=aE) (l:=[ag.x0,ag.x1,ag.x2,ag.x3]) lr yS8 G43 (λ_=>rfl) rfl rfl rfl k) ?_;refine Q68 ?_;refine zO (zT (t:=11) lr rfl rfl rfl) ?_;refine Q0 ?_;refine q2 zHF ?_;refine q7 O3 ?_;refine z4W ?_;refine q67 ?_;have ⟨_,k,p4⟩:=bE p4;refine q9 k ?_;refine q55 (.ip (aE.cells ai) (0+0)) zOD ?_;refine q62 (.d (di ai.Lo)) O3 ?_;refine q55 (.ip (aR.cells ah) (0+1)) zHG ?_;refine q62 (.d (di ah.Hi)) O3 ?_;refine q63 (.d (db (decide (ai.Lo<=ah.Hi)))) ?_;refine Q39 ?_;refine zZ p4 (λp4=>?_) (λp4=>?_);refine Q23 ?_;cases p4;intro q;cases q;exact⟨rfl,wc⟩;refine Q41 ?_;exact ew p4;refine zG ?_;cases p4;intro q;cases q;exact⟨rfl,wc⟩
 rintro y4 rfl
 replace p3:=eL p3;refine Q20 ?_;exact ew p3
 rintro y4 rfl
 replace p3:=eR p3;cases p3;intro q;cases q;exact⟨rfl,wc⟩;refine zG ?_;cases p3;intro q;cases q;exact⟨rfl,wc⟩
 rintro y3 rfl
 replace h:=eL h;refine Q3 ?_;exact er h
 rintro y3 rfl
 replace h:=eR h;exact es h
 rintro y2 rfl
 replace h:=eR h;exact es h
 rintro y1 rfl
 replace h:=eR h;exact es h
theorem zSZ {T r} (h:zEG T=some r):zE Tryz.prog 202 [(ds T)] [(db r)]:=by
 refine co Tryz.func202 ?_;intro _ _ _ _;unfold zEG at h;refine Q43 ?_;refine jW (zQA (a:=T) (b:=[]) lr rfl rfl) ?_;have ⟨_,k,h⟩:=bE h;refine q9 k ?_;refine q42 (.d (ds T)) ?_;refine sqf (.d (di (T.length:Int))) rfl (λhb=>by subst hb;exact zVY (s:=T) lr Tryz.underlying9 rfl) ?_
 refine q59 (.d (db (decide (32<(T.length:Int))))) ?_;refine Q45 ?_;refine zZ h (λh=>?_) (λh=>?_);refine Q3 ?_;exact er h;refine Q70 ?_;refine yKW Tryz.underlying9 ?_;refine Q24 ?_;have ⟨Z,k,h⟩:=bE h;refine zQ Z (.exit 0) (λZ=>⟨[],[]⟩) .ret (λZ=>⟨[(2,.d (db Z))],[]⟩) ?_ ?_ ?_;refine zD (λx=>⟨[(0,.d (ds T)),(14,.d (di (T.length:Int))),(15,.d (di x))],[]⟩) k wc ?_
 rintro ag ad H
 replace H:zAG T ag=some ad:=H;unfold zAG at H;refine Q18 ?_;refine zZ H (λH=>?_) (λH=>?_);refine Q64 ?_;refine Q69 ?_;have ⟨D,k,H⟩:=bE H;refine yKV Tryz.underlying9 k ?_;refine Q15 ?_;refine q39 ?_;have ⟨_,k,H⟩:=bE H;refine q9 k ?_;refine q15 (.d (dby D)) ?_;refine q63 (.d (db (decide (D<=90)))) ?_;refine q17 ?_;have ⟨_,k,H⟩:=bE H;refine q9 k ?_;refine q42 (.d (dby D)) ?_;refine z7M (.d (db (decide (97<=D)))) ?_;have ⟨Y,ab,H⟩:=bE H;refine sqf (.d (db Y)) rfl (λhb=>by subst hb;exact(kF lr rfl).bool (oi ab)) ?_
 refine wI (x:= .d (dby D)) rfl rfl rfl lr lr rfl (λhb=>by obtain⟨hb,K⟩:=zS hb;obtain rfl:=gF hb;obtain rfl:Y=true:=K;exact kF lr rfl) ?_
 refine wI (x:= .d (db (decide (D<=122)))) rfl rfl rfl lr lr rfl (λhb=>by obtain⟨hb,K⟩:=zS hb;obtain rfl:=gF hb;obtain rfl:Y=true:=K;exact zKP lr rfl rfl) ?_
 refine q96 (.d (db (Y&&(decide (D<=122))))) ?_;refine q22 ?_;refine Q15 ?_;refine q28 ?_;have ⟨aa,k,H⟩:=bE H;refine q9 k ?_;refine q15 (.d (dby D)) ?_;refine sqt (.d (db (decide (48<=D)))) rfl (λhb=>by subst hb;exact zNR lr rfl rfl) ?_
 have ⟨O,ac,H⟩:=bE H;refine sqt (.d (db O)) rfl (λhb=>by subst hb;exact(kF lr rfl).bool (oi ac)) ?_
 refine wI (x:= .d (dby D)) rfl rfl rfl lr lr rfl (λhb=>by obtain⟨hb,K⟩:=zS hb;obtain rfl:aa=true:=hb;obtain rfl:O=true:=K;exact kF lr rfl) ?_
 refine wI (x:= .d (db (decide (D<=57)))) rfl rfl rfl lr lr rfl (λhb=>by obtain⟨hb,K⟩:=zS hb;obtain rfl:aa=true:=hb;obtain rfl:O=true:=K;exact zKP lr rfl rfl) ?_
 refine sqt (.d (db (O&&(decide (D<=57))))) rfl (λhb=>by subst hb;exact zGY lr rfl rfl) ?_
 refine q88 (.d (db (!(O&&(decide (D<=57)))))) ?_;refine q17 ?_;have ⟨_,k,H⟩:=bE H;refine q9 k ?_;refine q15 (.d (dby D)) ?_;refine yGM (.d (db (!decide (D=95)))) ?_;refine Q39 ?_;refine zZ H (λH=>?_) (λH=>?_);refine Q23 ?_;cases H;intro q;cases q;exact⟨rfl,wc⟩;refine Q41 ?_;exact ew H;refine zG ?_;cases H;intro q;cases q;exact⟨rfl,wc⟩
 rintro Z rfl
 replace h:=eL h;refine Q3 ?_;exact er h
 rintro Z rfl
 replace h:=eR h;exact es h
theorem zUJ {H r} (h:zE7 H=some r):zE Tryz.prog 185 [(zI aC H)] [(di r)]:=by
 refine co Tryz.func185 ?_;intro _ _ _ _;unfold zE7 at h;refine Q43 ?_;refine z78 ?_;have ⟨y1,k,h⟩:=bE h;refine zQ y1 (.exit 0) (λy1=>⟨[(0,.d (zI aC H))],[]⟩) .ret (λy1=>⟨[(2,.d (di y1))],[]⟩) ?_ ?_ ?_;refine zD (λx=>⟨[(0,.d (zI aC H)),(11,.d (zI aC H)),(12,.d (di (H.length:Int))),(13,.d (di x))],[]⟩) k wc ?_
 rintro Z aj D
 replace D:zA3 H Z=some aj:=D;unfold zA3 at D;refine Q18 ?_;refine zZ D (λD=>?_) (λD=>?_);refine Q32 ?_;have ⟨Y,k,D⟩:=bE D;refine q11 S23 k ?_;refine z01 G60 k ?_;refine z79 ?_;refine zO (zT (t:=4) lr rfl rfl rfl) ?_;refine Q31 ?_;refine z08 ?_;have ⟨_,k,D⟩:=bE D;refine q6 (zD6 k) ?_;refine Q36 ?_;refine zZ D (λD=>?_) (λD=>?_);refine Q23 ?_;cases D;intro q;cases q;exact⟨rfl,wc⟩;refine Q46 ?_;refine q2 zIC ?_;refine q7 O37 ?_;refine Q63 ?_;have ⟨y2,k,D⟩:=bE D;refine zQ y2 (.exit 2) (λy2=>⟨[(0,.d (zI aC H)),(11,.d (zI aC H)),(12,.d (di (H.length:Int))),(13,.d (di Z))],[]⟩) .ret (λy2=>⟨[(2,.d (di y2))],[]⟩) ?_ ?_ ?_;refine zD (λx=>⟨[(0,.d (zI aC H)),(11,.d (zI aC H)),(12,.d (di (H.length:Int))),(13,.d (di Z)),(22,.d (zI eI Y.To)),(23,.d (di (Y.To.length:Int))),(24,.d (di x))],[]⟩) k wc ?_
 rintro an ak O
 replace O:zA2 Y an=some ak:=O;unfold zA2 at O;refine Q18 ?_;refine zZ O (λO=>?_) (λO=>?_);refine Q32 ?_;have ⟨_,k,O⟩:=bE O;refine q11 yF k ?_;refine q36 O3 k ?_;refine Q15 ?_;have ⟨_,k,O⟩:=bE O;refine q6 (zD6 k) ?_;refine Q36 ?_;refine zZ O (λO=>?_) (λO=>?_);refine Q23 ?_;cases O;intro q;cases q;exact⟨rfl,wc⟩;refine Q41 ?_;exact ew O;refine zG ?_;cases O;intro q;cases q;exact⟨rfl,wc⟩
 rintro y2 rfl
 replace D:=eL D;refine Q20 ?_;exact ew D
 rintro y2 rfl
 replace D:=eR D;cases D;intro q;cases q;exact⟨rfl,wc⟩;refine zG ?_;cases D;intro q;cases q;exact⟨rfl,wc⟩
 rintro y1 rfl
 replace h:=eL h;refine Q4 ?_;refine z78 ?_;have ⟨y3,k,h⟩:=bE h;refine zQ y3 (.exit 4) (λy3=>⟨[(0,.d (zI aC H))],[]⟩) .ret (λy3=>⟨[(2,.d (di y3))],[]⟩) ?_ ?_ ?_;refine zD (λx=>⟨[(0,.d (zI aC H)),(33,.d (zI aC H)),(34,.d (di (H.length:Int))),(35,.d (di x))],[]⟩) k wc ?_
 rintro ao al T
 replace T:zA4 H ao=some al:=T;unfold zA4 at T;refine Q18 ?_;refine zZ T (λT=>?_) (λT=>?_);refine Q32 ?_;have ⟨_,k,T⟩:=bE T;refine q11 S23 k ?_;refine z01 G60 k ?_;refine z79 ?_;refine zO (zT (t:=8) lr rfl rfl rfl) ?_;refine Q0 ?_;refine q2 zIC ?_;refine q7 O37 ?_;refine q4 yF ?_;refine Q59 ?_;refine zZ T (λT=>?_) (λT=>?_);refine Q23 ?_;cases T;intro q;cases q;exact⟨rfl,wc⟩;refine Q41 ?_;exact ew T;refine zG ?_;cases T;intro q;cases q;exact⟨rfl,wc⟩
 rintro y3 rfl
 replace h:=eL h;refine Q4 ?_;refine z78 ?_;have ⟨y4,k,h⟩:=bE h;refine zQ y4 (.exit 6) (λy4=>⟨[],[]⟩) .ret (λy4=>⟨[(2,.d (di y4))],[]⟩) ?_ ?_ ?_;refine zD (λx=>⟨[(44,.d (zI aC H)),(45,.d (di (H.length:Int))),(46,.d (di x))],[]⟩) k wc ?_
 rintro ap am K
 replace K:zA5 H ap=some am:=K;unfold zA5 at K;refine Q18 ?_;refine zZ K (λK=>?_) (λK=>?_);refine Q32 ?_;have ⟨ah,k,K⟩:=bE K;refine q11 S23 k ?_;refine z01 G60 k ?_;refine z79 ?_;refine zO (zT (t:=10) lr rfl rfl rfl) ?_;refine Q0 ?_;refine q2 zFW ?_;refine q7 O9 ?_;refine yCQ ?_;have ⟨_,k,K⟩:=bE K;refine q9 k ?_;refine q55 (.ip (aC.cells ah) (0+2)) zFW ?_;refine q62 (.d (ds ah.bO)) O9 ?_;have ⟨ai,ag,K⟩:=bE K;refine sqt (.d (db ai)) rfl (λhb=>by subst hb;exact jP lr rfl (zSZ ag)) ?_
 refine q88 (.d (db (!ai))) ?_;refine Q39 ?_;refine zZ K (λK=>?_) (λK=>?_);refine Q23 ?_;cases K;intro q;cases q;exact⟨rfl,wc⟩;refine Q41 ?_;exact ew K;refine zG ?_;cases K;intro q;cases q;exact⟨rfl,wc⟩
 rintro y4 rfl
 replace h:=eL h;refine Q3 ?_;exact er h
 rintro y4 rfl
 replace h:=eR h;exact es h
 rintro y3 rfl
 replace h:=eR h;exact es h
 rintro y1 rfl
 replace h:=eR h;exact es h
theorem zJ1 {k r} (h:zCT k=some r):zE Tryz.prog 213 [(ds k)] [(db r)]:=by refine co Tryz.func213 ?_;intro _ _ _ _;unfold zCT at h;refine z4Y ?_;refine yCQ ?_;refine Q1 ?_;exact er h
theorem zOG {D a1 r} (h:zBG D a1=some r):zE Tryz.prog 204 [(ds D),(ds a1)] [(di r)]:=by refine co Tryz.func204 ?_;intro _ _ _ _;unfold zBG at h;refine Q53 ?_;have ⟨_,k,h⟩:=bE h;refine q6 (zJ1 k) ?_;refine Q15 ?_;have ⟨_,k,h⟩:=bE h;refine q6 (zJ1 k) ?_;refine Q1 ?_;refine z76 ?_;refine zZ h (λh=>?_) (λh=>?_);refine z76 ?_;refine zZ h (λh=>?_) (λh=>?_);refine Q3 ?_;exact er h;refine Q58 ?_;exact er h;refine Q70 ?_;refine zN ?_;refine zZ h (λh=>?_) (λh=>?_);refine Q3 ?_;exact er h;refine zP<|Q14 ?_;refine jW (yFA (a:=D) (b:=a1) lr rfl rfl) ?_;refine zN ?_;refine zZ h (λh=>?_) (λh=>?_);refine Q3 ?_;exact er h;refine zP<|Q14 ?_;refine jW (yOG (a:=D) (b:=a1) lr rfl rfl) ?_;refine zN ?_;refine zZ h (λh=>?_) (λh=>?_);refine Q3 ?_;exact er h;refine Q58 ?_;exact er h
theorem zRO {K r} (h:zG4 K=some r):zE Tryz.prog 203 [(zI eI K)] [(di r)]:=by
 refine co Tryz.func203 ?_;intro _ _ _ _;unfold zG4 at h;refine Q3 ?_;refine Q43 ?_;refine Q63 ?_;have ⟨H,k,h⟩:=bE h;refine zQ H (.exit 0) (λH=>⟨[(3,.d (di 0))],[]⟩) .ret (λH=>⟨[(2,.d (di H))],[]⟩) ?_ ?_ ?_;refine zD (λx=>⟨[(3,.d (di 0)),(6,.d (zI eI K)),(7,.d (di (K.length:Int))),(8,.d (di x))],[]⟩) k wc ?_
 rintro T O D
 replace D:zDT K T=some O:=D;unfold zDT at D;refine Q18 ?_;refine zZ D (λD=>?_) (λD=>?_);refine Q32 ?_;have ⟨_,k,D⟩:=bE D;refine q11 yF k ?_;refine q36 O3 k ?_;refine Q69 ?_;refine Q37 ?_;refine zZ D (λD=>?_) (λD=>?_);refine z4Z ?_;cases D;intro q;cases q;exact⟨rfl,wc⟩;refine Q41 ?_;exact ew D;refine zG ?_;cases D;intro q;cases q;exact⟨rfl,wc⟩
 rintro H rfl
 replace h:=eL h;refine Q40 ?_;exact er h
 rintro H rfl
 replace h:=eR h;exact es h
theorem zRP {D a1 r} (h:zDP D a1=some r):zE Tryz.prog 186 [(aC.dv D),(aC.dv a1)] [(di r)]:=by refine co Tryz.func186 ?_;intro _ _ _ _;unfold zDP at h;refine Q33 ?_;refine q32 ?_;refine Q16 ?_;refine zW MX rfl ?_;refine q13 zLV ?_;refine q19 O3 ?_;refine q13 zLV ?_;refine q19 O3 ?_;have ⟨_,k,h⟩:=bE h;refine q20 (vS k) ?_;refine q13 zFW ?_;refine q19 O9 ?_;refine q13 zFW ?_;refine q19 O9 ?_;have ⟨_,k,h⟩:=bE h;refine q20 (zOG k) ?_;refine yGN yF ?_;have ⟨_,k,h⟩:=bE h;refine q20 (zRO k) ?_;refine Q44 ?_;exact er h
theorem zM8 {k r} (h:zE8 k=some r):zE Tryz.prog 187 [(aC.dv k)] [(cG.dv r)]:=by refine co Tryz.func187 ?_;intro _ _ _ _;unfold zE8 at h;refine Q33 ?_;refine yH rfl (kK (zs:=[(.int IntKind.i64 (0)),(.string ⟨#[]⟩)]) lr (by kernel_rfl) rfl rfl) ?_;refine Q54 ?_;refine z08 ?_;refine q2 zFW ?_;refine q7 O9 ?_;refine q49 yTB ?_;refine q18 yRC ?_;refine zN ?_;cases h;refine yE ?_;exact wW rfl rfl yRC rfl
theorem zUK {O r} (h:zE9 O=some r):zE Tryz.prog 152 [(zI aC O)] [(di r)]:=by
 refine co Tryz.func152 ?_;intro _ _ _ _;unfold zE9 at h;refine Q43 ?_;have ⟨_,ac,h⟩:=bE h;refine q6 (zUJ ac) ?_;refine Q67 ?_;refine zZ h (λh=>?_) (λh=>?_);refine Q40 ?_;exact er h;refine Q58 ?_;refine Q34 ?_;have ⟨y1,ai,h⟩:=bE h;refine tl (.exit 0) ⟨[(0,.d (zI aC O)),(4,.d (db y1))],[]⟩ ?_ ?_;refine zD (λx=>⟨[(0,.d (zI aC O)),(4,.d (db x.1)),(5,.d (di x.2))],[]⟩) ai wc ?_
 rintro⟨v4,v5⟩ ak K
 replace K:uJ O v4 v5=some ak:=K;unfold uJ at K;refine Q61 ?_;refine zZ K (λK=>?_) (λK=>?_);refine Q5 ?_;have ⟨y2,D,K⟩:=bE K;refine tl .normal ⟨[(0,.d (zI aC O)),(4,.d (db y2)),(5,.d (di v5))],[]⟩ ?_ ?_;refine yY<|yV ?_;refine zW MX rfl ?_;refine Q25 ?_;refine z4N ?_;have ⟨_,T,D⟩:=bE D;refine q29 S23 T ?_;refine yK3 G60 T ?_;refine Q25 ?_;have ⟨_,Y,D⟩:=bE D;refine q29 S23 Y ?_;refine yK3 G60 Y ?_;have ⟨_,ad,D⟩:=bE D;refine q20 (zRP ad) ?_;refine daa (zNR lr rfl rfl) ?_;refine wF ?_;refine zZ D (λD=>?_) (λD=>?_);refine x9<|Q1 ?_;exact eo D;refine zP ?_;exact eo D;refine Q13 ?_;exact ew K;exact zG (ex K);refine z76 ?_;refine zZ h (λh=>?_) (λh=>?_);refine Q3 ?_;exact er h;refine Q46 ?_;refine z7O ?_;refine Q11 ?_;refine Q4 ?_;refine z78 ?_;have ⟨y3,aj,h⟩:=bE h;refine zQ y3 (.exit 2) (λy3=>⟨[],[]⟩) .ret (λy3=>⟨[(2,.d (di y3))],[]⟩) ?_ ?_ ?_;refine zD (λx=>⟨[(6,.row 32),(33,.d (zI aC O)),(34,.d (di (O.length:Int))),(35,.d (di x.1))],[(32,.map (wK zI2 eB x.2))]⟩) aj wc ?_
 rintro⟨ao,aa⟩ al H
 replace H:uK O ao aa=some al:=H;unfold uK at H;refine Q18 ?_;refine zZ H (λH=>?_) (λH=>?_);refine Q32 ?_;have ⟨_,Z,H⟩:=bE H;refine q11 S23 Z ?_;refine z01 G60 Z ?_;refine z79 ?_;refine zO (zT (t:=8) lr rfl rfl rfl) ?_;refine yV<|Q21 ?_;refine q12 G60 ?_;have ⟨am,ag,H⟩:=bE H;refine q6 (zM8 ag) ?_;refine jW (yB6 (kv:=zI2) (ev:=eB) (mp:=aa) (k:=am) (zero:=false) lr yRG yRL rfl rfl rfl (yJ4 rfl) (λ_ _=> .v _)) ?_;refine zN ?_;refine zZ H (λH=>?_) (λH=>?_);refine Q23 ?_;cases H;intro q;cases q;exact⟨rfl,wc⟩;refine zP<|Q26 ?_;refine q12 G60 ?_;have ⟨an,ah,H⟩:=bE H;refine q6 (zM8 ah) ?_;refine yH rfl (zRD (kv:=zI2) (ev:=eB) (mp:=aa) (k:=an) (v:=true) yRG yRL rfl rfl rfl (yJ4 rfl) rfl rfl rfl) ?_;refine zN<|Q20 ?_;exact ew H;refine zG ?_;cases H;intro q;cases q;exact⟨rfl,wc⟩
 rintro y3 rfl
 replace h:=eL h;refine Q3 ?_;exact er h
 rintro y3 rfl
 replace h:=eR h;exact es h
set_option maxHeartbeats 8000000 in
theorem zD9 {ac:DV} {a0:(List Range)} {a1:Int} {a2:Int} {a3:Range->Range->Option (Int)} (ap:∀x0 x1 y,a3 x0 x1=some y->FnC Tryz.prog ac [(aE.dv x0),(aE.dv x1)] [(di y)]) {r:(List Range)} (h:jB a0 a1 a2 a3=some r):GC Tryz.prog 218 [.row 3000,.d (di a1),.d (di a2),.d ac] [(3000,.row 43 aE.size false (aE.all a0))] [3000] [] [(3000,.row 43 aE.size false (aE.all r))]:=by
 refine zD4 Tryz.func218 (by kernel_rfl) rfl lr lr λw0 I0 aw p0=>?_;unfold jB at h;refine Q2 ?_;refine Q10 ?_;refine yY ?_;have ⟨y1,k,h⟩:=bE h;refine tl (.exit 0) ⟨[(0,.row 3000)],[(3000,.row 43 aE.size false (aE.all y1))]⟩ ?_ ?_;refine zD (λx=>⟨[(0,.row 3000),(1,.d (di a1)),(2,.d (di a2)),(3,.d ac),(8,.d (di x.1))],[(3000,.row 43 aE.size false (aE.all x.2))]⟩) k wc ?_
 rintro⟨v8,D⟩ aq p1
 replace p1:yL a2 a1 a3 v8 D=some aq:=p1;unfold yL at p1;refine Q75 ?_;refine zZ p1 (λp1=>?_) (λp1=>?_);refine Q9 ?_;refine Q40 ?_;refine yY ?_;have ⟨y2,k,p1⟩:=bE p1;refine tl (.exit 2) ⟨[(0,.row 3000),(1,.d (di a1)),(2,.d (di a2)),(3,.d ac),(8,.d (di v8))],[(3000,.row 43 aE.size false (aE.all y2))]⟩ ?_ ?_;refine zD (λx=>⟨[(0,.row 3000),(1,.d (di a1)),(2,.d (di a2)),(3,.d ac),(8,.d (di v8)),(9,.d (di x.1))],[(3000,.row 43 aE.size false (aE.all x.2))]⟩) k wc ?_
 rintro⟨Y,D⟩ ar T
 replace T:yZ a1 a3 Y D=some ar:=T;unfold yZ at T;refine yV<|yV ?_;refine zW MX rfl ?_;refine Q25 ?_;refine z7P ?_;have ⟨_,k,T⟩:=bE T;refine q47 k ?_;refine q48 (.d ac) ?_;refine yGO (.row 3000) ?_;refine q48 (.d (di Y)) ?_;have ⟨al,ai,T⟩:=bE T;refine dat (.ptr 3000 (Y.toNat*aE.size)) rfl (λhb=>by subst hb;exact zF6 (en:=aE) (l:=D) lr S24 rfl rfl rfl ai) ?_
 refine dat (.d (aE.dv al)) rfl (λhb=>by subst hb;exact uG (en:=aE) (l:=D) (i:=Y) (v:=al) (off:=0) lr G43 rfl rfl ai rfl rfl (by decide)) ?_
 refine yGO (.row 3000) ?_;refine q48 (.d (di Y)) ?_;refine yCS (.d (di (wi (Y-1)))) ?_;have ⟨am,aj,T⟩:=bE T;refine dat (.ptr 3000 ((wi (Y-1)).toNat*aE.size)) rfl (λhb=>by subst hb;exact zF6 (en:=aE) (l:=D) lr S24 rfl rfl rfl aj) ?_
 refine dat (.d (aE.dv am)) rfl (λhb=>by subst hb;exact uG (en:=aE) (l:=D) (i:=(wi (Y-1))) (v:=am) (off:=0) lr G43 rfl rfl aj rfl rfl (by decide)) ?_
 have ⟨an,ak,T⟩:=bE T;refine dat (.d (di an)) rfl (λhb=>by subst hb;exact zKT lr rfl rfl (ap _ _ _ ak)) ?_
 refine dat (.d (db (decide (an<0)))) rfl (λhb=>by subst hb;exact zQ1 lr rfl rfl) ?_
 refine Q95 ?_;refine zZ T (λT=>?_) (λT=>?_);refine Q9 ?_;have ⟨ad,k,T⟩:=bE T;have ⟨ag,O,T⟩:=bE T;have ⟨_,Z,T⟩:=bE T;have ⟨_,H,T⟩:=bE T;have ⟨_,aa,T⟩:=bE T;have ⟨ab,K,T⟩:=bE T;refine tl .normal ⟨[(0,.row 3000),(1,.d (di a1)),(2,.d (di a2)),(3,.d ac),(8,.d (di v8)),(9,.d (di Y))],[(3000,.row 43 aE.size false (aE.all ab))]⟩ ?_ ?_;refine zF7 MX ?_;refine z77 ?_;refine xm 2 ?_;refine xm 3 ?_;refine zMK (i:=4) rfl lr rfl rfl rfl rfl rfl rfl ?_;refine xm 5 ?_;refine xm 6 ?_;refine zMK (i:=7) rfl lr rfl rfl rfl rfl rfl rfl ?_;refine xm 10 ?_;refine xm 11 ?_;refine xn [8,12] ?_;refine yK4 S24 k ?_ ?_;refine xn [9,12] ?_;refine xa rfl (uG (en:=aE) (l:=D) (i:=(wi (Y-1))) (v:=ad) (off:=0) lr G43 rfl rfl k rfl rfl (by decide)) ?_ ?_;refine xn [12] ?_;refine q43 S24 O ?_;refine xn [13] ?_;refine xc rfl (uG (en:=aE) (l:=D) (i:=Y) (v:=ag) (off:=0) lr G43 rfl rfl O rfl rfl (by decide)) ?_;refine xn [14] ?_;refine q43 S24 Z ?_;refine xn [15] ?_;refine q84 G43 H ?_;refine xn [16] ?_;refine q43 S24 aa ?_;refine xn [17] ?_;refine q84 G43 K ?_;exact ae;refine q43 S24 O ?_;refine xn [9,13] ?_;refine xa rfl (uG (en:=aE) (l:=D) (i:=(wi (Y-1))) (v:=ad) (off:=0) lr G43 rfl rfl k rfl rfl (by decide)) ?_ ?_;refine xn [13] ?_;refine xc rfl (uG (en:=aE) (l:=D) (i:=Y) (v:=ag) (off:=0) lr G43 rfl rfl O rfl rfl (by decide)) ?_;refine xn [14] ?_;refine q43 S24 Z ?_;refine xn [15] ?_;refine q84 G43 H ?_;refine xn [16] ?_;refine q43 S24 aa ?_;refine xn [17] ?_;refine q84 G43 K ?_;exact ae;refine xc rfl (uG (en:=aE) (l:=D) (i:=Y) (v:=ag) (off:=0) lr G43 rfl rfl O rfl rfl (by decide)) ?_;refine xn [9] ?_;refine xc rfl (uG (en:=aE) (l:=D) (i:=(wi (Y-1))) (v:=ad) (off:=0) lr G43 rfl rfl k rfl rfl (by decide)) ?_;refine xn [14] ?_;refine q43 S24 Z ?_;refine xn [15] ?_;refine q84 G43 H ?_;refine xn [16] ?_;refine q43 S24 aa ?_;refine xn [17] ?_;refine q84 G43 K ?_;exact ae;refine q43 S24 O ?_;refine xn [8,13] ?_;refine yK4 S24 k ?_ ?_;refine xn [9,13] ?_;refine xa rfl (uG (en:=aE) (l:=D) (i:=(wi (Y-1))) (v:=ad) (off:=0) lr G43 rfl rfl k rfl rfl (by decide)) ?_ ?_;refine xn [13] ?_;refine xc rfl (uG (en:=aE) (l:=D) (i:=Y) (v:=ag) (off:=0) lr G43 rfl rfl O rfl rfl (by decide)) ?_;refine xn [14] ?_;refine q43 S24 Z ?_;refine xn [15] ?_;refine q84 G43 H ?_;refine xn [16] ?_;refine q43 S24 aa ?_;refine xn [17] ?_;refine q84 G43 K ?_;exact ae;refine xc rfl (uG (en:=aE) (l:=D) (i:=Y) (v:=ag) (off:=0) lr G43 rfl rfl O rfl rfl (by decide)) ?_;refine xn [9] ?_;refine xc rfl (uG (en:=aE) (l:=D) (i:=(wi (Y-1))) (v:=ad) (off:=0) lr G43 rfl rfl k rfl rfl (by decide)) ?_;refine xn [14] ?_;refine q43 S24 Z ?_;refine xn [15] ?_;refine q84 G43 H ?_;refine xn [16] ?_;refine q43 S24 aa ?_;refine xn [17] ?_;refine q84 G43 K ?_;exact ae;refine xc rfl (uG (en:=aE) (l:=D) (i:=Y) (v:=ag) (off:=0) lr G43 rfl rfl O rfl rfl (by decide)) ?_;refine xn [8] ?_;refine q43 S24 k ?_;refine xn [9] ?_;refine xc rfl (uG (en:=aE) (l:=D) (i:=(wi (Y-1))) (v:=ad) (off:=0) lr G43 rfl rfl k rfl rfl (by decide)) ?_;refine xn [14] ?_;refine q43 S24 Z ?_;refine xn [15] ?_;refine q84 G43 H ?_;refine xn [16] ?_;refine q43 S24 aa ?_;refine xn [17] ?_;refine q84 G43 K ?_;exact ae;refine Q8 ?_;refine Q77 ?_;exact ew T;exact zG (ex T);refine Q13 ?_;exact ew p1;exact zG (ex p1);cases h;exact⟨rfl,⟨rfl,trivial⟩⟩
theorem zF2 {K:DV} {T:(List Range)} {a1:Int} {a2:Int} {a3:Int} {Y:Range->Range->Option (Int)} (Z:∀x0 x1 y,Y x0 x1=some y->FnC Tryz.prog K [(aE.dv x0),(aE.dv x1)] [(di y)]) {r:(List Range)} (h:wE T a1 a2 a3 Y=some r):GC Tryz.prog 214 [.row 3000,.d (di a1),.d (di a2),.d (di a3),.d K] [(3000,.row 43 aE.size false (aE.all T))] [3000] [] [(3000,.row 43 aE.size false (aE.all r))]:=by
 refine zD4 Tryz.func214 (by kernel_rfl) rfl lr lr λw0 I0 ab p0=>?_;unfold wE at h;refine Q3 ?_;refine Q22 ?_;have ⟨y1,k,h⟩:=bE h;refine tl .ret ⟨[(0,.row 3000)],[(3000,.row 43 aE.size false (aE.all y1))]⟩ ?_ ?_;refine zD (λx=>⟨[(0,.row 3000),(1,.d (di a1)),(2,.d (di a2)),(3,.d (di a3)),(4,.d K),(10,.d (db true)),(11,.d (db true))],[(3000,.row 43 aE.size false (aE.all T))]⟩) k wc ?_
 rintro _ aa O
 replace O:kZ a2 a1 T Y a3=some aa:=O;unfold kZ at O;have ⟨y2,D,O⟩:=bE O;refine tl .ret ⟨[(0,.row 3000)],[(3000,.row 43 aE.size false (aE.all y2))]⟩ ?_ ?_;refine z09 ?_;refine Q77 ?_;refine Q4 ?_;refine z72 ?_;refine zZ D (λD=>?_) (λD=>?_);refine z8A ?_;have ⟨_,k,D⟩:=bE D;refine yH rfl (zEQ [(3000,3000)] (zD9 Z k) lr (by decide) ⟨rfl,rfl,rfl,rfl,trivial⟩ rfl rfl ⟨rfl,trivial⟩ rfl rfl rfl rfl) ?_;refine zN<|yE ?_;exact eo D;refine Q70 ?_;refine Q89 ?_;refine zZ D (λD=>?_) (λD=>?_);refine z8A ?_;cases D;refine Q70 ?_;refine Q36 ?_;have ⟨_,H,D⟩:=bE D;refine tl .normal ⟨[(0,.row 3000),(1,.d (di a1)),(2,.d (di a2)),(3,.d (di a3)),(4,.d K),(10,.d (db true)),(11,.d (db true)),(12,.d (di (wi (a2-a1))))],[(3000,.row 43 aE.size false (aE.all T))]⟩ ?_ ?_;refine zZ H (λH=>?_) (λH=>?_);refine z8A ?_;cases H;refine zP ?_;exact eo H;refine z8A ?_;cases D;exact ex O;cases h;exact⟨rfl,⟨rfl,trivial⟩⟩
theorem zEY {D:DV} {K:(List Range)} {a1:Range->Range->Option (Int)} (H:∀x0 x1 y,a1 x0 x1=some y->FnC Tryz.prog D [(aE.dv x0),(aE.dv x1)] [(di y)]) {r:(List Range)} (h:jE K a1=some r):GC Tryz.prog 205 [.row 3000,.d D] [(3000,.row 43 aE.size false (aE.all K))] [3000] [] [(3000,.row 43 aE.size false (aE.all r))]:=by refine zD4 Tryz.func205 (by kernel_rfl) rfl lr lr λw0 T O Y=>?_;unfold jE at h;refine Q21 ?_;refine yCO S24 ?_;refine Q1 ?_;refine Q71 ?_;refine q68 Tryz.underlying3 Tryz.underlying134 ?_;have ⟨_,k,h⟩:=bE h;refine q6 (zUH k) ?_;refine q0 ?_;have ⟨_,k,h⟩:=bE h;refine yH rfl (zEQ [(3000,3000)] (zF2 H k) lr (by decide) ⟨rfl,rfl,rfl,rfl,rfl,trivial⟩ rfl rfl ⟨rfl,trivial⟩ rfl rfl rfl rfl) ?_;refine zN ?_;cases h;exact⟨rfl,⟨rfl,trivial⟩⟩
theorem zWK {D a1 r} (h:zB5 D a1=some r):zE Tryz.prog 206 [(aE.dv D),(aE.dv a1)] [(di r)]:=by refine co Tryz.func206 ?_;intro _ _ _ _;unfold zB5 at h;refine Q0 ?_;refine yGF ?_;refine yGF ?_;refine Q16 ?_;refine zW MX rfl ?_;refine z73 ?_;refine z73 ?_;have ⟨_,k,h⟩:=bE h;refine q20 (vS k) ?_;refine z7Y ?_;refine z7Y ?_;have ⟨_,k,h⟩:=bE h;refine q20 (vS k) ?_;refine yGN yF ?_;have ⟨_,k,h⟩:=bE h;refine q20 (zRO k) ?_;refine Q44 ?_;exact er h
theorem z1D {a0 r} (h:zJQ a0=some r):zE Tryz.prog 188 [(zI aE a0)] [(bY.dv r)]:=by
 refine co Tryz.func188 ?_;intro _ _ _ _;unfold zJQ at h;refine Q0 ?_;refine z7R ?_;refine zN<|Q3 ?_;refine zO (xJ (t:=3) 1003 43 aE.size lr lr rfl rfl) ?_;refine Q4 ?_;refine yC8 ?_;have ⟨y1,k,h⟩:=bE h;refine tl (.exit 0) ⟨[(2,.ptr 2 0),(3,.row 1003)],[(2,.box 26 [.d (.v (.slice none 0 0))]),(1003,.row 43 aE.size false (aE.all y1))]⟩ ?_ ?_;refine zD (λx=>⟨[(2,.ptr 2 0),(3,.row 1003),(11,.d (zI aE a0)),(12,.d (di (a0.length:Int))),(13,.d (di x.1))],[(2,.box 26 [.d (.v (.slice none 0 0))]),(1003,.row 43 aE.size false (aE.all x.2))]⟩) k wc ?_
 rintro⟨ak,Y⟩ al p1
 replace p1:zCD a0 ak Y=some al:=p1;unfold zCD at p1;refine Q18 ?_;refine zZ p1 (λp1=>?_) (λp1=>?_);refine Q5 ?_;have ⟨y2,K,p1⟩:=bE p1;refine tl .normal ⟨[(2,.ptr 2 0),(3,.row 1003),(11,.d (zI aE a0)),(12,.d (di (a0.length:Int))),(13,.d (di ak))],[(2,.box 26 [.d (.v (.slice none 0 0))]),(1003,.row 43 aE.size false (aE.all y2))]⟩ ?_ ?_;refine Q66 ?_;have ⟨aj,k,K⟩:=bE K;refine q11 S24 k ?_;refine z7K G43 k ?_;refine Q68 ?_;refine zO (zT (t:=5) lr rfl rfl rfl) ?_;refine Q0 ?_;refine Q78 ?_;refine yK5 ?_;refine z4W ?_;refine yGH ?_;refine q49 B43 ?_;refine Q68 ?_;refine zO (zT (t:=6) lr rfl rfl rfl) ?_;refine Q0 ?_;refine Q78 ?_;refine z4W ?_;refine z72 ?_;refine zZ K (λK=>?_) (λK=>?_);refine Q26 ?_;refine yG3 ?_;have ⟨_,k,K⟩:=bE K;refine yH rfl (yI (en:=aE) (l:=Y) (m:=[({Lo:=max aj.Lo 0,Hi:=min aj.Hi 1114111}:Range)]) lr S24 rfl rfl rfl k (by decide) (by decide) rfl rfl) ?_;refine Q11 ?_;exact eo K;refine zP ?_;exact eo K;refine Q20 ?_;exact ew p1;exact zG (ex p1);refine Q21 ?_;have ⟨T,ai,h⟩:=bE h;refine yH rfl (zCN [(3000,1003)] (zEY (λ_ _ _ q=> .inr ⟨_,rfl,zWK q⟩) ai) lr (by decide) ⟨rfl,rfl,trivial⟩ rfl rfl ⟨rfl,trivial⟩ rfl rfl rfl (λ_=>rfl) rfl) ?_;refine zN<|Q3 ?_;refine zO (xJ (t:=7) 1007 43 aE.size lr lr rfl rfl) ?_;refine yV<|Q21 ?_;refine yCO S24 ?_;refine Q24 ?_;have ⟨y4,k,h⟩:=bE h;refine tl (.exit 2) ⟨[(2,.ptr 2 0),(7,.row 1007)],[(2,.box 26 [.d (.v (.slice none 0 0))]),(1007,.row 43 aE.size false (aE.all y4))]⟩ ?_ ?_;refine zD (λx=>⟨[(2,.ptr 2 0),(7,.row 1007),(36,.row 1003),(37,.d (di (T.length:Int))),(38,.d (di x.1))],[(2,.box 26 [.d (.v (.slice none 0 0))]),(1003,.row 43 aE.size false (aE.all T)),(1007,.row 43 aE.size false (aE.all x.2))]⟩) k wc ?_
 rintro⟨ah,D⟩ am p4
 replace p4:zCE T ah D=some am:=p4;unfold zCE at p4;refine Q18 ?_;refine zZ p4 (λp4=>?_) (λp4=>?_);refine Q5 ?_;have ⟨y5,H,p4⟩:=bE p4;refine tl .normal ⟨[(2,.ptr 2 0),(7,.row 1007),(36,.row 1003),(37,.d (di (T.length:Int))),(38,.d (di ah))],[(2,.box 26 [.d (.v (.slice none 0 0))]),(1003,.row 43 aE.size false (aE.all T)),(1007,.row 43 aE.size false (aE.all y5))]⟩ ?_ ?_;refine Q66 ?_;have ⟨Z,k,H⟩:=bE H;refine q90 S24 k ?_;refine jW (uG (en:=aE) (l:=T) (i:=ah) (v:=Z) (off:=0) lr G43 rfl rfl k rfl rfl (by decide)) ?_;refine Q68 ?_;refine zO (zT (t:=9) lr rfl rfl rfl) ?_;refine yV<|Q21 ?_;refine yCO S24 ?_;refine Q16 ?_;refine zW MX rfl ?_;refine q8 ?_;refine z7P ?_;have ⟨_,k,H⟩:=bE H;refine q47 k ?_;refine z4J (.ip (aE.cells Z) (0+0)) zOD ?_;refine z4K (.d (di Z.Lo)) O3 ?_;refine yGO (.row 1007) ?_;refine q48 (.d (di (D.length:Int))) ?_;refine yCS (.d (di (wi ((D.length:Int)-1)))) ?_;have ⟨ac,ad,H⟩:=bE H;refine dat (.ptr 1007 ((wi ((D.length:Int)-1)).toNat*aE.size)) rfl (λhb=>by subst hb;exact zF6 (en:=aE) (l:=D) lr S24 rfl rfl rfl ad) ?_
 refine dat (.ptr 1007 ((wi ((D.length:Int)-1)).toNat*aE.size+1)) rfl (λhb=>by subst hb;exact zAM lr zK1 rfl) ?_
 refine dat (.d (di ac.Hi)) rfl (λhb=>by subst hb;exact vE (en:=aE) (l:=D) (i:=(wi ((D.length:Int)-1))) (v:=ac) (off:=1) lr O3 rfl rfl ad rfl) ?_
 refine dat (.d (di (wi (ac.Hi+1)))) rfl (λhb=>by subst hb;exact zZB lr rfl rfl) ?_
 refine dat (.d (db (decide (Z.Lo<=(wi (ac.Hi+1)))))) rfl (λhb=>by subst hb;exact zKP lr rfl rfl) ?_
 refine Q95 ?_;refine zZ H (λH=>?_) (λH=>?_);refine yV ?_;refine zF3 14 MX rfl ?_;refine Q97 ?_;refine z4N ?_;refine Q97 ?_;refine z4N ?_;have ⟨an,k,H⟩:=bE H;refine yKO S24 k ?_;refine z4M zK1 ?_;refine daa (vE (en:=aE) (l:=D) (i:=(wi ((D.length:Int)-1))) (v:=an) (off:=1) lr O3 rfl rfl k rfl) ?_;refine z7Y ?_;refine daa (z9B lr rfl rfl) ?_;have ⟨ao,k,H⟩:=bE H;refine yKO S24 k ?_;refine z4M zK1 ?_;refine wF ?_;have ⟨_,O,H⟩:=bE H;refine yH rfl (uR (en:=aE) (l:=D) (i:=(wi ((D.length:Int)-1))) (v:=ao) (off:=1) O3 rfl rfl rfl k rfl (by decide) O rfl rfl) ?_;refine zN<|zG ?_;exact eo H;refine zP<|Q26 ?_;refine yG3 ?_;have ⟨_,k,H⟩:=bE H;refine yH rfl (yI (en:=aE) (l:=D) (m:=[Z]) lr S24 rfl rfl rfl k (by decide) (by decide) rfl rfl) ?_;refine Q11 ?_;exact eo H;refine Q20 ?_;exact ew p4;exact zG (ex p4);refine Q21 ?_;refine zEP (zBC (t:=77) lr rfl rfl) ?_ (by simp);refine q49 B26 ?_;refine q18 G26 ?_;refine zN ?_;cases h;refine yE ?_;exact wW rfl rfl G26 rfl
theorem zX3 {K r} (h:zHZ K=some r):zE Tryz.prog 153 [(bY.dv K)] [(db r)]:=by
 refine co Tryz.func153 ?_;intro _ _ _ _;unfold zHZ at h;refine Q94 ?_;refine Q35 ?_;refine Q99 ?_;have ⟨T,k,h⟩:=bE h;refine q6 (z1D k) ?_;refine z7R ?_;refine q18 G26 ?_;refine zN ?_;refine zO (zT (t:=3) lr rfl rfl rfl) ?_;refine Q31 ?_;refine z05 ?_;refine z05 ?_;refine Q37 ?_;refine zZ h (λh=>?_) (λh=>?_);refine Q3 ?_;exact er h;refine Q74 ?_;refine z05 ?_;refine Q24 ?_;have ⟨H,k,h⟩:=bE h;refine zQ H (.exit 0) (λH=>⟨[],[]⟩) .ret (λH=>⟨[(2,.d (db H))],[]⟩) ?_ ?_ ?_;refine zD (λx=>⟨[(1,.d (.pt (bY.cells K))),(17,.d (zI aE T.Ranges)),(18,.d (di (T.Ranges.length:Int))),(19,.d (di x))],[]⟩) k wc ?_
 rintro Y O D
 replace D:zCU T K Y=some O:=D;unfold zCU at D;refine Q18 ?_;refine zZ D (λD=>?_) (λD=>?_);refine Q64 ?_;have ⟨_,k,D⟩:=bE D;refine q11 S24 k ?_;refine z7K G43 k ?_;refine q64 ?_;refine q1 ?_;refine Q60 ?_;refine zO (zT (t:=5) lr rfl rfl rfl) ?_;refine yV ?_;refine zW MX rfl ?_;refine q33 G43 ?_;refine q13 zLU ?_;refine q19 O24 ?_;refine q8 ?_;have ⟨_,k,D⟩:=bE D;refine q29 S24 k ?_;refine yK6 G43 k ?_;refine yKP E43 ?_;refine wF ?_;refine zZ D (λD=>?_) (λD=>?_);refine Q23 ?_;cases D;intro q;cases q;exact⟨rfl,wc⟩;refine Q41 ?_;exact ew D;refine zG ?_;cases D;intro q;cases q;exact⟨rfl,wc⟩
 rintro H rfl
 replace h:=eL h;refine Q3 ?_;exact er h
 rintro H rfl
 replace h:=eR h;exact es h
theorem zLF {D r} (h:zEH D=some r):zE Tryz.prog 154 [(di D)] [(di r)]:=by refine co Tryz.func154 ?_;intro _ _ _ _;unfold zEH at h;refine Q3 ?_;refine yV<|Q65 ?_;refine q39 ?_;have ⟨_,k,h⟩:=bE h;refine q9 k ?_;refine q15 (.d (di D)) ?_;refine q82 (.d (db (decide (D<4371)))) ?_;refine Q47 ?_;refine zZ h (λh=>?_) (λh=>?_);refine Q3 ?_;exact er h;refine Q2 ?_;refine q39 ?_;have ⟨_,k,h⟩:=bE h;refine q9 k ?_;refine q15 (.d (di D)) ?_;refine q82 (.d (db (decide (D<4470)))) ?_;refine Q47 ?_;refine zZ h (λh=>?_) (λh=>?_);refine Q3 ?_;exact er h;refine Q2 ?_;refine q39 ?_;have ⟨_,k,h⟩:=bE h;refine q9 k ?_;refine q15 (.d (di D)) ?_;refine q82 (.d (db (decide (D<4547)))) ?_;refine Q47 ?_;refine zZ h (λh=>?_) (λh=>?_);refine Q3 ?_;exact er h;refine Q2 ?_;refine q5 ?_;have ⟨_,k,h⟩:=bE h;refine q9 k ?_;refine q42 (.d (di D)) ?_;refine z7M (.d (db (decide (55204<=D)))) ?_;refine q22 ?_;refine Q1 ?_;refine zZ h (λh=>?_) (λh=>?_);refine Q3 ?_;exact er h;refine Q2 ?_;refine q34 ?_;have ⟨_,k,h⟩:=bE h;refine z02 k ?_;refine Q98 ?_;refine zZ h (λh=>?_) (λh=>?_);refine Q3 ?_;exact er h;refine Q58 ?_;exact er h
theorem zK4 {D r} (h:zBT D=some r):zE Tryz.prog 128 [(zI aR D)] [(zI aR r)]:=by refine co Tryz.func128 ?_;intro _ _ _ _;unfold zBT at h;refine Q43 ?_;have ⟨_,k,h⟩:=bE h;refine q6 (zLY k) ?_;refine Q37 ?_;refine zZ h (λh=>?_) (λh=>?_);refine Q3 ?_;refine zO (zG0 (t:=2) aR.size lr rfl) ?_;exact er h;refine zP<|Q40 ?_;exact er h
theorem zCA {H:DV} {K:(List bM)} {a1:Int} {a2:bM->Int->Option (Int)} (Y:∀x0 x1 y,a2 x0 x1=some y->FnC Tryz.prog H [(aR.dv x0),(di x1)] [(di y)]) {r:Int×Bool} (h:jA K a1 a2=some r):zE Tryz.prog 173 [(zI aR K),(di a1),H] [(di r.1),(db r.2)]:=by
 refine co Tryz.func173 ?_;intro _ _ _ _;unfold jA at h;refine Q0 ?_;refine z8B ?_;refine q4 S22 ?_;refine Q15 ?_;refine q1 ?_;refine Q90 ?_;have ⟨y1,k,h⟩:=bE h;refine tl (.exit 0) ⟨[(0,.d (zI aR K)),(1,.d (di a1)),(2,.d H),(8,.d (di (K.length:Int))),(9,.d (di y1))],[]⟩ ?_ ?_;refine zD (λx=>⟨[(0,.d (zI aR K)),(1,.d (di a1)),(2,.d H),(8,.d (di (K.length:Int))),(9,.d (di x.1)),(10,.d (di x.2))],[]⟩) k wc ?_
 rintro⟨v9,ag⟩ ad O
 replace O:yG K a2 a1 v9 ag=some ad:=O;unfold yG at O;refine Q75 ?_;refine zZ O (λO=>?_) (λO=>?_);refine zP ?_;have ⟨y2,D,O⟩:=bE O;refine tl .normal ⟨[(0,.d (zI aR K)),(1,.d (di a1)),(2,.d H),(8,.d (di (K.length:Int))),(9,.d (di y2.1)),(10,.d (di y2.2))],[]⟩ ?_ ?_;refine z09 ?_;refine z8C ?_;refine Q15 ?_;refine Q12 ?_;have ⟨_,k,D⟩:=bE D;refine q11 S22 k ?_;refine yK2 uY k ?_;refine q0 ?_;have ⟨_,k,D⟩:=bE D;refine yCV (Y _ _ _ k) ?_;refine Q6 ?_;refine zZ D (λD=>?_) (λD=>?_);refine Q13 ?_;exact eo D;refine Q91 ?_;exact eo D;exact ew O;exact zG (ex O);refine Q2 ?_;refine Q12 ?_;refine q5 ?_;have ⟨_,k,h⟩:=bE h;refine q9 k ?_;refine q15 (.d H) ?_;refine q15 (.d (zI aR K)) ?_;refine q15 (.d (di y1)) ?_;have ⟨aa,T,h⟩:=bE h;refine sqt (.ip (aR.all K) (y1.toNat*aR.size)) rfl (λhb=>by subst hb;exact kX (en:=aR) lr S22 rfl rfl T) ?_
 refine sqt (.d (aR.dv aa)) rfl (λhb=>by subst hb;exact uC (en:=aR) (l:=K) (i:=y1) (v:=aa) (off:=0) lr uY rfl T rfl rfl (by decide)) ?_
 refine q15 (.d (di a1)) ?_;have ⟨ab,Z,h⟩:=bE h;refine sqt (.d (di ab)) rfl (λhb=>by subst hb;exact zKT lr rfl rfl (Y _ _ _ Z)) ?_
 refine z00 (.d (db (decide (ab=0)))) ?_;refine q17 ?_;refine Q51 ?_;cases h;refine yE ?_;exact zHM rfl rfl
theorem zQE {k a1 r} (h:zA6 k a1=some r):zE Tryz.prog 174 [(aR.dv k),(di a1)] [(di r)]:=by refine co Tryz.func174 ?_;intro _ _ _ _;unfold zA6 at h;refine Q33 ?_;refine Q16 ?_;refine Q66 ?_;refine q2 zHG ?_;refine q7 O3 ?_;refine q0 ?_;refine q5 ?_;refine Q1 ?_;refine zZ h (λh=>?_) (λh=>?_);refine Q3 ?_;exact er h;refine Q0 ?_;refine q2 zHF ?_;refine q7 O3 ?_;refine q0 ?_;refine q53 ?_;refine Q1 ?_;refine zZ h (λh=>?_) (λh=>?_);refine Q3 ?_;exact er h;refine Q58 ?_;exact er h
theorem zHI {D a1 r} (h:jD D a1=some r):zE Tryz.prog 132 [(zI aR D),(di a1)] [(di r)]:=by refine co Tryz.func132 ?_;intro _ _ _ _;unfold jD at h;refine z4Y ?_;have ⟨H,k,h⟩:=bE h;refine q6 (zCA (λ_ _ _ q=> .inr ⟨_,rfl,zQE q⟩) k) ?_;refine Q83 ?_;refine z41 ?_;refine Q36 ?_;refine zZ h (λh=>?_) (λh=>?_);refine Q3 ?_;exact er h;refine zP<|Q27 ?_;have ⟨K,k,h⟩:=bE h;refine q11 S22 k ?_;refine q58 zIU ?_;refine jW (yA (en:=aR) (l:=D) (i:=H.1) (v:=K) (off:=2) lr O3 rfl k rfl) ?_;refine Q1 ?_;exact er h
theorem zK5 {items:List Range} {a1:(List Int)} {a2:(List bM)} {r:Unit} (h:zBU items a1 a2=some r):zVV Tryz.prog 171 [(.pt [(zI eI a1)]),(.pt [(zI aR a2)])] (items.map λx=>[aE.dv x]):=by
 refine z9D Tryz.func171 (by kernel_rfl) rfl lr lr λw0 I0 J hc hg hG l0 hE=>?_;unfold zBU at h;refine Q3 ?_;refine Q31 ?_;refine q91 O37 ?_;refine Q63 ?_;have ⟨T,al,h⟩:=bE h;refine zQ T (.exit 0) (λT=>⟨[(0,.d (.v (.func (.yield l0) #[] #[]))),(1,.d (.pt [(zI eI a1)])),(4,.d (di T.1)),(1000000,.gh T.2)],[]⟩) .ret (λT=>⟨[(1000000,.gh T)],[]⟩) ?_ ?_ ?_;refine zD (λx=>⟨[(0,.d (.v (.func (.yield l0) #[] #[]))),(1,.d (.pt [(zI eI a1)])),(2,.d (.pt [(zI aR a2)])),(4,.d (di x.1)),(8,.d (zI eI a1)),(9,.d (di (a1.length:Int))),(10,.d (di x.2.1)),(1000000,.gh x.2.2)],[]⟩) al wc ?_
 rintro⟨v4,ab,K⟩ am O
 replace O:k4 a1 a2 items v4 ab K=some am:=O;unfold k4 at O;refine Q18 ?_;refine zZ O (λO=>?_) (λO=>?_);refine Q5 ?_;have ⟨Z,H,O⟩:=bE O;refine zQ Z .normal (λZ=>⟨[(0,.d (.v (.func (.yield l0) #[] #[]))),(1,.d (.pt [(zI eI a1)])),(2,.d (.pt [(zI aR a2)])),(4,.d (di Z.1)),(8,.d (zI eI a1)),(9,.d (di (a1.length:Int))),(10,.d (di ab)),(1000000,.gh Z.2)],[]⟩) .ret (λZ=>⟨[(1000000,.gh Z)],[]⟩) ?_ ?_ ?_;refine Q65 ?_;have ⟨_,Y,H⟩:=bE H;refine q11 yF Y ?_;refine q36 O3 Y ?_;refine q1 ?_;refine Q35 ?_;refine q91 O22 ?_;refine q0 ?_;have ⟨_,ag,H⟩:=bE H;refine q6 (zHI ag) ?_;refine Q98 ?_;have ⟨y3,D,H⟩:=bE H;refine zQ y3 .normal (λy3=>⟨[(0,.d (.v (.func (.yield l0) #[] #[]))),(1,.d (.pt [(zI eI a1)])),(2,.d (.pt [(zI aR a2)])),(4,.d (di y3.1)),(8,.d (zI eI a1)),(9,.d (di (a1.length:Int))),(10,.d (di ab)),(1000000,.gh y3.2)],[]⟩) .ret (λy3=>⟨[(1000000,.gh y3)],[]⟩) ?_ ?_ ?_;refine Q65 ?_;refine q28 ?_;have ⟨_,ac,D⟩:=bE D;refine q9 ac ?_;refine q15 (.d (di v4)) ?_;refine q82 (.d (db (decide (v4<0)))) ?_;refine Q47 ?_;refine zZ D (λD=>?_) (λD=>?_);refine Q91 ?_;exact ep D;refine Q2 ?_;have ⟨_,ad,D⟩:=bE D;refine q9 ad ?_;refine q15 (.d (di v4)) ?_;refine sqt (.d (db (decide (0<=v4)))) rfl (λhb=>by subst hb;exact zNR lr rfl rfl) ?_
 refine Q47 ?_;refine zZ D (λD=>?_) (λD=>?_);refine Q4 ?_;refine Q12 ?_;refine q49 B43 ?_;have ⟨_,ah,D⟩:=bE D;refine yH rfl (z0J (k:=K) lr hE rfl rfl rfl (z69 _ ah)) ?_;refine Q36 ?_;refine zZ D (λD=>?_) (λD=>?_);refine yE ?_;exact ep D;refine zP<|x9<|Q1 ?_;exact ep D;refine zP ?_;exact ep D
 rintro y3 rfl
 replace H:=eL H;exact ep H
 rintro y3 rfl
 replace H:=eR H;exact ep H
 rintro Z rfl
 replace O:=eL O;refine Q20 ?_;exact ew O
 rintro Z rfl
 replace O:=eR O;cases O;intro q;cases q;exact⟨rfl,wc⟩;refine zG ?_;cases O;intro q;cases q;exact⟨rfl,wc⟩
 rintro T rfl
 replace h:=eL h;refine Q2 ?_;refine Q86 ?_;refine zZ h (λh=>?_) (λh=>?_);refine Q84 ?_;refine q91 O37 ?_;refine q4 yF ?_;refine q49 B43 ?_;have ⟨_,ai,h⟩:=bE h;refine yH rfl (z0J (k:=T.2) lr hE rfl rfl rfl (z69 _ ai)) ?_;refine zN ?_;exact⟨rfl,zN7 _ h⟩;refine zP ?_;exact⟨rfl,zN7 _ h⟩
 rintro T rfl
 replace h:=eR h;exact⟨rfl,zN7 _ h⟩
theorem zM9 {h:List bM} {a1:List Int}:zE Tryz.prog 129 [(zI aR h),(zI eI a1)] [.fn 171 [.pt [zI eI a1],.pt [zI aR h]]]:=by refine co Tryz.func129 ?_;intro _ _ _ _;refine Q94 ?_;refine q70 ?_;refine Q35 ?_;refine yK7 ?_;refine yC9 ?_;exact zV3 rfl
theorem z42 {f:FuncId} {H:List DV} {r:List Range} (T:zVV Tryz.prog f H (r.map λx=>[aE.dv x])) (hr:r.length<=LIM):zE Tryz.prog 207 [.v (.slice none 0 0),.fn f H] [zI aE r]:=by
 refine co Tryz.func207 ?_;intro _ _ _ _;refine Q0 ?_;refine yH rfl (z9C lr rfl rfl rfl) ?_;refine Q1 ?_;refine zO (zDF (bid:=2) (off:=0) 100 43 aE.size lr (by decide) rfl rfl rfl) ?_;refine z76 ?_;refine yY ?_;refine zY4 [(2,.ptr 2 0),(4,.d (.v (.slice none 0 0)))] [2] (λk=>[(2,.box 24 [.row 100]),(100,.row 43 aE.size false (aE.all (r.take k)))]) rfl T rfl (λ_ _ _ _ h=>h) ?hk ?hT rfl (λ_=>rfl) ?hbx (λ_ _=>rfl) ?hl ?hpn ?rd ?hK
 case hk=>exact⟨rfl,rfl,trivial⟩
 case hT=>exact⟨rfl,rfl,trivial⟩
 case hbx=>intro k id hi;simp at hi;subst hi;exact λ(h:Blk.box _ _=Blk.none)=>by cases h
 case hl=>intro x O;obtain⟨y,_,rfl⟩:=eM.1 O;rfl
 case hpn=>intro p Z;simp at Z;subst Z;exact lr
 case rd=>
  intro w1 Iall X C0 ah Y l1 D ad ag ac k x O;rw[dW] at O;obtain⟨v,hv,rfl⟩:=fa.1 O;have ab:=(c8.1 hv).1;have K:app (r.take k) [v]=some (r.take (k+1)):=by
   unfold app;rw[dG (by simp;omega),List.take_add_one,hv]
   rfl
  refine x9<|Q68 ?_;refine yY<|x9<|q27 O24 ?_;refine jW ((k7 lr G43 rfl rfl rfl rfl).data rfl) ?_;refine q23 S24 ?_;refine yH rfl (yI (en:=aE) (l:=r.take k) (m:=[v]) lr S24 rfl rfl rfl K (by decide) (by decide) rfl rfl) ?_;refine q92 O24 ?_;refine zN ?_;exact⟨rfl,rfl,trivial⟩
 case hK=>
  rw[e7,List.take_length];refine Q0 ?_;refine q27 O24 ?_;refine Q11 ?_;refine yE ?_;exact zV3 rfl
theorem yDC {f:FuncId} {h:List DV} {r:List Range} (k:zVV Tryz.prog f h (r.map λx=>[aE.dv x])) (D:r.length<=LIM):zE Tryz.prog 189 [.fn f h] [zI aE r]:=by refine co Tryz.func189 ?_;intro _ _ _ _;refine Q53 ?_;refine q6 (z42 k D) ?_;refine yC9 ?_;exact zV3 rfl
theorem zUL {K:List bM} {a1:List Int} {r:List Range} (h:zFA K a1=some r):zE Tryz.prog 155 [(zI aR K),(zI eI a1)] [zI aE r]:=by
 unfold zFA at h;have ⟨T,D,O⟩:=bE h;clear h;have ⟨Y,H,h⟩:=bE O;clear O;unfold yOR at h;split at h
 case isFalse=>cases h
 rename_i k;cases h;refine co Tryz.func155 ?_;intro _ _ _ _;refine Q53 ?_;refine q6 (zK4 D) ?_;refine q0 ?_;refine q6 zM9 ?_;refine q6 (yDC (zK5 H) k) ?_;refine yC9 ?_;exact zV3 rfl
theorem zWL {O r} (h:zI3 O=some r):zE Tryz.prog 195 [(di O)] [(cK.dv r)]:=by refine co Tryz.func195 ?_;intro _ _ _ _;unfold zI3 at h;refine Q0 ?_;refine yCU ?_;refine zN<|Q4 ?_;have ⟨_,k,h⟩:=bE h;refine q6 (zLF k) ?_;refine Q6 ?_;refine zZ h (λh=>?_) (λh=>?_);refine Q0 ?_;refine q89 zSS ?_;refine q18 z4B ?_;refine zN ?_;cases h;refine yE ?_;exact wW rfl rfl z4B rfl;refine zP<|Q2 ?_;refine q34 ?_;refine Q15 ?_;have ⟨_,k,h⟩:=bE h;refine z7S k ?_;have ⟨H,k,h⟩:=bE h;refine z7S k ?_;refine q3 ?_;refine q0 ?_;have ⟨_,k,h⟩:=bE h;refine z7S k ?_;have ⟨K,k,h⟩:=bE h;refine z02 k ?_;refine q3 ?_;refine q89 zSS ?_;refine yCU ?_;refine q18 z4B ?_;refine zN<|Q4 ?_;have ⟨_,k,h⟩:=bE h;refine z02 k ?_;refine Q59 ?_;have ⟨T,D,h⟩:=bE h;refine tl .normal ⟨[(2,.ptr 2 0),(4,.ptr 4 0)],[(2,.box 219 [.d (di 0),.d (di 0),.d (di 0)]),(4,.box 219 [.d (di (({x0:=wi (4352+H),x1:=wi (4449+K),x2:=0}:b4).x0)),.d (di (({x0:=wi (4352+H),x1:=wi (4449+K),x2:=0}:b4).x1)),.d (di T)])]⟩ ?_ ?_;refine zZ D (λD=>?_) (λD=>?_);refine Q8 ?_;have ⟨_,k,D⟩:=bE D;refine z02 k ?_;refine q3 ?_;refine q34 ?_;refine q75 zSS ?_;refine z40 ?_;exact eo D;refine zP ?_;exact eo D;refine Q0 ?_;refine jW ((k7 lr z4B rfl rfl rfl rfl).data rfl) ?_;refine q18 z4B ?_;refine zN ?_;cases h;refine yE ?_;exact wW rfl rfl z4B rfl
theorem zQF {D r} (h:zCV D=some r):zE Tryz.prog 168 [(di D)] [(zI eI r)]:=by refine co Tryz.func168 ?_;intro _ _ _ _;unfold zCV at h;refine Q53 ?_;have ⟨H,k,h⟩:=bE h;refine q6 (zWL k) ?_;refine yCU ?_;refine q18 z4B ?_;refine zN ?_;refine zO (zT (t:=3) lr rfl rfl rfl) ?_;refine yV<|Q66 ?_;refine q12 z4B ?_;refine q89 zSS ?_;refine jW (z0P (en:=cK) (a:=H) (b:=({x0:=0,x1:=0,x2:=0}:b4)) lr yTM rfl rfl) ?_;refine Q1 ?_;refine zZ h (λh=>?_) (λh=>?_);refine Q2 ?_;refine q23 yF ?_;refine Q1 ?_;exact er h;refine Q0 ?_;refine yCW zSS ?_;refine q7 O3 ?_;refine Q98 ?_;refine zZ h (λh=>?_) (λh=>?_);refine Q0 ?_;refine yCW zSS ?_;refine q7 O3 ?_;refine yCW zSS ?_;refine q7 O3 ?_;refine q23 yF ?_;refine Q1 ?_;exact er h;refine Q46 ?_;refine yCW zSS ?_;refine q7 O3 ?_;refine yCW zSS ?_;refine q7 O3 ?_;refine yCW zSS ?_;refine q7 O3 ?_;refine q23 yF ?_;refine Q1 ?_;exact er h
theorem zAT {H:DV} {K:(List aI)} {a1:Int} {a2:aI->Int->Option (Int)} (Y:∀x0 x1 y,a2 x0 x1=some y->FnC Tryz.prog H [(aC.dv x0),(di x1)] [(di y)]) {r:Int×Bool} (h:yR K a1 a2=some r):zE Tryz.prog 169 [(zI aC K),(di a1),H] [(di r.1),(db r.2)]:=by
 refine co Tryz.func169 ?_;intro _ _ _ _;unfold yR at h;refine Q0 ?_;refine z8B ?_;refine q4 S23 ?_;refine Q15 ?_;refine q1 ?_;refine Q90 ?_;have ⟨y1,k,h⟩:=bE h;refine tl (.exit 0) ⟨[(0,.d (zI aC K)),(1,.d (di a1)),(2,.d H),(8,.d (di (K.length:Int))),(9,.d (di y1))],[]⟩ ?_ ?_;refine zD (λx=>⟨[(0,.d (zI aC K)),(1,.d (di a1)),(2,.d H),(8,.d (di (K.length:Int))),(9,.d (di x.1)),(10,.d (di x.2))],[]⟩) k wc ?_
 rintro⟨v9,ag⟩ ad O
 replace O:yB K a2 a1 v9 ag=some ad:=O;unfold yB at O;refine Q75 ?_;refine zZ O (λO=>?_) (λO=>?_);refine zP ?_;have ⟨y2,D,O⟩:=bE O;refine tl .normal ⟨[(0,.d (zI aC K)),(1,.d (di a1)),(2,.d H),(8,.d (di (K.length:Int))),(9,.d (di y2.1)),(10,.d (di y2.2))],[]⟩ ?_ ?_;refine z09 ?_;refine z8C ?_;refine Q15 ?_;refine Q12 ?_;have ⟨_,k,D⟩:=bE D;refine q11 S23 k ?_;refine z01 G60 k ?_;refine q0 ?_;have ⟨_,k,D⟩:=bE D;refine yCV (Y _ _ _ k) ?_;refine Q6 ?_;refine zZ D (λD=>?_) (λD=>?_);refine Q13 ?_;exact eo D;refine Q91 ?_;exact eo D;exact ew O;exact zG (ex O);refine Q2 ?_;refine Q12 ?_;refine q5 ?_;have ⟨_,k,h⟩:=bE h;refine q9 k ?_;refine q15 (.d H) ?_;refine q15 (.d (zI aC K)) ?_;refine q15 (.d (di y1)) ?_;have ⟨aa,T,h⟩:=bE h;refine sqt (.ip (aC.all K) (y1.toNat*aC.size)) rfl (λhb=>by subst hb;exact kX (en:=aC) lr S23 rfl rfl T) ?_
 refine sqt (.d (aC.dv aa)) rfl (λhb=>by subst hb;exact uC (en:=aC) (l:=K) (i:=y1) (v:=aa) (off:=0) lr G60 rfl T rfl rfl (by decide)) ?_
 refine q15 (.d (di a1)) ?_;have ⟨ab,Z,h⟩:=bE h;refine sqt (.d (di ab)) rfl (λhb=>by subst hb;exact zKT lr rfl rfl (Y _ _ _ Z)) ?_
 refine z00 (.d (db (decide (ab=0)))) ?_;refine q17 ?_;refine Q51 ?_;cases h;refine yE ?_;exact zHM rfl rfl
theorem zQG {D a1 r} (h:uL D a1=some r):zE Tryz.prog 170 [(aC.dv D),(di a1)] [(di r)]:=by refine co Tryz.func170 ?_;intro _ _ _ _;unfold uL at h;refine Q33 ?_;refine Q35 ?_;refine z08 ?_;refine q0 ?_;have ⟨_,k,h⟩:=bE h;refine q6 (vS k) ?_;refine Q1 ?_;exact er h
theorem zLZ {T a1 a2 r} (h:u2 T a1 a2=some r):zE Tryz.prog 127 [(bD.dv T),(di a1),(db a2)] [(zI eI r.1),(db r.2)]:=by
 refine co Tryz.func127 ?_;intro _ _ _ _;unfold u2 at h;refine Q33 ?_;refine z41 ?_;have ⟨_,k,h⟩:=bE h;refine q6 (zLF k) ?_;refine Q86 ?_;refine zZ h (λh=>?_) (λh=>?_);refine Q2 ?_;have ⟨_,k,h⟩:=bE h;refine q6 (zQF k) ?_;refine Q51 ?_;cases h;refine yE ?_;exact zHM rfl rfl;refine Q46 ?_;refine z1A ?_;refine q0 ?_;have ⟨H,k,h⟩:=bE h;refine q6 (zAT (λ_ _ _ q=> .inr ⟨_,rfl,zQG q⟩) k) ?_;refine Q83 ?_;refine z41 ?_;refine q28 ?_;have ⟨_,k,h⟩:=bE h;refine q9 k ?_;refine q24 (.ip (bD.cells T) (0+1)) zWD ?_;refine q26 (.d (zI aC T.aA)) O23 ?_;refine q42 (.d (di H.1)) ?_;have ⟨K,O,h⟩:=bE h;refine sqf (.ip (aC.all T.aA) (H.1.toNat*aC.size)) rfl (λhb=>by subst hb;exact kX (en:=aC) lr S23 rfl rfl O) ?_
 refine yKS (.ip (aC.all T.aA) (H.1.toNat*aC.size+2)) zFW ?_;refine sqf (.d (ds K.bO)) rfl (λhb=>by subst hb;exact yA (en:=aC) (l:=T.aA) (i:=H.1) (v:=K) (off:=2) lr O9 rfl O rfl) ?_
 refine sqf (.d (db (!(K.bO== [])))) rfl (λhb=>by subst hb;exact z6X (a:=K.bO) (b:=[]) lr rfl rfl) ?_
 have ⟨D,Z,h⟩:=bE h;refine sqf (.d (db D)) rfl (λhb=>by subst hb;exact(kF lr rfl).bool (oi Z)) ?_
 refine wI (x:= .d (db a2)) rfl rfl rfl lr lr rfl (λhb=>by obtain⟨hb,Y⟩:=zS hb;obtain rfl:=gF hb;obtain rfl:D=true:=Y;exact kF lr rfl) ?_
 refine wI (x:= .d (db (!a2))) rfl rfl rfl lr lr rfl (λhb=>by obtain⟨hb,Y⟩:=zS hb;obtain rfl:=gF hb;obtain rfl:D=true:=Y;exact zYV lr rfl) ?_
 refine q96 (.d (db (D&&(!a2)))) ?_;refine Q45 ?_;refine zZ h (λh=>?_) (λh=>?_);refine Q0 ?_;refine Q51 ?_;refine zO (zG0 (t:=6) eI.size lr rfl) ?_;cases h;refine yE ?_;exact zHM rfl rfl;refine Q46 ?_;refine z1A ?_;refine q0 ?_;have ⟨_,k,h⟩:=bE h;refine q11 S23 k ?_;refine q58 zIC ?_;refine q99 O37 k ?_;refine Q51 ?_;cases h;refine yE ?_;exact zHM rfl rfl
theorem zNF:∀(n:Nat) {T:Int} {a1:Norm} {a2:(List (Int×Int))} {a3:Bool} {a5:Bool} {r:Int×Bool×Bool×(List (Int×Int))},yJ n T a1 a2 a3 a5=some r->GC Tryz.prog 190 [.d (di T),.d (.pt (bD.cells a1)),.ptr 3002 0,.ptr 3003 0,.ptr 3004 0,.ptr 3005 0] [(3002,.box 103 [.row 3140]),(3003,.box 4 [.d (db a3)]),(3004,.box 147 [.clo 190 [.d (.pt (bD.cells a1)),.ptr 3002 0,.ptr 3003 0,.ptr 3004 0,.ptr 3005 0]]),(3005,.box 4 [.d (db a5)]),(3140,.map (wK kI eI a2))] [3002,3003,3004,3005,3140] [.d (di r.1)] [(3002,.box 103 [.row 3140]),(3003,.box 4 [.d (db r.2.1)]),(3004,.box 147 [.clo 190 [.d (.pt (bD.cells a1)),.ptr 3002 0,.ptr 3003 0,.ptr 3004 0,.ptr 3005 0]]),(3005,.box 4 [.d (db r.2.2.1)]),(3140,.map (wK kI eI r.2.2.2))]:=by
 intro n
 induction n with
 | zero=>intro T a1 a2 a3 a5 r h;cases h
 | succ n ih=>
 intro T a1 a2 a3 a5 r h;replace h:jJ (yJ n) T a1 a2 a3 a5=some r:=h;generalize yJ n=ad at h ih;refine zD4 Tryz.func190 (by kernel_rfl) rfl lr lr λw0 I0 ak p0=>?_;unfold jJ at h;refine Q3 ?_;refine Q0 ?_;refine q12 G28 ?_;refine q0 ?_;have ⟨D,ac,h⟩:=bE h;refine q6 (zLZ ac) ?_;refine Q83 ?_;refine z41 ?_;refine q28 ?_;have ⟨_,ab,h⟩:=bE h;refine q9 ab ?_;refine q42 (.d (zI eI D.1)) ?_;refine q83 (.d (di (D.1.length:Int))) yF ?_;refine z7N (.d (db (decide ((D.1.length:Int)=0)))) ?_;refine Q45 ?_;refine zZ h (λh=>?_) (λh=>?_);refine Q3 ?_;cases h;refine yE ?_;exact⟨⟨_,_,rfl,rfl,rfl⟩,⟨rfl,rfl,rfl,rfl,rfl,trivial⟩⟩;refine Q74 ?_;refine q27 zF0 ?_;refine q0 ?_;refine jW (zZE (kv:=kI) (ev:=eI) (mp:=a2) (k:=T) (zero:=0) lr zBN K3 rfl rfl rfl (λ_ _=> .v _)) ?_;refine Q83 ?_;refine z8B ?_;refine zN ?_;refine zZ h (λh=>?_) (λh=>?_);refine Q0 ?_;refine q27 O4 ?_;have ⟨_,k,h⟩:=bE h;refine q9 k ?_;refine q42 (.d (di (mgetD a2 T 0))) ?_;refine z7N (.d (db (decide ((mgetD a2 T 0)=(-1))))) ?_;refine q22 ?_;refine q66 O4 ?_;refine zN<|Q2 ?_;refine yK5 ?_;refine Q1 ?_;cases h;refine yE ?_;exact⟨⟨_,_,rfl,rfl,rfl⟩,⟨rfl,rfl,rfl,rfl,rfl,trivial⟩⟩;refine Q46 ?_;refine q27 zF0 ?_;refine q0 ?_;refine yCR zBN K3 ?_;refine zN<|Q43 ?_;refine Q63 ?_;have ⟨Z,k,h⟩:=bE h;refine tl (.exit 0) ⟨[(0,.d (di T)),(2,.ptr 3002 0),(3,.ptr 3003 0),(4,.ptr 3004 0),(5,.ptr 3005 0),(12,.d (di Z.1))],[(3002,.box 103 [.row 3140]),(3003,.box 4 [.d (db Z.2.1)]),(3004,.box 147 [.clo 190 [.d (.pt (bD.cells a1)),.ptr 3002 0,.ptr 3003 0,.ptr 3004 0,.ptr 3005 0]]),(3005,.box 4 [.d (db Z.2.2.1)]),(3140,.map (wK kI eI Z.2.2.2))]⟩ ?_ ?_;refine zD (λx=>⟨[(0,.d (di T)),(2,.ptr 3002 0),(3,.ptr 3003 0),(4,.ptr 3004 0),(5,.ptr 3005 0),(12,.d (di x.1)),(44,.d (zI eI D.1)),(45,.d (di (D.1.length:Int))),(46,.d (di x.2.1))],[(3002,.box 103 [.row 3140]),(3003,.box 4 [.d (db x.2.2.1)]),(3004,.box 147 [.clo 190 [.d (.pt (bD.cells a1)),.ptr 3002 0,.ptr 3003 0,.ptr 3004 0,.ptr 3005 0]]),(3005,.box 4 [.d (db x.2.2.2.1)]),(3140,.map (wK kI eI x.2.2.2.2))]⟩) k wc ?_
 rintro⟨ah,ai,K,O,Y⟩ ag H
 replace H:jS D ad a1 ah ai K O Y=some ag:=H;unfold jS at H;refine Q18 ?_;refine zZ H (λH=>?_) (λH=>?_);refine Q32 ?_;have ⟨_,k,H⟩:=bE H;refine q11 yF k ?_;refine q36 O3 k ?_;refine Q1 ?_;refine Q8 ?_;refine q27 yOY ?_;refine q0 ?_;have ⟨_,k,H⟩:=bE H;refine yH rfl (z30 [(3002,3002),(3003,3003),(3004,3004),(3005,3005),(3140,3140)] (ih k) lr (by decide) rfl ⟨rfl,rfl,rfl,rfl,rfl,rfl,trivial⟩ rfl rfl ⟨rfl,rfl,rfl,rfl,rfl,trivial⟩ rfl rfl rfl rfl) ?_;refine q3 ?_;refine yGH ?_;refine Q1 ?_;refine Q20 ?_;exact ew H;exact zG (ex H);refine Q0 ?_;refine q27 zF0 ?_;refine Q12 ?_;refine yCR zBN K3 ?_;refine Q54 ?_;refine q27 O4 ?_;have ⟨_,k,h⟩:=bE h;refine q9 k ?_;refine q42 (.d (di Z.1)) ?_;refine q59 (.d (db (decide (64<Z.1)))) ?_;refine q22 ?_;refine q66 O4 ?_;refine zN<|Q40 ?_;cases h;refine yE ?_;exact⟨⟨_,_,rfl,rfl,rfl⟩,⟨rfl,rfl,rfl,rfl,rfl,trivial⟩⟩
set_option maxHeartbeats 8000000 in
theorem zPJ {H r} (h:decompose_measure H=some r):zE Tryz.prog 156 [(bD.dv H)] [(db r.1),(db r.2)]:=by
 refine co Tryz.func156 ?_;intro _ _ _ _;unfold decompose_measure at h;refine Q33 ?_;refine yH rfl (kK (zs:=[(.bool false)]) lr (by kernel_rfl) rfl rfl) ?_;refine yH rfl (kK (zs:=[(.bool false)]) lr (by kernel_rfl) rfl rfl) ?_;refine Q54 ?_;refine z7O ?_;refine yH rfl (kK (zs:=[(.map none)]) lr (by kernel_rfl) rfl rfl) ?_;refine q92 zF0 ?_;refine Q54 ?_;refine yH rfl (kK (zs:=[.nilFunc]) lr (by kernel_rfl) rfl rfl) ?_;refine Q54 ?_;refine jW (zSQ (cs:=[.d (.pt (bD.cells H)),.ptr 4 0,.ptr 2 0,.ptr 5 0,.ptr 3 0]) lr ⟨_,_,rfl,rfl,⟨_,_,rfl,rfl,⟨_,_,rfl,rfl,⟨_,_,rfl,rfl,⟨_,_,rfl,rfl,rfl⟩⟩⟩⟩⟩) ?_;refine yH rfl (zN6 yOY rfl rfl lr rfl rfl rfl rfl) ?_;refine z07 ?_;refine z1A ?_;refine z78 ?_;have ⟨T,k,h⟩:=bE h;refine tl (.exit 0) ⟨[(2,.ptr 2 0),(3,.ptr 3 0)],[(2,.box 4 [.d (db T.1)]),(3,.box 4 [.d (db T.2)])]⟩ ?_ ?_;refine zD (λx=>⟨[(2,.ptr 2 0),(3,.ptr 3 0),(5,.ptr 5 0),(11,.d (zI aC H.aA)),(12,.d (di (H.aA.length:Int))),(13,.d (di x.1))],[(2,.box 4 [.d (db x.2.1)]),(3,.box 4 [.d (db x.2.2.1)]),(4,.box 103 [.row 8]),(5,.box 147 [.clo 190 [.d (.pt (bD.cells H)),.ptr 4 0,.ptr 2 0,.ptr 5 0,.ptr 3 0]]),(8,.map (wK kI eI x.2.2.2))]⟩) k wc ?_
 rintro⟨Z,K,O,r8⟩ Y D
 replace D:k8 H Z K O r8=some Y:=D;unfold k8 at D;refine Q18 ?_;refine zZ D (λD=>?_) (λD=>?_);refine Q32 ?_;have ⟨_,k,D⟩:=bE D;refine q11 S23 k ?_;refine z01 G60 k ?_;refine z79 ?_;refine zO (zT (t:=7) lr rfl rfl rfl) ?_;refine x9<|q27 yOY ?_;refine z08 ?_;have ⟨_,k,D⟩:=bE D;refine yH rfl (zU0 [(3002,4),(3003,2),(3004,5),(3005,3),(3140,8)] (zNF _ k) lr (by decide) rfl ⟨rfl,rfl,rfl,rfl,rfl,rfl,trivial⟩ rfl rfl ⟨rfl,rfl,rfl,rfl,rfl,trivial⟩ rfl rfl rfl (λ_=>rfl) rfl) ?_;refine zN<|Q20 ?_;exact ew D;exact zG (ex D);refine yV ?_;refine tl .normal ⟨[(2,.ptr 2 0),(3,.ptr 3 0)],[(2,.box 4 [.d (db T.1)]),(3,.box 4 [.d (db T.2)])]⟩ ?_ ?_;refine zF7 MX ?_;refine xn [0,1] ?_;refine q85 O4 ?_ ?_;refine xn [1,2] ?_;refine q85 O4 ?_ ?_;refine xn [2] ?_;refine yCX O4 ?_;refine xn [3] ?_;refine yCX O4 ?_;exact ae;refine yCX O4 ?_;refine xn [1] ?_;refine q41 O4 ?_;refine xn [3] ?_;refine yCX O4 ?_;exact ae;refine q41 O4 ?_;refine xn [0] ?_;refine q41 O4 ?_;refine xn [2] ?_;refine yCX O4 ?_;refine xn [3] ?_;refine yCX O4 ?_;exact ae;cases h;refine yE ?_;exact z68 rfl rfl O4 rfl rfl O4
theorem zK6 {K r} (h:zBV K=some r):zE Tryz.prog 109 [(bD.dv K)] [(di r)]:=by
 refine co Tryz.func109 ?_;intro _ _ _ _;unfold zBV at h;refine Q33 ?_;refine Q48 ?_;refine q2 zAZ ?_;refine q7 O22 ?_;have ⟨_,k,h⟩:=bE h;refine q6 (zLY k) ?_;refine Q67 ?_;refine zZ h (λh=>?_) (λh=>?_);refine Q40 ?_;exact er h;refine Q74 ?_;refine z1A ?_;have ⟨_,k,h⟩:=bE h;refine q6 (zUK k) ?_;refine Q67 ?_;refine zZ h (λh=>?_) (λh=>?_);refine Q40 ?_;exact er h;refine Q74 ?_;refine q2 yF2 ?_;refine q54 G26 ?_;have ⟨_,k,h⟩:=bE h;refine q6 (zX3 k) ?_;refine Q36 ?_;refine zZ h (λh=>?_) (λh=>?_);refine Q3 ?_;exact er h;refine z70 ?_;have ⟨y1,k,h⟩:=bE h;refine zQ y1 (.exit 0) (λy1=>⟨[(1,.d (.pt (bD.cells K)))],[]⟩) .ret (λy1=>⟨[(2,.d (di y1))],[]⟩) ?_ ?_ ?_;refine zD (λx=>⟨[(1,.d (.pt (bD.cells K))),(5,.d (di x))],[]⟩) k wc ?_
 rintro v5 ah T
 replace T:uM K v5=some ah:=T;unfold uM at T;refine Q4 ?_;refine z1A ?_;refine q4 S23 ?_;refine Q6 ?_;refine zZ T (λT=>?_) (λT=>?_);refine Q76 ?_;refine zW MX rfl ?_;refine q13 zWD ?_;refine q19 O23 ?_;refine q8 ?_;have ⟨_,k,T⟩:=bE T;refine q29 S23 k ?_;refine q60 zLV ?_;refine yGP O3 k ?_;refine q13 zWD ?_;refine q19 O23 ?_;refine q8 ?_;refine z4N ?_;have ⟨_,k,T⟩:=bE T;refine q29 S23 k ?_;refine q60 zLV ?_;refine yGP O3 k ?_;refine daa (zM2 lr rfl rfl) ?_;refine wF ?_;refine zZ T (λT=>?_) (λT=>?_);refine Q23 ?_;cases T;intro q;cases q;exact⟨rfl,wc⟩;refine Q38 ?_;exact ew T;refine zG ?_;cases T;intro q;cases q;exact⟨rfl,wc⟩
 rintro y1 rfl
 replace h:=eL h;refine Q31 ?_;refine z1A ?_;refine z78 ?_;have ⟨y2,k,h⟩:=bE h;refine zQ y2 (.exit 2) (λy2=>⟨[(1,.d (.pt (bD.cells K)))],[]⟩) .ret (λy2=>⟨[(2,.d (di y2))],[]⟩) ?_ ?_ ?_;refine zD (λx=>⟨[(1,.d (.pt (bD.cells K))),(51,.d (zI aC K.aA)),(52,.d (di (K.aA.length:Int))),(53,.d (di x))],[]⟩) k wc ?_
 rintro al ai O
 replace O:uN K al=some ai:=O;unfold uN at O;refine Q18 ?_;refine zZ O (λO=>?_) (λO=>?_);refine Q32 ?_;have ⟨H,k,O⟩:=bE O;refine q11 S23 k ?_;refine z01 G60 k ?_;refine z79 ?_;refine zO (zT (t:=7) lr rfl rfl rfl) ?_;refine Q0 ?_;refine q2 zFW ?_;refine q7 O9 ?_;refine jW (zQA (a:=H.bO) (b:=[]) lr rfl rfl) ?_;have ⟨_,k,O⟩:=bE O;refine q9 k ?_;refine q55 (.ip (aC.cells H) (0+1)) zIC ?_;refine q62 (.d (zI eI H.To)) O37 ?_;refine q98 (.d (di (H.To.length:Int))) yF ?_;refine yGM (.d (db (!decide ((H.To.length:Int)=1)))) ?_;refine q17 ?_;have ⟨_,k,O⟩:=bE O;refine q9 k ?_;refine q55 (.ip (aC.cells H) (0+1)) zIC ?_;refine q62 (.d (zI eI H.To)) O37 ?_;refine q98 (.d (di (H.To.length:Int))) yF ?_;refine yGM (.d (db (!decide ((H.To.length:Int)=2)))) ?_;refine Q39 ?_;refine zZ O (λO=>?_) (λO=>?_);refine Q23 ?_;cases O;intro q;cases q;exact⟨rfl,wc⟩;refine Q41 ?_;exact ew O;refine zG ?_;cases O;intro q;cases q;exact⟨rfl,wc⟩
 rintro y2 rfl
 replace h:=eL h;refine Q3 ?_;refine zO (xJ (t:=8) 1008 3 eI.size lr lr rfl rfl) ?_;refine Q31 ?_;refine z1A ?_;refine z78 ?_;have ⟨y3,k,h⟩:=bE h;refine zQ y3 (.exit 4) (λy3=>⟨[(1,.d (.pt (bD.cells K))),(8,.row 1008)],[(1008,.row 3 eI.size false (eI.all y3))]⟩) .ret (λy3=>⟨[(2,.d (di y3))],[]⟩) ?_ ?_ ?_;refine zD (λx=>⟨[(1,.d (.pt (bD.cells K))),(8,.row 1008),(74,.d (zI aC K.aA)),(75,.d (di (K.aA.length:Int))),(76,.d (di x.1))],[(1008,.row 3 eI.size false (eI.all x.2))]⟩) k wc ?_
 rintro⟨ag,Z⟩ aj Y
 replace Y:kD K ag Z=some aj:=Y;unfold kD at Y;refine Q18 ?_;refine zZ Y (λY=>?_) (λY=>?_);refine Q5 ?_;have ⟨y4,D,Y⟩:=bE Y;refine zQ y4 .normal (λy4=>⟨[(1,.d (.pt (bD.cells K))),(8,.row 1008),(74,.d (zI aC K.aA)),(75,.d (di (K.aA.length:Int))),(76,.d (di ag))],[(1008,.row 3 eI.size false (eI.all y4))]⟩) .ret (λy4=>⟨[(2,.d (di 11))],[]⟩) ?_ ?_ ?_;refine Q66 ?_;have ⟨ak,k,D⟩:=bE D;refine q11 S23 k ?_;refine z01 G60 k ?_;refine z79 ?_;refine zO (zT (t:=10) lr rfl rfl rfl) ?_;refine Q31 ?_;refine z08 ?_;have ⟨_,k,D⟩:=bE D;refine q6 (zLF k) ?_;refine Q37 ?_;refine zZ D (λD=>?_) (λD=>?_);refine Q23 ?_;exact ep D;refine Q46 ?_;refine q2 zFW ?_;refine q7 O9 ?_;refine yCQ ?_;refine zN ?_;refine zZ D (λD=>?_) (λD=>?_);refine Q26 ?_;refine z08 ?_;refine q23 yF ?_;have ⟨_,k,D⟩:=bE D;refine yH rfl (yI (en:=eI) (l:=Z) (m:=[ak.aW]) lr yF rfl rfl rfl k (by decide) (by decide) rfl rfl) ?_;refine Q11 ?_;exact ep D;refine zP ?_;exact ep D
 rintro y4 rfl
 replace Y:=eL Y;refine Q20 ?_;exact ew Y
 rintro y4 rfl
 replace Y:=eR Y;cases Y;intro q;cases q;exact⟨rfl,wc⟩;refine zG ?_;cases Y;intro q;cases q;exact⟨rfl,wc⟩
 rintro y3 rfl
 replace h:=eL h;refine Q31 ?_;refine q2 zAZ ?_;refine q7 O22 ?_;refine q10 ?_;have ⟨_,k,h⟩:=bE h;refine yH rfl (yEZ lr rfl rfl (zUL k)) ?_;refine q4 S24 ?_;refine Q59 ?_;refine zZ h (λh=>?_) (λh=>?_);refine Q3 ?_;exact er h;refine Q46 ?_;refine q12 G28 ?_;have ⟨_,k,h⟩:=bE h;refine q6 (zPJ k) ?_;refine Q83 ?_;refine q1 ?_;refine Q90 ?_;refine Q40 ?_;refine zZ h (λh=>?_) (λh=>?_);refine Q3 ?_;exact er h;refine Q40 ?_;refine zZ h (λh=>?_) (λh=>?_);refine Q3 ?_;exact er h;refine Q58 ?_;exact er h
 rintro y3 rfl
 replace h:=eR h;exact es h
 rintro y2 rfl
 replace h:=eR h;exact es h
 rintro y1 rfl
 replace h:=eR h;exact es h
theorem zDJ {D} {a1} {r:bI} (h:u3 D a1=some r):GC Tryz.prog 87 [.ptr 3000 0,.d (bD.dv a1)] [(3000,.box 139 [.d (zI bB D.c.aB),.d (zI bA D.c.aF),.d (di D.c.bL),.d (di D.c.bF),.d (di D.c.bK),.row 3105,.d (di D.bV),.d (zI aR D.bR),.d (di D.top)]),(3105,.map (wK zG3 (eL aG) D.entries))] [3000,3105] [.ptr 3000 0] [(3000,.box 139 [.d (zI bB r.c.aB),.d (zI bA r.c.aF),.d (di r.c.bL),.d (di r.c.bF),.d (di r.c.bK),.row 3105,.d (di r.bV),.d (zI aR r.bR),.d (di r.top)]),(3105,.map (wK zG3 (eL aG) r.entries))]:=by
 refine zD4 Tryz.func87 (by kernel_rfl) rfl lr lr λw0 I0 aa p0=>?_;unfold u3 at h;refine Q33 ?_;refine Q48 ?_;refine q12 G28 ?_;have ⟨_,k,h⟩:=bE h;refine q6 (zK6 k) ?_;refine Q89 ?_;have ⟨T,H,h⟩:=bE h;refine tl .normal ⟨[(0,.ptr 3000 0)],[(3000,.box 139 [.d (zI bB D.c.aB),.d (zI bA D.c.aF),.d (di D.c.bL),.d (di D.c.bF),.d (di D.c.bK),.row 3105,.d (di D.bV),.d (zI aR T),.d (di D.top)]),(3105,.map (wK zG3 (eL aG) D.entries))]⟩ ?_ ?_;refine zZ H (λH=>?_) (λH=>?_);refine x9<|z7Q ?_;refine q2 zAZ ?_;refine q7 O22 ?_;refine yK8 ?_;refine q52 zQB ?_;refine q66 O22 ?_;refine zN ?_;exact eo H;refine zP ?_;exact eo H;refine Q31 ?_;refine z7Q ?_;refine yK8 ?_;refine q52 zQB ?_;refine q27 O22 ?_;refine q4 S22 ?_;refine Q24 ?_;have ⟨y2,k,h⟩:=bE h;refine tl (.exit 0) ⟨[(0,.ptr 3000 0)],[(3000,.box 139 [.d (zI bB D.c.aB),.d (zI bA D.c.aF),.d (di D.c.bL),.d (di D.c.bF),.d (di D.c.bK),.row 3105,.d (di D.bV),.d (zI aR T),.d (di y2)]),(3105,.map (wK zG3 (eL aG) D.entries))]⟩ ?_ ?_;refine zD (λx=>⟨[(0,.ptr 3000 0),(18,.d (zI aR T)),(19,.d (di (T.length:Int))),(20,.d (di x.1))],[(3000,.box 139 [.d (zI bB D.c.aB),.d (zI bA D.c.aF),.d (di D.c.bL),.d (di D.c.bF),.d (di D.c.bK),.row 3105,.d (di D.bV),.d (zI aR T),.d (di x.2)]),(3105,.map (wK zG3 (eL aG) D.entries))]⟩) k wc ?_
 rintro⟨Z,K⟩ Y O
 replace O:j8 T Z K=some Y:=O;unfold j8 at O;refine Q18 ?_;refine zZ O (λO=>?_) (λO=>?_);refine Q32 ?_;have ⟨_,k,O⟩:=bE O;refine q11 S22 k ?_;refine yK2 uY k ?_;refine yCU ?_;refine q18 uY ?_;refine zN ?_;refine zO (zT (t:=6) lr rfl rfl rfl) ?_;refine zF3 10 MX rfl ?_;refine yGJ ?_;refine yGJ ?_;refine yGK ?_;refine z4M z7F ?_;refine yK1 O3 ?_;refine q13 zIU ?_;refine q19 O3 ?_;refine daa (z9B lr rfl rfl) ?_;refine yGK ?_;refine z4M z7F ?_;refine wF<|z40 ?_;refine Q20 ?_;exact ew O;exact zG (ex O);refine Q0 ?_;refine z7Q ?_;refine yGI ?_;refine zN ?_;cases h;refine yE ?_;exact⟨⟨_,_,rfl,rfl,rfl⟩,⟨rfl,rfl,trivial⟩⟩
theorem zJ2 {D r} (h:zA7 D=some r):zE Tryz.prog 97 [(bD.dv D)] [(bD.dv r)]:=by refine co Tryz.func97 ?_;intro _ _ _ _;unfold zA7 at h;refine Q33 ?_;refine yK9 ?_;refine z07 ?_;refine q12 G28 ?_;have ⟨_,k,h⟩:=bE h;refine q6 (zK6 k) ?_;refine Q37 ?_;refine zZ h (λh=>?_) (λh=>?_);refine Q0 ?_;refine jW ((zFJ lr B28 rfl rfl).nils (bs:=bD.cells ({aK:=[],aA:=[],aN:=(({Ranges:=[]}):Set)}:Norm)) (nlN (nlN (nlN nl0)))) ?_;refine q18 G28 ?_;refine zN ?_;cases h;refine yE ?_;exact wW rfl rfl G28 rfl;refine Q46 ?_;refine q12 G28 ?_;refine q18 G28 ?_;refine zN ?_;cases h;refine yE ?_;exact wW rfl rfl G28 rfl
theorem zGI:∀(n:Nat) {K:Int} {a1:(List (Int×(List Int)))} {a2:Norm} {a3:Bool} {r:(List Int)×(List (Int×(List Int)))},kU n K a1 a2 a3=some r->GC Tryz.prog 126 [.d (di K),.ptr 3001 0,.d (.pt (bD.cells a2)),.d (.pt [(db a3)]),.ptr 3004 0] [(3001,.box 158 [.row 3120]),(3004,.box 126 [.clo 126 [.ptr 3001 0,.d (.pt (bD.cells a2)),.d (.pt [(db a3)]),.ptr 3004 0]]),(3120,.map (wK kI (eL eI) a1))] [3001,3004,3120] [.d (zI eI r.1)] [(3001,.box 158 [.row 3120]),(3004,.box 126 [.clo 126 [.ptr 3001 0,.d (.pt (bD.cells a2)),.d (.pt [(db a3)]),.ptr 3004 0]]),(3120,.map (wK kI (eL eI) r.2))]:=by
 intro n
 induction n with
 | zero=>intro K a1 a2 a3 r h;cases h
 | succ n ih=>
 intro K a1 a2 a3 r h;replace h:vO (kU n) K a1 a2 a3=some r:=h;generalize kU n=Y at h ih;refine zD4 Tryz.func126 (by kernel_rfl) rfl lr lr λw0 I0 ag p0=>?_;unfold vO at h;refine Q3 ?_;refine Q31 ?_;refine q27 yOZ ?_;refine q0 ?_;refine jW (zZE (kv:=kI) (ev:=(eL eI)) (mp:=a1) (k:=K) (zero:=[]) lr yRE K3 rfl rfl rfl (λ_ _=> .nil _ _ _)) ?_;refine Q83 ?_;refine z8B ?_;refine zN ?_;refine zZ h (λh=>?_) (λh=>?_);refine Q40 ?_;cases h;refine yE ?_;exact⟨⟨_,_,rfl,rfl,rfl⟩,⟨rfl,rfl,rfl,trivial⟩⟩;refine Q46 ?_;refine q12 G28 ?_;refine q0 ?_;refine q91 O4 ?_;have ⟨T,k,h⟩:=bE h;refine q6 (zLZ k) ?_;refine Q83 ?_;refine z41 ?_;refine Q36 ?_;refine zZ h (λh=>?_) (λh=>?_);refine Q2 ?_;refine q23 yF ?_;refine Q1 ?_;cases h;refine yE ?_;exact⟨⟨_,_,rfl,rfl,rfl⟩,⟨rfl,rfl,rfl,trivial⟩⟩;refine Q58 ?_;refine zO (xJ (t:=11) 1011 3 eI.size lr lr rfl rfl) ?_;refine Q4 ?_;refine Q63 ?_;have ⟨y1,k,h⟩:=bE h;refine tl (.exit 0) ⟨[(0,.d (di K)),(1,.ptr 3001 0),(4,.ptr 3004 0),(11,.row 1011)],[(1011,.row 3 eI.size false (eI.all y1.1)),(3001,.box 158 [.row 3120]),(3004,.box 126 [.clo 126 [.ptr 3001 0,.d (.pt (bD.cells a2)),.d (.pt [(db a3)]),.ptr 3004 0]]),(3120,.map (wK kI (eL eI) y1.2))]⟩ ?_ ?_;refine zD (λx=>⟨[(0,.d (di K)),(1,.ptr 3001 0),(4,.ptr 3004 0),(11,.row 1011),(33,.d (zI eI T.1)),(34,.d (di (T.1.length:Int))),(35,.d (di x.1))],[(1011,.row 3 eI.size false (eI.all x.2.1)),(3001,.box 158 [.row 3120]),(3004,.box 126 [.clo 126 [.ptr 3001 0,.d (.pt (bD.cells a2)),.d (.pt [(db a3)]),.ptr 3004 0]]),(3120,.map (wK kI (eL eI) x.2.2))]⟩) k wc ?_
 rintro⟨ab,H,O⟩ Z D
 replace D:jL T Y a2 a3 ab H O=some Z:=D;unfold jL at D;refine Q18 ?_;refine zZ D (λD=>?_) (λD=>?_);refine Q32 ?_;have ⟨_,k,D⟩:=bE D;refine q11 yF k ?_;refine q36 O3 k ?_;refine Q1 ?_;refine Q26 ?_;refine q27 yOX ?_;refine q0 ?_;have ⟨aa,k,D⟩:=bE D;refine yH rfl (z30 [(3001,3001),(3004,3004),(3120,3120)] (ih k) lr (by decide) rfl ⟨rfl,rfl,rfl,rfl,rfl,trivial⟩ rfl rfl ⟨rfl,rfl,rfl,trivial⟩ rfl rfl rfl rfl) ?_;have ⟨_,k,D⟩:=bE D;refine yH rfl (yI (en:=eI) (l:=H) (m:=aa.1) lr yF rfl rfl rfl k (by decide) (by decide) rfl rfl) ?_;refine Q11 ?_;refine Q20 ?_;exact ew D;exact zG (ex D);refine Q0 ?_;refine q27 yOZ ?_;refine q0 ?_;refine q10 ?_;refine zEP (zBC (t:=47) lr rfl rfl) ?_ (by simp);refine yCR yRE K3 ?_;refine zN<|Q52 ?_;refine zO (zBC (t:=6) lr rfl rfl) ?_;cases h;refine yE ?_;exact⟨⟨_,_,rfl,rfl,rfl⟩,⟨rfl,rfl,rfl,trivial⟩⟩
theorem zIH {k} {a1} {r:Unit} (h:zDH k a1=some r):GCA Tryz.prog 98 [.d (bD.dv k),.d (db a1)] [] [] (.clo 126 [.ptr 5 0,.d (.pt (bD.cells k)),.d (.pt [(db a1)]),.ptr 6 0]) [(5,.box 158 [.row 7]),(6,.box 126 [.clo 126 [.ptr 5 0,.d (.pt (bD.cells k)),.d (.pt [(db a1)]),.ptr 6 0]]),(7,.map (wK kI (eL eI) []))]:=by refine yE7 Tryz.func98 (by kernel_rfl) rfl lr lr rfl λw0 H D K=>?_;unfold zDH at h;refine Q33 ?_;refine q70 ?_;refine Q35 ?_;refine z7O ?_;refine yH rfl (kK (zs:=[(.map none)]) lr (by kernel_rfl) rfl rfl) ?_;refine q92 yOZ ?_;refine Q54 ?_;refine yH rfl (kK (zs:=[.nilFunc]) lr (by kernel_rfl) rfl rfl) ?_;refine Q54 ?_;refine jW (zSQ (cs:=[.ptr 5 0,.d (.pt (bD.cells k)),.d (.pt [(db a1)]),.ptr 6 0]) lr ⟨_,_,rfl,rfl,⟨_,_,rfl,rfl,⟨_,_,rfl,rfl,⟨_,_,rfl,rfl,rfl⟩⟩⟩⟩) ?_;refine yH rfl (zN6 yOX rfl rfl lr rfl rfl rfl rfl) ?_;refine Q54 ?_;refine q27 yOX ?_;refine yGQ ?_;refine zN ?_;cases h;refine yE ?_;exact⟨rfl,⟨rfl,rfl,rfl,trivial⟩⟩
theorem zMP {D r:(List Int)} (h:zB6 D=some r):GC Tryz.prog 66 [.d (zI eI D)] [] [] [.row 5] [(5,.row 3 eI.size false (eI.all r))]:=by
 unfold zB6 at h;cases D with
 | nil=>
  refine yFN (by decide) λB c=>?_;refine zD4 Tryz.func66 (by kernel_rfl) rfl lr lr λw0 K H O=>?_;refine Q43 ?_;refine jW (yB9 lr Tryz.underlying37 rfl) ?_;refine zN ?_;refine zJL rfl ⟨λk=>?_,λk=>?_⟩;obtain⟨rfl,_⟩:=zQ9 h;refine Q3 ?_;refine zO (xJ (t:=2) 5 3 eI.size lr lr rfl rfl) ?_;refine yE ?_;exact⟨⟨_,_,rfl,rfl,rfl⟩,rfl,trivial⟩;refine zP ?_;refine Q0 ?_;refine z7T yF ?_;refine q0 ?_;refine zEP (z0T (t:=6) eI.size lr rfl) ?_ (by simp);refine yH rfl (yI (en:=eI) (l:=[]) (m:=[]) lr yF rfl rfl rfl h (by decide) (by decide) rfl rfl) ?_;refine Q11 ?_;refine yE ?_;exact⟨⟨_,_,rfl,rfl,rfl⟩,rfl,trivial⟩
 | cons x l=>
  refine zD4 Tryz.func66 (by kernel_rfl) rfl lr lr λw0 K H O=>?_;refine Q43 ?_;refine jW (yJ7 lr Tryz.underlying37 rfl (yOL (by decide))) ?_;refine zN ?_;refine zJL rfl ⟨λk=>(by cases k),λk=>?_⟩;refine Q46 ?_;refine z7T yF ?_;refine q0 ?_;refine yH rfl (yI (en:=eI) (l:=[]) (m:=x::l) lr yF rfl rfl rfl h (by decide) (by decide) rfl rfl) ?_;refine Q11 ?_;refine yE ?_;exact⟨⟨_,_,rfl,rfl,rfl⟩,rfl,trivial⟩
theorem zRQ {D a1 a2 r} (h:vY D a1 a2=some r):zE Tryz.prog 131 [(di D),(di a1),(.pt [(zI aR a2)])] [(di r)]:=by refine co Tryz.func131 ?_;intro _ _ _ _;unfold vY at h;refine Q3 ?_;refine yV ?_;refine zW MX rfl ?_;refine yGR O22 ?_;refine q8 ?_;have ⟨_,k,h⟩:=bE h;refine q20 (zHI k) ?_;refine yGR O22 ?_;refine q8 ?_;have ⟨_,k,h⟩:=bE h;refine q20 (zHI k) ?_;have ⟨_,k,h⟩:=bE h;refine q20 (vS k) ?_;refine Q44 ?_;exact er h
set_option maxHeartbeats 8000000 in
theorem zBO {ab:DV} {a0:(List Int)} {a1:Int} {a2:Int} {a3:Int->Int->Option (Int)} (an:∀x0 x1 y,a3 x0 x1=some y->FnC Tryz.prog ab [(di x0),(di x1)] [(di y)]) {r:(List Int)} (h:kV a0 a1 a2 a3=some r):GC Tryz.prog 196 [.row 3000,.d (di a1),.d (di a2),.d ab] [(3000,.win 3 eI.size 0 (eI.all a0))] [3000] [] [(3000,.win 3 eI.size 0 (eI.all r))]:=by
 refine zD4 Tryz.func196 (by kernel_rfl) rfl lr lr λw0 I0 ar p0=>?_;unfold kV at h;refine Q2 ?_;refine Q10 ?_;refine yY ?_;have ⟨y1,k,h⟩:=bE h;refine tl (.exit 0) ⟨[(0,.row 3000)],[(3000,.win 3 eI.size 0 (eI.all y1))]⟩ ?_ ?_;refine zD (λx=>⟨[(0,.row 3000),(1,.d (di a1)),(2,.d (di a2)),(3,.d ab),(8,.d (di x.1))],[(3000,.win 3 eI.size 0 (eI.all x.2))]⟩) k wc ?_
 rintro⟨v8,T⟩ ao p1
 replace p1:z8 a2 a1 a3 v8 T=some ao:=p1;unfold z8 at p1;refine Q75 ?_;refine zZ p1 (λp1=>?_) (λp1=>?_);refine Q9 ?_;refine Q40 ?_;refine yY ?_;have ⟨y2,k,p1⟩:=bE p1;refine tl (.exit 2) ⟨[(0,.row 3000),(1,.d (di a1)),(2,.d (di a2)),(3,.d ab),(8,.d (di v8))],[(3000,.win 3 eI.size 0 (eI.all y2))]⟩ ?_ ?_;refine zD (λx=>⟨[(0,.row 3000),(1,.d (di a1)),(2,.d (di a2)),(3,.d ab),(8,.d (di v8)),(9,.d (di x.1))],[(3000,.win 3 eI.size 0 (eI.all x.2))]⟩) k wc ?_
 rintro⟨v9,T⟩ ap Z
 replace Z:yC a1 a3 v9 T=some ap:=Z;unfold yC at Z;refine yV<|yV ?_;refine zW MX rfl ?_;refine Q25 ?_;refine z7P ?_;have ⟨_,k,Z⟩:=bE Z;refine q47 k ?_;refine q48 (.d ab) ?_;refine yGO (.row 3000) ?_;refine q48 (.d (di v9)) ?_;have ⟨aj,ag,Z⟩:=bE Z;refine dat (.wp 3000 (v9.toNat*eI.size)) rfl (λhb=>by subst hb;exact zHV (en:=eI) (l:=T) lr yF rfl rfl rfl ag) ?_
 refine dat (.d (di aj)) rfl (λhb=>by subst hb;exact zMJ (en:=eI) (l:=T) (i:=v9) (v:=aj) lr O3 rfl rfl ag rfl) ?_
 refine yGO (.row 3000) ?_;refine q48 (.d (di v9)) ?_;refine yCS (.d (di (wi (v9-1)))) ?_;have ⟨ak,ah,Z⟩:=bE Z;refine dat (.wp 3000 ((wi (v9-1)).toNat*eI.size)) rfl (λhb=>by subst hb;exact zHV (en:=eI) (l:=T) lr yF rfl rfl rfl ah) ?_
 refine dat (.d (di ak)) rfl (λhb=>by subst hb;exact zMJ (en:=eI) (l:=T) (i:=(wi (v9-1))) (v:=ak) lr O3 rfl rfl ah rfl) ?_
 have ⟨al,ai,Z⟩:=bE Z;refine dat (.d (di al)) rfl (λhb=>by subst hb;exact zKT lr rfl rfl (an _ _ _ ai)) ?_
 refine dat (.d (db (decide (al<0)))) rfl (λhb=>by subst hb;exact zQ1 lr rfl rfl) ?_
 refine Q95 ?_;refine zZ Z (λZ=>?_) (λZ=>?_);refine Q9 ?_;have ⟨_,k,Z⟩:=bE Z;have ⟨_,Y,Z⟩:=bE Z;have ⟨_,K,Z⟩:=bE Z;have ⟨_,D,Z⟩:=bE Z;have ⟨_,O,Z⟩:=bE Z;have ⟨aa,H,Z⟩:=bE Z;refine tl .normal ⟨[(0,.row 3000),(1,.d (di a1)),(2,.d (di a2)),(3,.d ab),(8,.d (di v8)),(9,.d (di v9))],[(3000,.win 3 eI.size 0 (eI.all aa))]⟩ ?_ ?_;refine zF7 MX ?_;refine z77 ?_;refine xm 2 ?_;refine xm 3 ?_;refine zMK (i:=4) rfl lr rfl rfl rfl rfl rfl rfl ?_;refine xm 5 ?_;refine xm 6 ?_;refine zMK (i:=7) rfl lr rfl rfl rfl rfl rfl rfl ?_;refine xm 10 ?_;refine xm 11 ?_;refine xn [8,12] ?_;refine z4O yF k ?_ ?_;refine xn [9,12] ?_;refine q86 O3 k ?_ ?_;refine xn [12] ?_;refine q21 yF Y ?_;refine xn [13] ?_;refine q38 O3 Y ?_;refine xn [14] ?_;refine q21 yF K ?_;refine xn [15] ?_;refine q25 O3 K D ?_;refine xn [16] ?_;refine q21 yF O ?_;refine xn [17] ?_;refine q25 O3 O H ?_;exact ae;refine q21 yF Y ?_;refine xn [9,13] ?_;refine q86 O3 k ?_ ?_;refine xn [13] ?_;refine q38 O3 Y ?_;refine xn [14] ?_;refine q21 yF K ?_;refine xn [15] ?_;refine q25 O3 K D ?_;refine xn [16] ?_;refine q21 yF O ?_;refine xn [17] ?_;refine q25 O3 O H ?_;exact ae;refine q38 O3 Y ?_;refine xn [9] ?_;refine q38 O3 k ?_;refine xn [14] ?_;refine q21 yF K ?_;refine xn [15] ?_;refine q25 O3 K D ?_;refine xn [16] ?_;refine q21 yF O ?_;refine xn [17] ?_;refine q25 O3 O H ?_;exact ae;refine q21 yF Y ?_;refine xn [8,13] ?_;refine z4O yF k ?_ ?_;refine xn [9,13] ?_;refine q86 O3 k ?_ ?_;refine xn [13] ?_;refine q38 O3 Y ?_;refine xn [14] ?_;refine q21 yF K ?_;refine xn [15] ?_;refine q25 O3 K D ?_;refine xn [16] ?_;refine q21 yF O ?_;refine xn [17] ?_;refine q25 O3 O H ?_;exact ae;refine q38 O3 Y ?_;refine xn [9] ?_;refine q38 O3 k ?_;refine xn [14] ?_;refine q21 yF K ?_;refine xn [15] ?_;refine q25 O3 K D ?_;refine xn [16] ?_;refine q21 yF O ?_;refine xn [17] ?_;refine q25 O3 O H ?_;exact ae;refine q38 O3 Y ?_;refine xn [8] ?_;refine q21 yF k ?_;refine xn [9] ?_;refine q38 O3 k ?_;refine xn [14] ?_;refine q21 yF K ?_;refine xn [15] ?_;refine q25 O3 K D ?_;refine xn [16] ?_;refine q21 yF O ?_;refine xn [17] ?_;refine q25 O3 O H ?_;exact ae;refine Q8 ?_;refine Q77 ?_;exact ew Z;exact zG (ex Z);refine Q13 ?_;exact ew p1;exact zG (ex p1);cases h;exact⟨rfl,⟨rfl,trivial⟩⟩
set_option maxHeartbeats 8000000 in
theorem zAA {ab:DV} {a0:(List Int)} {a1:Int} {a2:Int} {a3:Int} {a4:Int->Int->Option (Int)} (aj:∀x0 x1 y,a4 x0 x1=some y->FnC Tryz.prog ab [(di x0),(di x1)] [(di y)]) {r:(List Int)} (h:kY a0 a1 a2 a3 a4=some r):GC Tryz.prog 216 [.row 3000,.d (di a1),.d (di a2),.d (di a3),.d ab] [(3000,.win 3 eI.size 0 (eI.all a0))] [3000] [] [(3000,.win 3 eI.size 0 (eI.all r))]:=by
 refine zD4 Tryz.func216 (by kernel_rfl) rfl lr lr λw0 I0 ai p0=>?_;unfold kY at h;refine Q22 ?_;have ⟨y1,k,h⟩:=bE h;refine tl (.exit 0) ⟨[(0,.row 3000)],[(3000,.win 3 eI.size 0 (eI.all y1))]⟩ ?_ ?_;refine zD (λx=>⟨[(0,.row 3000),(1,.d (di a1)),(2,.d (di a2)),(3,.d (di a3)),(10,.d (di x.1))],[(3000,.win 3 eI.size 0 (eI.all x.2))]⟩) k wc ?_
 rintro⟨ac,aa⟩ ad Y
 replace Y:kG a3 a2 a1 ac aa=some ad:=Y;unfold kG at Y;refine Q75 ?_;refine zZ Y (λY=>?_) (λY=>?_);refine Q9 ?_;have ⟨_,k,Y⟩:=bE Y;have ⟨_,T,Y⟩:=bE Y;have ⟨_,K,Y⟩:=bE Y;have ⟨_,D,Y⟩:=bE Y;have ⟨_,O,Y⟩:=bE Y;have ⟨Z,H,Y⟩:=bE Y;refine tl .normal ⟨[(0,.row 3000),(1,.d (di a1)),(2,.d (di a2)),(3,.d (di a3)),(10,.d (di ac))],[(3000,.win 3 eI.size 0 (eI.all Z))]⟩ ?_ ?_;refine zF7 MX ?_;refine z77 ?_;refine xm 2 ?_;refine zOZ (i:=3) rfl lr rfl rfl rfl rfl rfl rfl ?_;refine xm 4 ?_;refine xm 5 ?_;refine xm 6 ?_;refine zOZ (i:=7) rfl lr rfl rfl rfl rfl rfl rfl ?_;refine xm 8 ?_;refine xm 9 ?_;refine xm 10 ?_;refine zOZ (i:=11) rfl lr rfl rfl rfl rfl rfl rfl ?_;refine xm 14 ?_;refine xm 15 ?_;refine xm 16 ?_;refine zOZ (i:=17) rfl lr rfl rfl rfl rfl rfl rfl ?_;refine xn [12,18] ?_;refine z4O yF k ?_ ?_;refine xn [13,18] ?_;refine q86 O3 k ?_ ?_;refine xn [18] ?_;refine q21 yF T ?_;refine xn [19] ?_;refine q38 O3 T ?_;refine xn [20] ?_;refine q21 yF K ?_;refine xn [21] ?_;refine q25 O3 K D ?_;refine xn [22] ?_;refine q21 yF O ?_;refine xn [23] ?_;refine q25 O3 O H ?_;exact ae;refine q21 yF T ?_;refine xn [13,19] ?_;refine q86 O3 k ?_ ?_;refine xn [19] ?_;refine q38 O3 T ?_;refine xn [20] ?_;refine q21 yF K ?_;refine xn [21] ?_;refine q25 O3 K D ?_;refine xn [22] ?_;refine q21 yF O ?_;refine xn [23] ?_;refine q25 O3 O H ?_;exact ae;refine q38 O3 T ?_;refine xn [13] ?_;refine q38 O3 k ?_;refine xn [20] ?_;refine q21 yF K ?_;refine xn [21] ?_;refine q25 O3 K D ?_;refine xn [22] ?_;refine q21 yF O ?_;refine xn [23] ?_;refine q25 O3 O H ?_;exact ae;refine q21 yF T ?_;refine xn [12,19] ?_;refine z4O yF k ?_ ?_;refine xn [13,19] ?_;refine q86 O3 k ?_ ?_;refine xn [19] ?_;refine q38 O3 T ?_;refine xn [20] ?_;refine q21 yF K ?_;refine xn [21] ?_;refine q25 O3 K D ?_;refine xn [22] ?_;refine q21 yF O ?_;refine xn [23] ?_;refine q25 O3 O H ?_;exact ae;refine q38 O3 T ?_;refine xn [13] ?_;refine q38 O3 k ?_;refine xn [20] ?_;refine q21 yF K ?_;refine xn [21] ?_;refine q25 O3 K D ?_;refine xn [22] ?_;refine q21 yF O ?_;refine xn [23] ?_;refine q25 O3 O H ?_;exact ae;refine q38 O3 T ?_;refine xn [12] ?_;refine q21 yF k ?_;refine xn [13] ?_;refine q38 O3 k ?_;refine xn [20] ?_;refine q21 yF K ?_;refine xn [21] ?_;refine q25 O3 K D ?_;refine xn [22] ?_;refine q21 yF O ?_;refine xn [23] ?_;refine q25 O3 O H ?_;exact ae;refine Q13 ?_;exact ew Y;exact zG (ex Y);cases h;exact⟨rfl,⟨rfl,trivial⟩⟩
theorem zJ3 {H:DV} {a0:(List Int)} {a1:Int} {a2:Int} {a3:Int} {Y:Int->Int->Option (Int)} (O:∀x0 x1 y,Y x0 x1=some y->FnC Tryz.prog H [(di x0),(di x1)] [(di y)]) {r:(List Int)} (h:xS a0 a1 a2 a3 Y=some r):GC Tryz.prog 211 [.row 3000,.d (di a1),.d (di a2),.d (di a3),.d H] [(3000,.win 3 eI.size 0 (eI.all a0))] [3000] [] [(3000,.win 3 eI.size 0 (eI.all r))]:=by
 refine zD4 Tryz.func211 (by kernel_rfl) rfl lr lr λw0 I0 ah p0=>?_;unfold xS at h;refine Q27 ?_;refine q34 ?_;refine Q69 ?_;refine q34 ?_;refine Q90 ?_;have ⟨y1,k,h⟩:=bE h;refine tl (.exit 0) ⟨[(0,.row 3000),(2,.d (di a2)),(4,.d H),(10,.d (di y1.1))],[(3000,.win 3 eI.size 0 (eI.all y1.2))]⟩ ?_ ?_;refine zD (λx=>⟨[(0,.row 3000),(2,.d (di a2)),(4,.d H),(10,.d (di x.1)),(11,.d (di x.2.1))],[(3000,.win 3 eI.size 0 (eI.all x.2.2))]⟩) k wc ?_
 rintro⟨aa,ab,T⟩ Z K
 replace K:yW a2 Y aa ab T=some Z:=K;unfold yW at K;refine Q14 ?_;refine Q37 ?_;refine zZ K (λK=>?_) (λK=>?_);refine zP ?_;have ⟨y2,D,K⟩:=bE K;refine tl .normal ⟨[(0,.row 3000),(2,.d (di a2)),(4,.d H),(10,.d (di y2.1)),(11,.d (di y2.2.1))],[(3000,.win 3 eI.size 0 (eI.all y2.2.2))]⟩ ?_ ?_;refine z09 ?_;refine Q59 ?_;refine zZ D (λD=>?_) (λD=>?_);refine z4X ?_;refine q34 ?_;refine Q62 ?_;have ⟨_,k,D⟩:=bE D;refine yH rfl (zEQ [(3000,3000)] (zAA O k) lr (by decide) ⟨rfl,rfl,rfl,rfl,rfl,trivial⟩ rfl rfl ⟨rfl,trivial⟩ rfl rfl rfl rfl) ?_;refine zN<|Q84 ?_;refine Q77 ?_;exact eo D;refine z4X ?_;refine q34 ?_;refine Q12 ?_;refine q3 ?_;refine q0 ?_;refine q34 ?_;refine Q12 ?_;have ⟨_,k,D⟩:=bE D;refine yH rfl (zEQ [(3000,3000)] (zAA O k) lr (by decide) ⟨rfl,rfl,rfl,rfl,rfl,trivial⟩ rfl rfl ⟨rfl,trivial⟩ rfl rfl rfl rfl) ?_;refine zN<|Q84 ?_;refine Q77 ?_;exact eo D;exact ew K;exact zG (ex K);refine Q71 ?_;refine q34 ?_;refine Q62 ?_;have ⟨_,k,h⟩:=bE h;refine yH rfl (zEQ [(3000,3000)] (zAA O k) lr (by decide) ⟨rfl,rfl,rfl,rfl,rfl,trivial⟩ rfl rfl ⟨rfl,trivial⟩ rfl rfl rfl rfl) ?_;refine zN ?_;cases h;exact⟨rfl,⟨rfl,trivial⟩⟩
set_option maxHeartbeats 8000000 in
theorem zDQ:∀(n:Nat) {ac:DV} {a0:(List Int)} {a1:Int} {a2:Int} {a3:Int} {a4:Int->Int->Option (Int)} (aq:∀x0 x1 y,a4 x0 x1=some y->FnC Tryz.prog ac [(di x0),(di x1)] [(di y)]) {r:(List Int)} (h:kT n a0 a1 a2 a3 a4=some r),GC Tryz.prog 197 [.row 3000,.d (di a1),.d (di a2),.d (di a3),.d ac] [(3000,.win 3 eI.size 0 (eI.all a0))] [3000] [] [(3000,.win 3 eI.size 0 (eI.all r))]:=by
 intro n
 induction n with
 | zero=>intro ac a0 a1 a2 a3 a4 aq r h;cases h
 | succ n ih=>
 intro ac a0 a1 a2 a3 a4 aq r h;replace h:yU (kT n) a0 a1 a2 a3 a4=some r:=h;generalize kT n=ca at h ih;refine zD4 Tryz.func197 (by kernel_rfl) rfl lr lr λw0 I0 bz p0=>?_;unfold yU at h;refine Q14 ?_;refine q34 ?_;refine Q89 ?_;refine zZ h (λh=>?_) (λh=>?_);refine Q2 ?_;refine Q15 ?_;refine Q90 ?_;have ⟨y1,k,h⟩:=bE h;refine tl (.exit 0) ⟨[(0,.row 3000),(1,.d (di a1)),(10,.d (di y1))],[(3000,.win 3 eI.size 0 (eI.all a0))]⟩ ?_ ?_;refine zD (λx=>⟨[(0,.row 3000),(1,.d (di a1)),(4,.d ac),(10,.d (di x.1)),(11,.d (di x.2))],[(3000,.win 3 eI.size 0 (eI.all a0))]⟩) k wc ?_
 rintro⟨bl,bm⟩ bg p1
 replace p1:kM a0 a1 a4 bl bm=some bg:=p1;unfold kM at p1;refine Q75 ?_;refine zZ p1 (λp1=>?_) (λp1=>?_);refine zP ?_;have ⟨y2,ai,p1⟩:=bE p1;refine tl .normal ⟨[(0,.row 3000),(1,.d (di a1)),(4,.d ac),(10,.d (di y2.1)),(11,.d (di y2.2))],[(3000,.win 3 eI.size 0 (eI.all a0))]⟩ ?_ ?_;refine z09 ?_;refine z8C ?_;refine Q16 ?_;refine zW MX rfl ?_;refine q8 ?_;refine Q97 ?_;have ⟨_,k,ai⟩:=bE ai;refine yCY yF k ?_;refine yCZ O3 k ?_;refine Q97 ?_;have ⟨_,k,ai⟩:=bE ai;refine yCY yF k ?_;refine yCZ O3 k ?_;have ⟨_,k,ai⟩:=bE ai;refine daa (zKT lr rfl rfl (aq _ _ _ k)) ?_;refine z4P ?_;refine wF ?_;refine zZ ai (λai=>?_) (λai=>?_);refine Q13 ?_;exact eo ai;refine Q91 ?_;exact eo ai;exact ew p1;exact zG (ex p1);refine Q4 ?_;refine Q1 ?_;refine yY ?_;have ⟨y3,k,h⟩:=bE h;refine tl (.exit 2) ⟨[(0,.row 3000)],[(3000,.win 3 eI.size 0 (eI.all y3))]⟩ ?_ ?_;refine zD (λx=>⟨[(0,.row 3000),(10,.d (di y1)),(13,.d (di x.1))],[(3000,.win 3 eI.size 0 (eI.all x.2))]⟩) k wc ?_
 rintro⟨bb,ar⟩ bh p3
 replace p3:kN y1 bb ar=some bh:=p3;unfold kN at p3;refine Q14 ?_;refine q34 ?_;refine Q6 ?_;refine zZ p3 (λp3=>?_) (λp3=>?_);refine Q9 ?_;have ⟨_,k,p3⟩:=bE p3;have ⟨_,ad,p3⟩:=bE p3;have ⟨_,aa,p3⟩:=bE p3;have ⟨_,D,p3⟩:=bE p3;have ⟨_,ab,p3⟩:=bE p3;have ⟨an,H,p3⟩:=bE p3;refine tl .normal ⟨[(0,.row 3000),(10,.d (di y1)),(13,.d (di bb))],[(3000,.win 3 eI.size 0 (eI.all an))]⟩ ?_ ?_;refine zF7 MX ?_;refine z77 ?_;refine xm 2 ?_;refine xm 3 ?_;refine zOZ (i:=4) rfl lr rfl rfl rfl rfl rfl rfl ?_;refine xm 5 ?_;refine xm 6 ?_;refine zOZ (i:=7) rfl lr rfl rfl rfl rfl rfl rfl ?_;refine xm 10 ?_;refine xm 11 ?_;refine xn [8,12] ?_;refine z4O yF k ?_ ?_;refine xn [9,12] ?_;refine q86 O3 k ?_ ?_;refine xn [12] ?_;refine q21 yF ad ?_;refine xn [13] ?_;refine q38 O3 ad ?_;refine xn [14] ?_;refine q21 yF aa ?_;refine xn [15] ?_;refine q25 O3 aa D ?_;refine xn [16] ?_;refine q21 yF ab ?_;refine xn [17] ?_;refine q25 O3 ab H ?_;exact ae;refine q21 yF ad ?_;refine xn [9,13] ?_;refine q86 O3 k ?_ ?_;refine xn [13] ?_;refine q38 O3 ad ?_;refine xn [14] ?_;refine q21 yF aa ?_;refine xn [15] ?_;refine q25 O3 aa D ?_;refine xn [16] ?_;refine q21 yF ab ?_;refine xn [17] ?_;refine q25 O3 ab H ?_;exact ae;refine q38 O3 ad ?_;refine xn [9] ?_;refine q38 O3 k ?_;refine xn [14] ?_;refine q21 yF aa ?_;refine xn [15] ?_;refine q25 O3 aa D ?_;refine xn [16] ?_;refine q21 yF ab ?_;refine xn [17] ?_;refine q25 O3 ab H ?_;exact ae;refine q21 yF ad ?_;refine xn [8,13] ?_;refine z4O yF k ?_ ?_;refine xn [9,13] ?_;refine q86 O3 k ?_ ?_;refine xn [13] ?_;refine q38 O3 ad ?_;refine xn [14] ?_;refine q21 yF aa ?_;refine xn [15] ?_;refine q25 O3 aa D ?_;refine xn [16] ?_;refine q21 yF ab ?_;refine xn [17] ?_;refine q25 O3 ab H ?_;exact ae;refine q38 O3 ad ?_;refine xn [9] ?_;refine q38 O3 k ?_;refine xn [14] ?_;refine q21 yF aa ?_;refine xn [15] ?_;refine q25 O3 aa D ?_;refine xn [16] ?_;refine q21 yF ab ?_;refine xn [17] ?_;refine q25 O3 ab H ?_;exact ae;refine q38 O3 ad ?_;refine xn [8] ?_;refine q21 yF k ?_;refine xn [9] ?_;refine q38 O3 k ?_;refine xn [14] ?_;refine q21 yF aa ?_;refine xn [15] ?_;refine q25 O3 aa D ?_;refine xn [16] ?_;refine q21 yF ab ?_;refine xn [17] ?_;refine q25 O3 ab H ?_;exact ae;refine Q13 ?_;exact ew p3;exact zG (ex p3);cases h;refine yE ?_;exact⟨rfl,⟨rfl,trivial⟩⟩;refine zP<|Q14 ?_;refine q34 ?_;refine Q89 ?_;refine zZ h (λh=>?_) (λh=>?_);refine Q2 ?_;refine Q15 ?_;refine Q90 ?_;have ⟨y4,k,h⟩:=bE h;refine tl (.exit 4) ⟨[(0,.row 3000),(2,.d (di a2)),(14,.d (di y4))],[(3000,.win 3 eI.size 0 (eI.all a0))]⟩ ?_ ?_;refine zD (λx=>⟨[(0,.row 3000),(2,.d (di a2)),(4,.d ac),(14,.d (di x.1)),(15,.d (di x.2))],[(3000,.win 3 eI.size 0 (eI.all a0))]⟩) k wc ?_
 rintro⟨bn,bo⟩ bi p4
 replace p4:kO a0 a2 a4 bn bo=some bi:=p4;unfold kO at p4;refine Q75 ?_;refine zZ p4 (λp4=>?_) (λp4=>?_);refine zP ?_;have ⟨y5,aj,p4⟩:=bE p4;refine tl .normal ⟨[(0,.row 3000),(2,.d (di a2)),(4,.d ac),(14,.d (di y5.1)),(15,.d (di y5.2))],[(3000,.win 3 eI.size 0 (eI.all a0))]⟩ ?_ ?_;refine z09 ?_;refine z8C ?_;refine Q16 ?_;refine zW MX rfl ?_;refine q8 ?_;refine Q97 ?_;have ⟨_,k,aj⟩:=bE aj;refine yCY yF k ?_;refine yCZ O3 k ?_;refine Q97 ?_;have ⟨_,k,aj⟩:=bE aj;refine yCY yF k ?_;refine yCZ O3 k ?_;have ⟨_,k,aj⟩:=bE aj;refine daa (zKT lr rfl rfl (aq _ _ _ k)) ?_;refine z4P ?_;refine yGS ?_;refine wF ?_;refine zZ aj (λaj=>?_) (λaj=>?_);refine Q13 ?_;exact eo aj;refine Q91 ?_;exact eo aj;exact ew p4;exact zG (ex p4);refine Q4 ?_;refine Q1 ?_;refine yY ?_;have ⟨y6,k,h⟩:=bE h;refine tl (.exit 6) ⟨[(0,.row 3000)],[(3000,.win 3 eI.size 0 (eI.all y6))]⟩ ?_ ?_;refine zD (λx=>⟨[(0,.row 3000),(14,.d (di y4)),(17,.d (di x.1))],[(3000,.win 3 eI.size 0 (eI.all x.2))]⟩) k wc ?_
 rintro⟨bc,ar⟩ bj p6
 replace p6:kP y4 bc ar=some bj:=p6;unfold kP at p6;refine Q14 ?_;refine Q59 ?_;refine zZ p6 (λp6=>?_) (λp6=>?_);refine Q9 ?_;have ⟨_,k,p6⟩:=bE p6;have ⟨_,Z,p6⟩:=bE p6;have ⟨_,T,p6⟩:=bE p6;have ⟨_,K,p6⟩:=bE p6;have ⟨_,Y,p6⟩:=bE p6;have ⟨ao,O,p6⟩:=bE p6;refine tl .normal ⟨[(0,.row 3000),(14,.d (di y4)),(17,.d (di bc))],[(3000,.win 3 eI.size 0 (eI.all ao))]⟩ ?_ ?_;refine zF7 MX ?_;refine z77 ?_;refine xm 2 ?_;refine xm 3 ?_;refine zMK (i:=4) rfl lr rfl rfl rfl rfl rfl rfl ?_;refine xm 5 ?_;refine xm 6 ?_;refine zMK (i:=7) rfl lr rfl rfl rfl rfl rfl rfl ?_;refine xm 10 ?_;refine xm 11 ?_;refine xn [8,12] ?_;refine z4O yF k ?_ ?_;refine xn [9,12] ?_;refine q86 O3 k ?_ ?_;refine xn [12] ?_;refine q21 yF Z ?_;refine xn [13] ?_;refine q38 O3 Z ?_;refine xn [14] ?_;refine q21 yF T ?_;refine xn [15] ?_;refine q25 O3 T K ?_;refine xn [16] ?_;refine q21 yF Y ?_;refine xn [17] ?_;refine q25 O3 Y O ?_;exact ae;refine q21 yF Z ?_;refine xn [9,13] ?_;refine q86 O3 k ?_ ?_;refine xn [13] ?_;refine q38 O3 Z ?_;refine xn [14] ?_;refine q21 yF T ?_;refine xn [15] ?_;refine q25 O3 T K ?_;refine xn [16] ?_;refine q21 yF Y ?_;refine xn [17] ?_;refine q25 O3 Y O ?_;exact ae;refine q38 O3 Z ?_;refine xn [9] ?_;refine q38 O3 k ?_;refine xn [14] ?_;refine q21 yF T ?_;refine xn [15] ?_;refine q25 O3 T K ?_;refine xn [16] ?_;refine q21 yF Y ?_;refine xn [17] ?_;refine q25 O3 Y O ?_;exact ae;refine q21 yF Z ?_;refine xn [8,13] ?_;refine z4O yF k ?_ ?_;refine xn [9,13] ?_;refine q86 O3 k ?_ ?_;refine xn [13] ?_;refine q38 O3 Z ?_;refine xn [14] ?_;refine q21 yF T ?_;refine xn [15] ?_;refine q25 O3 T K ?_;refine xn [16] ?_;refine q21 yF Y ?_;refine xn [17] ?_;refine q25 O3 Y O ?_;exact ae;refine q38 O3 Z ?_;refine xn [9] ?_;refine q38 O3 k ?_;refine xn [14] ?_;refine q21 yF T ?_;refine xn [15] ?_;refine q25 O3 T K ?_;refine xn [16] ?_;refine q21 yF Y ?_;refine xn [17] ?_;refine q25 O3 Y O ?_;exact ae;refine q38 O3 Z ?_;refine xn [8] ?_;refine q21 yF k ?_;refine xn [9] ?_;refine q38 O3 k ?_;refine xn [14] ?_;refine q21 yF T ?_;refine xn [15] ?_;refine q25 O3 T K ?_;refine xn [16] ?_;refine q21 yF Y ?_;refine xn [17] ?_;refine q25 O3 Y O ?_;exact ae;refine Q8 ?_;refine Q77 ?_;exact ew p6;exact zG (ex p6);cases h;refine yE ?_;exact⟨rfl,⟨rfl,trivial⟩⟩;refine zP<|Q27 ?_;refine z8C ?_;refine Q69 ?_;refine Q10 ?_;refine Q0 ?_;refine Q51 ?_;refine Q14 ?_;refine Q59 ?_;have ⟨y7,au,h⟩:=bE h;refine tl .normal ⟨[(0,.row 3000),(1,.d (di a1)),(2,.d (di a2)),(3,.d (di a3)),(4,.d ac),(18,.d (di (wi ((wu (wi (a1+a3)))/2 ^ 1)))),(19,.d (di (wi ((wi ((wu (wi (a1+a3)))/2 ^ 1))+a2)))),(20,.d (di y7.1)),(21,.d (di y7.2))],[(3000,.win 3 eI.size 0 (eI.all a0))]⟩ ?_ ?_;refine zZ au (λau=>?_) (λau=>?_);refine Q27 ?_;refine Q77 ?_;refine Q91 ?_;exact eo au;refine Q40 ?_;refine Q91 ?_;exact eo au;refine Q2 ?_;refine q34 ?_;refine Q90 ?_;have ⟨y8,k,h⟩:=bE h;refine tl (.exit 8) ⟨[(0,.row 3000),(1,.d (di a1)),(2,.d (di a2)),(3,.d (di a3)),(4,.d ac),(18,.d (di (wi ((wu (wi (a1+a3)))/2 ^ 1)))),(19,.d (di (wi ((wi ((wu (wi (a1+a3)))/2 ^ 1))+a2)))),(20,.d (di y8))],[(3000,.win 3 eI.size 0 (eI.all a0))]⟩ ?_ ?_;refine zD (λx=>⟨[(0,.row 3000),(1,.d (di a1)),(2,.d (di a2)),(3,.d (di a3)),(4,.d ac),(18,.d (di (wi ((wu (wi (a1+a3)))/2 ^ 1)))),(19,.d (di (wi ((wi ((wu (wi (a1+a3)))/2 ^ 1))+a2)))),(20,.d (di x.1)),(21,.d (di x.2)),(22,.d (di (wi ((wi ((wi ((wu (wi (a1+a3)))/2 ^ 1))+a2))-1))))],[(3000,.win 3 eI.size 0 (eI.all a0))]⟩) k wc ?_
 rintro⟨bp,bq⟩ bk p8
 replace p8:kQ a0 a1 a3 a2 a4 bp bq=some bk:=p8;unfold kQ at p8;refine Q75 ?_;refine zZ p8 (λp8=>?_) (λp8=>?_);refine zP ?_;have ⟨y9,ak,p8⟩:=bE p8;refine tl .normal ⟨[(0,.row 3000),(1,.d (di a1)),(2,.d (di a2)),(3,.d (di a3)),(4,.d ac),(18,.d (di (wi ((wu (wi (a1+a3)))/2 ^ 1)))),(19,.d (di (wi ((wi ((wu (wi (a1+a3)))/2 ^ 1))+a2)))),(20,.d (di y9.1)),(21,.d (di y9.2)),(22,.d (di (wi ((wi ((wi ((wu (wi (a1+a3)))/2 ^ 1))+a2))-1))))],[(3000,.win 3 eI.size 0 (eI.all a0))]⟩ ?_ ?_;refine z09 ?_;refine z8C ?_;refine Q16 ?_;refine zW MX rfl ?_;refine q8 ?_;refine q74 ?_;refine Q25 ?_;refine z4N ?_;have ⟨_,k,ak⟩:=bE ak;refine yCY yF k ?_;refine yCZ O3 k ?_;refine Q97 ?_;have ⟨_,k,ak⟩:=bE ak;refine yCY yF k ?_;refine yCZ O3 k ?_;have ⟨_,k,ak⟩:=bE ak;refine daa (zKT lr rfl rfl (aq _ _ _ k)) ?_;refine z4P ?_;refine yGS ?_;refine wF ?_;refine zZ ak (λak=>?_) (λak=>?_);refine Q13 ?_;exact eo ak;refine Q91 ?_;exact eo ak;exact ew p8;exact zG (ex p8);refine Q27 ?_;refine Q77 ?_;refine Q14 ?_;refine q5 ?_;have ⟨_,k,h⟩:=bE h;refine q9 k ?_;refine q15 (.d (di a2)) ?_;refine q15 (.d (di (wi ((wi ((wi ((wu (wi (a1+a3)))/2 ^ 1))+a2))-y8)))) ?_;refine q82 (.d (db (decide (a2<(wi ((wi ((wi ((wu (wi (a1+a3)))/2 ^ 1))+a2))-y8)))))) ?_;refine Q39 ?_;have ⟨br,ag,h⟩:=bE h;refine tl .normal ⟨[(0,.row 3000),(1,.d (di a1)),(3,.d (di a3)),(4,.d ac),(18,.d (di (wi ((wu (wi (a1+a3)))/2 ^ 1)))),(20,.d (di y8)),(24,.d (di (wi ((wi ((wi ((wu (wi (a1+a3)))/2 ^ 1))+a2))-y8))))],[(3000,.win 3 eI.size 0 (eI.all br))]⟩ ?_ ?_;refine zZ ag (λag=>?_) (λag=>?_);refine Q71 ?_;refine Q12 ?_;have ⟨_,k,ag⟩:=bE ag;refine yH rfl (zEQ [(3000,3000)] (zJ3 aq k) lr (by decide) ⟨rfl,rfl,rfl,rfl,rfl,trivial⟩ rfl rfl ⟨rfl,trivial⟩ rfl rfl rfl rfl) ?_;refine zN ?_;exact eo ag;refine zP ?_;exact eo ag;refine Q14 ?_;refine q5 ?_;have ⟨_,k,h⟩:=bE h;refine q9 k ?_;refine q15 (.d (di y8)) ?_;refine q15 (.d (di (wi ((wu (wi (a1+a3)))/2 ^ 1)))) ?_;refine q82 (.d (db (decide (y8<(wi ((wu (wi (a1+a3)))/2 ^ 1)))))) ?_;refine Q39 ?_;have ⟨bt,ah,h⟩:=bE h;refine tl .normal ⟨[(0,.row 3000),(3,.d (di a3)),(4,.d ac),(18,.d (di (wi ((wu (wi (a1+a3)))/2 ^ 1)))),(24,.d (di (wi ((wi ((wi ((wu (wi (a1+a3)))/2 ^ 1))+a2))-y8))))],[(3000,.win 3 eI.size 0 (eI.all bt))]⟩ ?_ ?_;refine zZ ah (λah=>?_) (λah=>?_);refine Q71 ?_;refine Q12 ?_;have ⟨_,k,ah⟩:=bE ah;refine yH rfl (zEQ [(3000,3000)] (ih aq k) lr (by decide) ⟨rfl,rfl,rfl,rfl,rfl,trivial⟩ rfl rfl ⟨rfl,trivial⟩ rfl rfl rfl rfl) ?_;refine zN ?_;exact eo ah;refine zP ?_;exact eo ah;refine Q27 ?_;refine q5 ?_;have ⟨_,k,h⟩:=bE h;refine q9 k ?_;refine q15 (.d (di (wi ((wi ((wi ((wu (wi (a1+a3)))/2 ^ 1))+a2))-y8)))) ?_;refine q15 (.d (di a3)) ?_;refine q82 (.d (db (decide ((wi ((wi ((wi ((wu (wi (a1+a3)))/2 ^ 1))+a2))-y8))<a3)))) ?_;refine Q39 ?_;refine zZ h (λh=>?_) (λh=>?_);refine Q71 ?_;refine Q12 ?_;have ⟨_,k,h⟩:=bE h;refine yH rfl (zEQ [(3000,3000)] (ih aq k) lr (by decide) ⟨rfl,rfl,rfl,rfl,rfl,trivial⟩ rfl rfl ⟨rfl,trivial⟩ rfl rfl rfl rfl) ?_;refine zN ?_;cases h;exact⟨rfl,⟨rfl,trivial⟩⟩;refine zP ?_;cases h;exact⟨rfl,⟨rfl,trivial⟩⟩
theorem zJ4 {H:DV} {a0:(List Int)} {a1:Int} {a2:Int->Int->Option (Int)} (Z:∀x0 x1 y,a2 x0 x1=some y->FnC Tryz.prog H [(di x0),(di x1)] [(di y)]) {r:(List Int)} (h:uS a0 a1 a2=some r):GC Tryz.prog 172 [.row 3000,.d (di a1),.d H] [(3000,.win 3 eI.size 0 (eI.all a0))] [3000] [] [(3000,.win 3 eI.size 0 (eI.all r))]:=by
 refine zD4 Tryz.func172 (by kernel_rfl) rfl lr lr λw0 I0 al p0=>?_;unfold uS at h;refine Q53 ?_;refine q1 ?_;refine Q90 ?_;have ⟨y1,k,h⟩:=bE h;refine tl (.exit 0) ⟨[(0,.row 3000),(1,.d (di a1)),(2,.d H),(6,.d (di 20)),(7,.d (di y1.1))],[(3000,.win 3 eI.size 0 (eI.all y1.2))]⟩ ?_ ?_;refine zD (λx=>⟨[(0,.row 3000),(1,.d (di a1)),(2,.d H),(6,.d (di 20)),(7,.d (di x.1)),(8,.d (di x.2.1))],[(3000,.win 3 eI.size 0 (eI.all x.2.2))]⟩) k wc ?_
 rintro⟨v7,v8,D⟩ ab T
 replace T:yO a1 a2 v7 v8 D=some ab:=T;unfold yO at T;refine Q14 ?_;refine z72 ?_;refine zZ T (λT=>?_) (λT=>?_);refine zP<|yY<|z8A ?_;have ⟨_,k,T⟩:=bE T;refine yH rfl (zEQ [(3000,3000)] (zBO Z k) lr (by decide) ⟨rfl,rfl,rfl,rfl,trivial⟩ rfl rfl ⟨rfl,trivial⟩ rfl rfl rfl rfl) ?_;refine zN<|Q40 ?_;refine Q84 ?_;refine Q10 ?_;exact ew T;exact zG (ex T);refine z8A ?_;have ⟨_,k,h⟩:=bE h;refine yH rfl (zEQ [(3000,3000)] (zBO Z k) lr (by decide) ⟨rfl,rfl,rfl,rfl,trivial⟩ rfl rfl ⟨rfl,trivial⟩ rfl rfl rfl rfl) ?_;refine zN<|yY ?_;have ⟨y2,k,h⟩:=bE h;refine tl (.exit 2) ⟨[(0,.row 3000)],[(3000,.win 3 eI.size 0 (eI.all y2))]⟩ ?_ ?_;refine zD (λx=>⟨[(0,.row 3000),(1,.d (di a1)),(2,.d H),(6,.d (di x.1))],[(3000,.win 3 eI.size 0 (eI.all x.2))]⟩) k wc ?_
 rintro⟨v6,D⟩ ac O
 replace O:yX a1 a2 v6 D=some ac:=O;unfold yX at O;refine Q75 ?_;refine zZ O (λO=>?_) (λO=>?_);refine zP<|Q65 ?_;refine jW (yE9 lr rfl rfl) ?_;refine q1 ?_;refine Q90 ?_;have ⟨y3,k,O⟩:=bE O;refine tl (.exit 4) ⟨[(0,.row 3000),(1,.d (di a1)),(2,.d H),(6,.d (di v6)),(7,.d (di y3.1))],[(3000,.win 3 eI.size 0 (eI.all y3.2))]⟩ ?_ ?_;refine zD (λx=>⟨[(0,.row 3000),(1,.d (di a1)),(2,.d H),(6,.d (di v6)),(7,.d (di x.1)),(8,.d (di x.2.1))],[(3000,.win 3 eI.size 0 (eI.all x.2.2))]⟩) k wc ?_
 rintro⟨v7,v8,D⟩ ad Y
 replace Y:yP a1 v6 a2 v7 v8 D=some ad:=Y;unfold yP at Y;refine Q14 ?_;refine z72 ?_;refine zZ Y (λY=>?_) (λY=>?_);refine zP<|yY<|z8A ?_;refine q3 ?_;refine Q12 ?_;have ⟨_,k,Y⟩:=bE Y;refine yH rfl (zEQ [(3000,3000)] (zDQ _ Z k) lr (by decide) ⟨rfl,rfl,rfl,rfl,rfl,trivial⟩ rfl rfl ⟨rfl,trivial⟩ rfl rfl rfl rfl) ?_;refine zN<|Q40 ?_;refine Q84 ?_;refine jW (yE9 lr rfl rfl) ?_;refine Q10 ?_;exact ew Y;exact zG (ex Y);refine Q14 ?_;refine Q10 ?_;refine Q27 ?_;refine Q6 ?_;have ⟨y4,K,O⟩:=bE O;refine tl .normal ⟨[(0,.row 3000),(1,.d (di a1)),(2,.d H),(6,.d (di v6))],[(3000,.win 3 eI.size 0 (eI.all y4))]⟩ ?_ ?_;refine zZ K (λK=>?_) (λK=>?_);refine Q71 ?_;refine Q12 ?_;have ⟨_,k,K⟩:=bE K;refine yH rfl (zEQ [(3000,3000)] (zDQ _ Z k) lr (by decide) ⟨rfl,rfl,rfl,rfl,rfl,trivial⟩ rfl rfl ⟨rfl,trivial⟩ rfl rfl rfl rfl) ?_;refine zN ?_;exact eo K;refine zP ?_;exact eo K;refine Q8 ?_;refine jW (yE9 lr rfl rfl) ?_;refine Q1 ?_;exact ew O;exact zG (ex O);cases h;exact⟨rfl,⟨rfl,trivial⟩⟩
theorem zGT {D:DV} {K:(List Int)} {a1:Int->Int->Option (Int)} (H:∀x0 x1 y,a1 x0 x1=some y->FnC Tryz.prog D [(di x0),(di x1)] [(di y)]) {r:(List Int)} (h:k9 K a1=some r):GC Tryz.prog 130 [.row 3000,.d D] [(3000,.win 3 eI.size 0 (eI.all K))] [3000] [] [(3000,.win 3 eI.size 0 (eI.all r))]:=by refine zD4 Tryz.func130 (by kernel_rfl) rfl lr lr λw0 T O Y=>?_;unfold k9 at h;refine Q26 ?_;refine q10 ?_;refine yLA yF ?_;refine q0 ?_;have ⟨_,k,h⟩:=bE h;refine yH rfl (zEQ [(3000,3000)] (zJ4 H k) lr (by decide) ⟨rfl,rfl,rfl,trivial⟩ rfl rfl ⟨rfl,trivial⟩ rfl rfl rfl rfl) ?_;refine zN ?_;cases h;exact⟨rfl,⟨rfl,trivial⟩⟩
theorem zNA {a0:List bM} {a1 r:List Int} (h:zCF a0 a1=some r):GC Tryz.prog 99 [.d (zI aR a0),.d (zI eI a1)] [] [] [.row 100] [(100,.row 3 eI.size false (eI.all r))]:=by
 unfold zCF at h;have ⟨t8,Z,H⟩:=bE h;clear h;have ⟨aa,O,h⟩:=bE H;clear H;have ⟨an,T,H⟩:=bE h;clear h;refine zD4 Tryz.func99 (by kernel_rfl) rfl lr lr λw0 I0 ah p0=>?_;refine Q0 ?_;refine yH rfl (z9C lr rfl rfl rfl) ?_;refine Q35 ?_;refine q27 O22 ?_;refine q6 (zK4 Z) ?_;refine q66 O22 ?_;refine zN ?_;refine zO (zT (t:=2) lr rfl rfl rfl) ?_;refine Q2 ?_;refine yH rfl (zCN [(5,100)] (zMP O) lr (by decide) ⟨rfl,trivial⟩ rfl rfl trivial rfl rfl rfl (λ_=>rfl) rfl) ?_;refine z7R ?_;refine q92 O37 ?_;refine z07 ?_;refine q91 O22 ?_;refine q0 ?_;refine q6 zM9 ?_;refine zN<|yY ?_;refine zY4 [(5,.ptr 5 0),(2,.d (.pt [zI aR t8])),(4,.d (.v (.slice none 0 0)))] [5] (λk=>[(5,.box 37 [.row 100]),(100,.row 3 eI.size false (eI.all (outK (λp=>k9 p (λx0 x1=>vY x0 x1 t8)) Range.Lo Range.Hi aa (wA (λc=>jD t8 c==some 0) a1 0 (-1)) k)))]) rfl (zK5 T) rfl (λ_ _ _ _ h=>h) ?hk ?hT rfl (λ_=>rfl) ?hbx (λ_ _=>rfl) ?hl ?hpn ?rd ?hK
 case hk=>exact⟨rfl,rfl,rfl,trivial⟩
 case hT=>exact⟨rfl,rfl,trivial⟩
 case hbx=>intro k id hi;simp at hi;subst hi;exact λ(h:Blk.box _ _=Blk.none)=>by cases h
 case hl=>intro x Y;obtain⟨y,_,rfl⟩:=eM.1 Y;rfl
 case hpn=>intro p hp;simp at hp;subst hp;exact lr
 case rd=>
  intro w1 Iall X C0 ao ad l1 D al am aj k x Y;rw[dW] at Y;obtain⟨v,hv,rfl⟩:=fa.1 Y;have K:=yCF H hv;obtain⟨q0,q1,q2⟩:=yFU K;refine x9<|Q68 ?_;refine yY<|x9<|q27 O37 ?_;refine q52 zOD ?_;refine q27 O3 ?_;refine q52 zK1 ?_;refine q27 O3 ?_;refine jW (z31 (en:=eI) lr yF rfl rfl rfl rfl q0 q1 q2) ?_;refine yK7 ?_;refine yH rfl (yON (en:=eI) lr rfl rfl rfl K yS1 (λm m' hm=>zGT (λ_ _ _ q=> .inl ⟨_,_,rfl,zRQ q⟩) hm) rfl) ?_;refine zN ?_;exact⟨rfl,rfl,trivial⟩
 case hK=>
  rw[e7,yFT H];refine Q0 ?_;refine q27 O37 ?_;refine Q11 ?_;refine yE ?_;exact⟨⟨_,_,rfl,rfl,rfl⟩,rfl,trivial⟩
theorem zS0 {a0 a1 a2 r} (h:vP a0 a1 a2=some r):zE Tryz.prog 70 [(bD.dv a0),(zI eI a1),(db a2)] [(zI eI r)]:=by
 refine co Tryz.func70 ?_;intro _ _ _ _;unfold vP at h;refine Q0 ?_;refine z8D ?_;refine jW ((k7 lr G28 rfl rfl rfl rfl).data rfl) ?_;have ⟨D,k,h⟩:=bE h;refine q6 (zJ2 k) ?_;refine q18 G28 ?_;refine Q54 ?_;refine jW ((k7 lr G28 rfl rfl rfl rfl).data rfl) ?_;refine q0 ?_;have ⟨_,k,h⟩:=bE h;refine yH rfl (z0W [(5,2515),(6,3015),(7,3515)] (zIH k) lr (by decide) ⟨rfl,rfl,trivial⟩ rfl rfl trivial rfl rfl rfl (λ_=>rfl) rfl) ?_;refine yGQ ?_;refine zN<|Q3 ?_;refine zO (xJ (t:=8) 1008 3 eI.size lr lr rfl rfl) ?_;refine Q4 ?_;refine Q63 ?_;have ⟨y1,k,h⟩:=bE h;refine tl (.exit 0) ⟨[(3,.ptr 3 0),(8,.row 1008)],[(3,.box 28 [.d (zI aR D.aK),.d (zI aC D.aA),.d (zI aE D.aN.Ranges)]),(1008,.row 3 eI.size false (eI.all y1))]⟩ ?_ ?_;refine zD (λx=>⟨[(3,.ptr 3 0),(7,.clo 126 [.ptr 2515 0,.d (.pt (bD.cells ({aK:=D.aK,aA:=D.aA,aN:=({Ranges:=D.aN.Ranges}:Set)}:Norm))),.d (.pt [(db a2)]),.ptr 3015 0]),(8,.row 1008),(16,.d (zI eI a1)),(17,.d (di (a1.length:Int))),(18,.d (di x.1))],[(3,.box 28 [.d (zI aR D.aK),.d (zI aC D.aA),.d (zI aE D.aN.Ranges)]),(1008,.row 3 eI.size false (eI.all x.2.1)),(2515,.box 158 [.row 3515]),(3015,.box 126 [.clo 126 [.ptr 2515 0,.d (.pt (bD.cells ({aK:=D.aK,aA:=D.aA,aN:=({Ranges:=D.aN.Ranges}:Set)}:Norm))),.d (.pt [(db a2)]),.ptr 3015 0]]),(3515,.map (wK kI (eL eI) x.2.2))]⟩) k wc ?_
 rintro⟨Z,K,O⟩ T H
 replace H:xY a1 D a2 Z K O=some T:=H;unfold xY at H;refine Q18 ?_;refine zZ H (λH=>?_) (λH=>?_);refine Q32 ?_;have ⟨_,k,H⟩:=bE H;refine q11 yF k ?_;refine q36 O3 k ?_;refine Q1 ?_;refine Q26 ?_;refine jW (zFR lr rfl) ?_;refine q0 ?_;have ⟨Y,k,H⟩:=bE H;refine yH rfl (zU0 [(3001,2515),(3004,3015),(3120,3515)] (zGI _ k) lr (by decide) rfl ⟨rfl,rfl,rfl,rfl,rfl,trivial⟩ rfl rfl ⟨rfl,rfl,rfl,trivial⟩ rfl rfl rfl (λ_=>rfl) rfl) ?_;have ⟨_,k,H⟩:=bE H;refine yH rfl (yI (en:=eI) (l:=K) (m:=Y.1) lr yF rfl rfl rfl k (by decide) (by decide) rfl rfl) ?_;refine Q11 ?_;refine Q20 ?_;exact ew H;exact zG (ex H);refine Q0 ?_;refine q52 zAZ ?_;refine q27 O22 ?_;refine q10 ?_;refine zEP (zBC (t:=30) lr rfl rfl) ?_ (by simp);have ⟨_,k,h⟩:=bE h;refine yH rfl (zCN [(100,2531)] (zNA k) lr (by decide) ⟨rfl,rfl,trivial⟩ rfl rfl trivial rfl rfl rfl (λ_=>rfl) rfl) ?_;refine Q11 ?_;exact er h
theorem zS1 {a0} {a1} {a2} {r:(List Int)} (h:vP a0 a1 a2=some r):GC Tryz.prog 70 [.d (bD.dv a0),.d (zI eI a1),.d (db a2)] [] [] [.row 2531] [(2531,.row 3 eI.size false (eI.all r))]:=by
 refine zD4 Tryz.func70 (by kernel_rfl) rfl lr lr λw0 I0 ab p0=>?_;unfold vP at h;refine Q0 ?_;refine z8D ?_;refine jW ((k7 lr G28 rfl rfl rfl rfl).data rfl) ?_;have ⟨D,k,h⟩:=bE h;refine q6 (zJ2 k) ?_;refine q18 G28 ?_;refine Q54 ?_;refine jW ((k7 lr G28 rfl rfl rfl rfl).data rfl) ?_;refine q0 ?_;have ⟨_,k,h⟩:=bE h;refine yH rfl (z0W [(5,2515),(6,3015),(7,3515)] (zIH k) lr (by decide) ⟨rfl,rfl,trivial⟩ rfl rfl trivial rfl rfl rfl (λ_=>rfl) rfl) ?_;refine yGQ ?_;refine zN<|Q3 ?_;refine zO (xJ (t:=8) 1008 3 eI.size lr lr rfl rfl) ?_;refine Q4 ?_;refine Q63 ?_;have ⟨y1,k,h⟩:=bE h;refine tl (.exit 0) ⟨[(3,.ptr 3 0),(8,.row 1008)],[(3,.box 28 [.d (zI aR D.aK),.d (zI aC D.aA),.d (zI aE D.aN.Ranges)]),(1008,.row 3 eI.size false (eI.all y1))]⟩ ?_ ?_;refine zD (λx=>⟨[(3,.ptr 3 0),(7,.clo 126 [.ptr 2515 0,.d (.pt (bD.cells ({aK:=D.aK,aA:=D.aA,aN:=({Ranges:=D.aN.Ranges}:Set)}:Norm))),.d (.pt [(db a2)]),.ptr 3015 0]),(8,.row 1008),(16,.d (zI eI a1)),(17,.d (di (a1.length:Int))),(18,.d (di x.1))],[(3,.box 28 [.d (zI aR D.aK),.d (zI aC D.aA),.d (zI aE D.aN.Ranges)]),(1008,.row 3 eI.size false (eI.all x.2.1)),(2515,.box 158 [.row 3515]),(3015,.box 126 [.clo 126 [.ptr 2515 0,.d (.pt (bD.cells ({aK:=D.aK,aA:=D.aA,aN:=({Ranges:=D.aN.Ranges}:Set)}:Norm))),.d (.pt [(db a2)]),.ptr 3015 0]]),(3515,.map (wK kI (eL eI) x.2.2))]⟩) k wc ?_
 rintro⟨Z,K,O⟩ T H
 replace H:xY a1 D a2 Z K O=some T:=H;unfold xY at H;refine Q18 ?_;refine zZ H (λH=>?_) (λH=>?_);refine Q32 ?_;have ⟨_,k,H⟩:=bE H;refine q11 yF k ?_;refine q36 O3 k ?_;refine Q1 ?_;refine Q26 ?_;refine jW (zFR lr rfl) ?_;refine q0 ?_;have ⟨Y,k,H⟩:=bE H;refine yH rfl (zU0 [(3001,2515),(3004,3015),(3120,3515)] (zGI _ k) lr (by decide) rfl ⟨rfl,rfl,rfl,rfl,rfl,trivial⟩ rfl rfl ⟨rfl,rfl,rfl,trivial⟩ rfl rfl rfl (λ_=>rfl) rfl) ?_;have ⟨_,k,H⟩:=bE H;refine yH rfl (yI (en:=eI) (l:=K) (m:=Y.1) lr yF rfl rfl rfl k (by decide) (by decide) rfl rfl) ?_;refine Q11 ?_;refine Q20 ?_;exact ew H;exact zG (ex H);refine Q0 ?_;refine q52 zAZ ?_;refine q27 O22 ?_;refine q10 ?_;refine zEP (zBC (t:=30) lr rfl rfl) ?_ (by simp);have ⟨_,k,h⟩:=bE h;refine yH rfl (zCN [(100,2531)] (zNA k) lr (by decide) ⟨rfl,rfl,trivial⟩ rfl rfl trivial rfl rfl rfl (λ_=>rfl) rfl) ?_;refine Q11 ?_;cases h;refine yE ?_;exact⟨⟨_,_,rfl,rfl,rfl⟩,⟨rfl,trivial⟩⟩
theorem zDK {D a1 r} (h:xD D a1=some r):zE Tryz.prog 110 [(.pt (bC.cells D)),(zI eI a1)] [(zI aG r.1),(db r.2)]:=by
 refine co Tryz.func110 ?_;intro _ _ _ _;unfold xD at h;refine Q0 ?_;refine z41 ?_;refine q4 yF ?_;refine q40 ?_;have ⟨_,H,h⟩:=bE h;refine q9 H ?_;refine q42 (.d (zI eI a1)) ?_;refine q83 (.d (di (a1.length:Int))) yF ?_;refine q42 (.d (.pt (bC.cells D))) ?_;refine sqf (.d (.pt (bC.cells D))) rfl (λhb=>by subst hb;exact zHU lr rfl) ?_
 refine q24 (.ip (bC.cells D) (0+6)) z0Z ?_;refine q26 (.d (di D.bV)) O3 ?_;refine q59 (.d (db (decide (D.bV<(a1.length:Int))))) ?_;refine Q45 ?_;refine zZ h (λh=>?_) (λh=>?_);refine Q0 ?_;refine Q51 ?_;refine zO (zG0 (t:=4) aG.size lr rfl) ?_;cases h;refine yE ?_;exact zHM rfl rfl;refine Q5 ?_;refine zW MX rfl ?_;refine z1B ?_;refine q13 yF1 ?_;refine q19 yRH ?_;refine q8 ?_;have ⟨O,K,h⟩:=bE h;refine q20 (zK3 K) ?_;refine daa (z62 (kv:=zG3) (ev:=(eL aG)) (mp:=D.entries) (k:=O) (zero:=[]) lr yRD yRK rfl rfl (yJ4 rfl) (λ_ _=> .nil _ _ _)) ?_;refine daa (zMD lr rfl) ?_;refine yC0 ?_;refine yC0 ?_;refine q37 ?_;refine Q44 ?_;refine Q27 ?_;refine Q51 ?_;cases h;refine yE ?_;exact zHM rfl rfl
theorem zJ5 {D a1 r} (h:xT D a1=some r):zE Tryz.prog 111 [(.pt (bC.cells D)),(di a1)] [(zI aG r)]:=by refine co Tryz.func111 ?_;intro _ _ _ _;unfold xT at h;refine Q43 ?_;have ⟨_,k,h⟩:=bE h;refine q6 (zD6 k) ?_;refine Q36 ?_;refine zZ h (λh=>?_) (λh=>?_);refine Q3 ?_;refine zO (zG0 (t:=4) aG.size lr rfl) ?_;exact er h;refine Q5 ?_;refine zW MX rfl ?_;refine z1B ?_;refine q13 z7E ?_;refine q60 zPW ?_;refine q19 O3 ?_;refine q8 ?_;have ⟨_,k,h⟩:=bE h;refine daa (yM7 lr rfl rfl k) ?_;refine z4Q ?_;refine z1B ?_;refine q13 z7E ?_;refine q60 z9Q ?_;refine q19 O3 ?_;refine z1B ?_;refine q13 z7E ?_;refine q60 z9R ?_;refine q19 O3 ?_;refine daa (zFJ lr B82 rfl rfl) ?_;refine q8 ?_;have ⟨_,k,h⟩:=bE h;refine daa (yM8 lr rfl rfl k) ?_;refine z4Q ?_;refine daa (zFJ lr B82 rfl rfl) ?_;refine yGN S79 ?_;refine Q44 ?_;exact er h
theorem zKM {D a1 a2 r} (h:vG D a1 a2=some r):zE Tryz.prog 159 [(di D),(.pt [(.pt (bC.cells a1))]),(.pt [(di a2)])] [(db r)]:=by refine co Tryz.func159 ?_;intro _ _ _ _;unfold vG at h;refine Q3 ?_;refine yV ?_;refine zW MX rfl ?_;refine yGR yF5 ?_;refine q81 ?_;refine q13 zQB ?_;refine q19 O22 ?_;refine q8 ?_;have ⟨H,k,h⟩:=bE h;refine q29 S22 k ?_;refine q60 zHG ?_;refine daa (yA (en:=aR) (l:=a1.bR) (i:=D) (v:=H) (off:=1) lr O3 rfl k rfl) ?_;refine yGR O3 ?_;refine daa (zNR lr rfl rfl) ?_;refine Q44 ?_;exact er h
theorem zX4 {K:DV} {Y:Int} {a1:Int->Option (Bool)} (O:∀x0 y,a1 x0=some y->FnC Tryz.prog K [(di x0)] [(db y)]) {r:Int} (h:zKX Y a1=some r):zE Tryz.prog 158 [(di Y),K] [(di r)]:=by
 refine co Tryz.func158 ?_;intro _ _ _ _;unfold zKX at h;refine Q53 ?_;refine q1 ?_;refine Q90 ?_;have ⟨y1,k,h⟩:=bE h;refine tl (.exit 0) ⟨[(5,.d (di y1))],[]⟩ ?_ ?_;refine zD (λx=>⟨[(1,.d K),(5,.d (di x.1)),(6,.d (di x.2))],[]⟩) k wc ?_
 rintro⟨v5,v6⟩ T H
 replace H:zCW a1 v5 v6=some T:=H;unfold zCW at H;refine Q75 ?_;refine zZ H (λH=>?_) (λH=>?_);refine zP ?_;have ⟨Z,D,H⟩:=bE H;refine tl .normal ⟨[(1,.d K),(5,.d (di Z.1)),(6,.d (di Z.2))],[]⟩ ?_ ?_;refine z09 ?_;refine z8C ?_;refine Q69 ?_;have ⟨_,k,D⟩:=bE D;refine yCV (O _ _ k) ?_;refine Q36 ?_;refine zZ D (λD=>?_) (λD=>?_);refine Q13 ?_;exact eo D;refine Q91 ?_;exact eo D;exact ew H;exact zG (ex H);refine Q40 ?_;exact er h
theorem zL0 {H a1 r} (h:uE H a1=some r):zE Tryz.prog 112 [(.pt (bC.cells H)),(di a1)] [(di r)]:=by
 refine co Tryz.func112 ?_;intro _ _ _ _;unfold uE at h;refine Q94 ?_;refine q70 ?_;refine Q35 ?_;refine q91 yF5 ?_;refine yGT ?_;refine q2 zQB ?_;refine q7 O22 ?_;refine q4 S22 ?_;refine yK7 ?_;have ⟨D,k,h⟩:=bE h;refine q6 (zX4 (λ_ _ q=> .inl ⟨_,_,rfl,zKM q⟩) k) ?_;refine Q16 ?_;refine yV ?_;refine zW MX rfl ?_;refine q8 ?_;refine yGR yF5 ?_;refine q81 ?_;refine q13 zQB ?_;refine q19 O22 ?_;refine yCT S22 ?_;refine z4P ?_;have ⟨_,k,h⟩:=bE h;refine q47 k ?_;refine dat (.d (.pt (bC.cells H))) rfl (λhb=>by subst hb;exact zOT lr yF5 rfl) ?_
 refine dat (.d (.pt (bC.cells H))) rfl (λhb=>by subst hb;exact zHU lr rfl) ?_
 refine z4J (.ip (bC.cells H) (0+7)) zQB ?_;refine z4K (.d (zI aR H.bR)) O22 ?_;refine q48 (.d (di D)) ?_;have ⟨O,K,h⟩:=bE h;refine dat (.ip (aR.all H.bR) (D.toNat*aR.size)) rfl (λhb=>by subst hb;exact kX (en:=aR) lr S22 rfl rfl K) ?_
 refine z4L (.ip (aR.all H.bR) (D.toNat*aR.size+0)) zHF ?_;refine dat (.d (di O.Lo)) rfl (λhb=>by subst hb;exact yA (en:=aR) (l:=H.bR) (i:=D) (v:=O) (off:=0) lr O3 rfl K rfl) ?_
 refine dat (.d (di a1)) rfl (λhb=>by subst hb;exact zOT lr O3 rfl) ?_
 refine dat (.d (db (decide (O.Lo<=a1)))) rfl (λhb=>by subst hb;exact zKP lr rfl rfl) ?_
 refine Q95 ?_;refine zZ h (λh=>?_) (λh=>?_);refine Q0 ?_;refine q91 yF5 ?_;refine yGT ?_;refine q2 zQB ?_;refine q7 O22 ?_;refine q0 ?_;have ⟨T,k,h⟩:=bE h;refine q11 S22 k ?_;refine q58 zIU ?_;refine jW (yA (en:=aR) (l:=H.bR) (i:=D) (v:=T) (off:=2) lr O3 rfl k rfl) ?_;refine Q1 ?_;exact er h;refine Q58 ?_;exact er h
end Go.Proofs.YtjnpmmedmedokaaGreatDoor.Walk


/- Each function of the program answers as its plain counterpart does, where that answers. Conditions: none. -/
import Derived.Test.YtjnpmmedmedokaaGreatDoorMir
import Derived.Test.YtjnpmmedmedokaaGreatDoorLa3
import Derived.Test.YtjnpmmedmedokaaGreatDoorProg
import Derived.Test.YtjnpmmedmedokaaGreatDoorLa4
import Derived.Test.YtjnpmmedmedokaaGreatDoorSh1
import Derived.Shelf.Sort.Plain
import Derived.Shelf.Slices.In.SortNone
import Derived.Shelf.Slices.CompactI
import Derived.Shelf.Spec.SlicesGrow
set_option linter.unusedSimpArgs false
set_option linter.unusedVariables false
set_option linter.unnecessarySimpa false
namespace Go.Proofs.YtjnpmmedmedokaaGreatDoor.Walk
open Go.AV Go.M Go.RowKit Go.Proofs
theorem zXN:ArTy Tryz.prog 122 4 1 37 [(.slice none 0 0),(.slice none 0 0),(.slice none 0 0),(.slice none 0 0)]:=ArTy.of Tryz.underlying122 (by kernel_rfl) (by decide) (by kernel_rfl) rfl
theorem zLO:ArTy Tryz.prog 125 4 1 3 [(.int IntKind.i64 (0)),(.int IntKind.i64 (0)),(.int IntKind.i64 (0)),(.int IntKind.i64 (0))]:=ArTy.of Tryz.underlying125 (by kernel_rfl) (by decide) (by kernel_rfl) rfl
theorem yKJ:ArTy Tryz.prog 141 9 1 3 [(.int IntKind.i64 (0)),(.int IntKind.i64 (0)),(.int IntKind.i64 (0)),(.int IntKind.i64 (0)),(.int IntKind.i64 (0)),(.int IntKind.i64 (0)),(.int IntKind.i64 (0)),(.int IntKind.i64 (0)),(.int IntKind.i64 (0))]:=ArTy.of Tryz.underlying141 (by kernel_rfl) (by decide) (by kernel_rfl) rfl
theorem yTF:ArTy Tryz.prog 210 4 2 43 [(.int IntKind.i64 (0)),(.int IntKind.i64 (0)),(.int IntKind.i64 (0)),(.int IntKind.i64 (0)),(.int IntKind.i64 (0)),(.int IntKind.i64 (0)),(.int IntKind.i64 (0)),(.int IntKind.i64 (0))]:=ArTy.of Tryz.underlying210 (by kernel_rfl) (by decide) (by kernel_rfl) rfl
theorem zSC:ArTy Tryz.prog 219 3 1 3 [(.int IntKind.i64 (0)),(.int IntKind.i64 (0)),(.int IntKind.i64 (0))]:=ArTy.of Tryz.underlying219 (by kernel_rfl) (by decide) (by kernel_rfl) rfl
theorem yTG:StTy Tryz.prog 105 [(0,3),(3,5),(8,4),(12,1),(13,1),(14,1),(15,1),(16,1),(17,1)] [(.slice none 0 0),(.slice none 0 0),(.slice none 0 0),(.slice none 0 0),(.slice none 0 0),(.int IntKind.i64 (0)),(.int IntKind.i64 (0)),(.int IntKind.i64 (0)),(.int IntKind.i64 (0)),(.int IntKind.i64 (0)),(.bool false),(.bool false),(.slice none 0 0),(.slice none 0 0),(.slice none 0 0),(.slice none 0 0),(.map none),(.map none)]:=fx Tryz.underlying105
theorem yTH:StTy Tryz.prog 139 [(0,5),(5,1),(6,1),(7,1),(8,1)] [(.slice none 0 0),(.slice none 0 0),(.int IntKind.i64 (0)),(.int IntKind.i64 (0)),(.int IntKind.i64 (0)),(.map none),(.int IntKind.i64 (0)),(.slice none 0 0),(.int IntKind.i64 (0))]:=fx Tryz.underlying139
theorem yTI:StTy Tryz.prog 214 [(0,1),(1,1)] [(.int IntKind.i64 (0)),(.string ⟨#[]⟩)]:=fx Tryz.underlying214
theorem B26:StTy Tryz.prog 26 [(0,1)] [(.slice none 0 0)]:=fx Tryz.underlying26
theorem B28:StTy Tryz.prog 28 [(0,1),(1,1),(2,1)] [(.slice none 0 0),(.slice none 0 0),(.slice none 0 0)]:=fx Tryz.underlying28
theorem B32:StTy Tryz.prog 32 [(0,1),(1,1),(2,1),(3,1),(4,1)] [(.slice none 0 0),(.slice none 0 0),(.int IntKind.i64 (0)),(.int IntKind.i64 (0)),(.int IntKind.i64 (0))]:=fx Tryz.underlying32
theorem B34:StTy Tryz.prog 34 [(0,1),(1,1),(2,1),(3,1)] [(.int IntKind.i64 (0)),(.int IntKind.i64 (0)),(.bool false),(.bool false)]:=fx Tryz.underlying34
theorem B43:StTy Tryz.prog 43 [(0,1),(1,1)] [(.int IntKind.i64 (0)),(.int IntKind.i64 (0))]:=fx Tryz.underlying43
theorem B82:StTy Tryz.prog 82 [(0,1),(1,1),(2,1),(3,1)] [(.int IntKind.i64 (0)),(.int IntKind.i64 (0)),(.int IntKind.i64 (0)),(.bool false)]:=fx Tryz.underlying82
theorem B91:StTy Tryz.prog 91 [(0,1),(1,1)] [(.slice none 0 0),(.slice none 0 0)]:=fx Tryz.underlying91
theorem zSD:AggTy Tryz.prog 125 4:=fx Tryz.underlying125
theorem yKK:AggTy Tryz.prog 141 9:=fx Tryz.underlying141
theorem uT:AggTy Tryz.prog 144 3:=fx Tryz.underlying144
theorem z4G:AggTy Tryz.prog 206 3:=fx Tryz.underlying206
theorem yTO:AggTy Tryz.prog 210 8:=fx Tryz.underlying210
theorem yRJ:AggTy Tryz.prog 214 2:=fx Tryz.underlying214
theorem z4H:AggTy Tryz.prog 219 3:=fx Tryz.underlying219
theorem G26:AggTy Tryz.prog 26 1:=fx Tryz.underlying26
theorem G28:AggTy Tryz.prog 28 3:=fx Tryz.underlying28
theorem G32:AggTy Tryz.prog 32 5:=fx Tryz.underlying32
theorem G34:AggTy Tryz.prog 34 4:=fx Tryz.underlying34
theorem G43:AggTy Tryz.prog 43 2:=fx Tryz.underlying43
theorem G47:AggTy Tryz.prog 47 15:=fx Tryz.underlying47
theorem G60:AggTy Tryz.prog 60 3:=fx Tryz.underlying60
theorem G82:AggTy Tryz.prog 82 4:=fx Tryz.underlying82
theorem G91:AggTy Tryz.prog 91 2:=fx Tryz.underlying91
theorem K3:KeyTy Tryz.prog 3 kI:=yOO Tryz.underlying3
theorem K9:KeyTy Tryz.prog 9 kS:=yOP Tryz.underlying9
theorem yO0:FldTy Tryz.prog 105 0 0 3 28:=fx Tryz.underlying105
theorem yO1:FldTy Tryz.prog 105 1 3 5 32:=fx Tryz.underlying105
theorem yO2:FldTy Tryz.prog 105 2 8 4 34:=fx Tryz.underlying105
theorem yO3:FldTy Tryz.prog 105 3 12 1 37:=fx Tryz.underlying105
theorem yFX:FldTy Tryz.prog 105 4 13 1 96:=fx Tryz.underlying105
theorem yFY:FldTy Tryz.prog 105 5 14 1 79:=fx Tryz.underlying105
theorem yFZ:FldTy Tryz.prog 105 6 15 1 37:=fx Tryz.underlying105
theorem zIL:FldTy Tryz.prog 105 7 16 1 103:=fx Tryz.underlying105
theorem zIM:FldTy Tryz.prog 105 8 17 1 103:=fx Tryz.underlying105
theorem z7D:FldTy Tryz.prog 139 0 0 5 32:=fx Tryz.underlying139
theorem yF0:FldTy Tryz.prog 139 1 5 1 137:=fx Tryz.underlying139
theorem z0X:FldTy Tryz.prog 139 2 6 1 3:=fx Tryz.underlying139
theorem zP3:FldTy Tryz.prog 139 3 7 1 22:=fx Tryz.underlying139
theorem z7E:FldTy Tryz.prog 139 4 8 1 3:=fx Tryz.underlying139
theorem zG9:FldTy Tryz.prog 144 0 0 1 3:=fx Tryz.underlying144
theorem zHA:FldTy Tryz.prog 144 1 1 1 3:=fx Tryz.underlying144
theorem zIN:FldTy Tryz.prog 144 2 2 1 3:=fx Tryz.underlying144
theorem zSE:FldTy Tryz.prog 206 0 0 1 9:=fx Tryz.underlying206
theorem zSF:FldTy Tryz.prog 206 1 1 1 3:=fx Tryz.underlying206
theorem zSG:FldTy Tryz.prog 206 2 2 1 3:=fx Tryz.underlying206
theorem zLP:FldTy Tryz.prog 26 0 0 1 24:=fx Tryz.underlying26
theorem zAY:FldTy Tryz.prog 28 0 0 1 22:=fx Tryz.underlying28
theorem zV6:FldTy Tryz.prog 28 1 1 1 23:=fx Tryz.underlying28
theorem yF1:FldTy Tryz.prog 28 2 2 1 26:=fx Tryz.underlying28
theorem z4K:FldTy Tryz.prog 32 0 0 1 29:=fx Tryz.underlying32
theorem zV7:FldTy Tryz.prog 32 1 1 1 30:=fx Tryz.underlying32
theorem zPO:FldTy Tryz.prog 32 2 2 1 3:=fx Tryz.underlying32
theorem z9R:FldTy Tryz.prog 32 3 3 1 3:=fx Tryz.underlying32
theorem z9S:FldTy Tryz.prog 32 4 4 1 3:=fx Tryz.underlying32
theorem zM0:FldTy Tryz.prog 34 0 0 1 3:=fx Tryz.underlying34
theorem zZL:FldTy Tryz.prog 34 1 1 1 3:=fx Tryz.underlying34
theorem yF2:FldTy Tryz.prog 34 2 2 1 4:=fx Tryz.underlying34
theorem z9T:FldTy Tryz.prog 34 3 3 1 4:=fx Tryz.underlying34
theorem zN4:FldTy Tryz.prog 43 0 0 1 3:=fx Tryz.underlying43
theorem zKV:FldTy Tryz.prog 43 1 1 1 3:=fx Tryz.underlying43
theorem yNE:FldTy Tryz.prog 47 0 0 3 28:=fx Tryz.underlying47
theorem yNF:FldTy Tryz.prog 47 1 3 5 32:=fx Tryz.underlying47
theorem yRK:FldTy Tryz.prog 47 2 8 4 34:=fx Tryz.underlying47
theorem yNG:FldTy Tryz.prog 47 3 12 1 37:=fx Tryz.underlying47
theorem yNH:FldTy Tryz.prog 47 4 13 1 37:=fx Tryz.underlying47
theorem zV8:FldTy Tryz.prog 47 5 14 1 37:=fx Tryz.underlying47
theorem zLQ:FldTy Tryz.prog 60 0 0 1 3:=fx Tryz.underlying60
theorem zH9:FldTy Tryz.prog 60 1 1 1 37:=fx Tryz.underlying60
theorem zFT:FldTy Tryz.prog 60 2 2 1 9:=fx Tryz.underlying60
theorem z4L:FldTy Tryz.prog 82 0 0 1 3:=fx Tryz.underlying82
theorem zQ7:FldTy Tryz.prog 82 1 1 1 3:=fx Tryz.underlying82
theorem zQ8:FldTy Tryz.prog 82 2 2 1 3:=fx Tryz.underlying82
theorem zZM:FldTy Tryz.prog 82 3 3 1 4:=fx Tryz.underlying82
theorem zJU:FldTy Tryz.prog 91 0 0 1 37:=fx Tryz.underlying91
theorem zN5:FldTy Tryz.prog 91 1 1 1 79:=fx Tryz.underlying91
theorem zBM:MapTy Tryz.prog 103 3 3 (.int IntKind.i64 (0)):=MapTy.of Tryz.underlying103 (by kernel_rfl)
theorem yRL:MapTy Tryz.prog 137 141 79 (.slice none 0 0):=MapTy.of Tryz.underlying137 (by kernel_rfl)
theorem yRM:MapTy Tryz.prog 158 3 37 (.slice none 0 0):=MapTy.of Tryz.underlying158 (by kernel_rfl)
theorem yRN:MapTy Tryz.prog 208 9 4 (.bool false):=MapTy.of Tryz.underlying208 (by kernel_rfl)
theorem yRO:MapTy Tryz.prog 212 214 4 (.bool false):=MapTy.of Tryz.underlying212 (by kernel_rfl)
theorem zFZ:OneTy Tryz.prog 103:=fx Tryz.underlying103
theorem yF3:OneTy Tryz.prog 110:=fx Tryz.underlying110
theorem yO4:OneTy Tryz.prog 126:=fx Tryz.underlying126
theorem yRP:OneTy Tryz.prog 137:=fx Tryz.underlying137
theorem yO5:OneTy Tryz.prog 147:=fx Tryz.underlying147
theorem yO6:OneTy Tryz.prog 158:=fx Tryz.underlying158
theorem O22:OneTy Tryz.prog 22:=fx Tryz.underlying22
theorem O23:OneTy Tryz.prog 23:=fx Tryz.underlying23
theorem O24:OneTy Tryz.prog 24:=fx Tryz.underlying24
theorem O29:OneTy Tryz.prog 29:=fx Tryz.underlying29
theorem O3:OneTy Tryz.prog 3:=fx Tryz.underlying3
theorem O30:OneTy Tryz.prog 30:=fx Tryz.underlying30
theorem O37:OneTy Tryz.prog 37:=fx Tryz.underlying37
theorem O4:OneTy Tryz.prog 4:=fx Tryz.underlying4
theorem O70:OneTy Tryz.prog 70:=fx Tryz.underlying70
theorem O79:OneTy Tryz.prog 79:=fx Tryz.underlying79
theorem O9:OneTy Tryz.prog 9:=fx Tryz.underlying9
theorem O96:OneTy Tryz.prog 96:=fx Tryz.underlying96
theorem yF4:SlTy Tryz.prog 108 79 1 24 (.slice none 0 0):=fx Tryz.underlying108
theorem zXP:SlTy Tryz.prog 128 125 4 32 (.agg #[(.int IntKind.i64 (0)),(.int IntKind.i64 (0)),(.int IntKind.i64 (0)),(.int IntKind.i64 (0))]):=fx Tryz.underlying128
theorem yKL:SlTy Tryz.prog 151 4 1 1 (.bool false):=fx Tryz.underlying151
theorem S22:SlTy Tryz.prog 22 144 3 24 (.agg #[(.int IntKind.i64 (0)),(.int IntKind.i64 (0)),(.int IntKind.i64 (0))]):=fx Tryz.underlying22
theorem S23:SlTy Tryz.prog 23 60 3 48 (.agg #[(.int IntKind.i64 (0)),(.slice none 0 0),(.string ⟨#[]⟩)]):=fx Tryz.underlying23
theorem S24:SlTy Tryz.prog 24 43 2 16 (.agg #[(.int IntKind.i64 (0)),(.int IntKind.i64 (0))]):=fx Tryz.underlying24
theorem S29:SlTy Tryz.prog 29 91 2 48 (.agg #[(.slice none 0 0),(.slice none 0 0)]):=fx Tryz.underlying29
theorem S30:SlTy Tryz.prog 30 206 3 32 (.agg #[(.string ⟨#[]⟩),(.int IntKind.i64 (0)),(.int IntKind.i64 (0))]):=fx Tryz.underlying30
theorem yE:SlTy Tryz.prog 37 3 1 8 (.int IntKind.i64 (0)):=fx Tryz.underlying37
theorem S79:SlTy Tryz.prog 79 82 4 32 (.agg #[(.int IntKind.i64 (0)),(.int IntKind.i64 (0)),(.int IntKind.i64 (0)),(.bool false)]):=fx Tryz.underlying79
theorem S96:SlTy Tryz.prog 96 37 1 24 (.slice none 0 0):=fx Tryz.underlying96
theorem Z0:zAS Tryz.prog 0=some [.int .i64 4352,.int .i64 4370,.int .i64 4449,.int .i64 4469,.int .i64 4520,.int .i64 4546,.int .i64 44032,.int .i64 55203]:=by kernel_rfl
theorem yTQ:EqTy Tryz.prog 125 bR:=EqTy.ofA (vals:=λ(x:bC)=>[.int IntKind.i64 x.x0,.int IntKind.i64 x.x1,.int IntKind.i64 x.x2,.int IntKind.i64 x.x3]) (cs:=λ(a b:bC)=>[decide (a.x0=b.x0),decide (a.x1=b.x1),decide (a.x2=b.x2),decide (a.x3=b.x3)]) zLO O3 (by kernel_rfl) (λ_=>rfl) (λa b w=>(Pw.cons ⟨_,_,rfl,rfl,Go.AV.run_equalIn_int Tryz.underlying3 _ _ _ _⟩ (Pw.cons ⟨_,_,rfl,rfl,Go.AV.run_equalIn_int Tryz.underlying3 _ _ _ _⟩ (Pw.cons ⟨_,_,rfl,rfl,Go.AV.run_equalIn_int Tryz.underlying3 _ _ _ _⟩ (Pw.cons ⟨_,_,rfl,rfl,Go.AV.run_equalIn_int Tryz.underlying3 _ _ _ _⟩ Pw.nil))))) (λa b=>by cases a;cases b;simp)
theorem yTR:EqTy Tryz.prog 141 cK:=EqTy.ofA (vals:=λ(x:bU)=>[.int IntKind.i64 x.x0,.int IntKind.i64 x.x1,.int IntKind.i64 x.x2,.int IntKind.i64 x.x3,.int IntKind.i64 x.x4,.int IntKind.i64 x.x5,.int IntKind.i64 x.x6,.int IntKind.i64 x.x7,.int IntKind.i64 x.x8]) (cs:=λ(a b:bU)=>[decide (a.x0=b.x0),decide (a.x1=b.x1),decide (a.x2=b.x2),decide (a.x3=b.x3),decide (a.x4=b.x4),decide (a.x5=b.x5),decide (a.x6=b.x6),decide (a.x7=b.x7),decide (a.x8=b.x8)]) yKJ O3 (by kernel_rfl) (λ_=>rfl) (λa b w=>(Pw.cons ⟨_,_,rfl,rfl,Go.AV.run_equalIn_int Tryz.underlying3 _ _ _ _⟩ (Pw.cons ⟨_,_,rfl,rfl,Go.AV.run_equalIn_int Tryz.underlying3 _ _ _ _⟩ (Pw.cons ⟨_,_,rfl,rfl,Go.AV.run_equalIn_int Tryz.underlying3 _ _ _ _⟩ (Pw.cons ⟨_,_,rfl,rfl,Go.AV.run_equalIn_int Tryz.underlying3 _ _ _ _⟩ (Pw.cons ⟨_,_,rfl,rfl,Go.AV.run_equalIn_int Tryz.underlying3 _ _ _ _⟩ (Pw.cons ⟨_,_,rfl,rfl,Go.AV.run_equalIn_int Tryz.underlying3 _ _ _ _⟩ (Pw.cons ⟨_,_,rfl,rfl,Go.AV.run_equalIn_int Tryz.underlying3 _ _ _ _⟩ (Pw.cons ⟨_,_,rfl,rfl,Go.AV.run_equalIn_int Tryz.underlying3 _ _ _ _⟩ (Pw.cons ⟨_,_,rfl,rfl,Go.AV.run_equalIn_int Tryz.underlying3 _ _ _ _⟩ Pw.nil)))))))))) (λa b=>by cases a;cases b;simp)
set_option maxRecDepth 10000 in
theorem yTS:EqTy Tryz.prog 214 cE:=EqTy.of (vals:=λ(x:bM)=>[.int IntKind.i64 x.cG,.string ⟨x.cL.toArray⟩]) (cs:=λ(a b:bM)=>[decide (a.cG=b.cG),decide (a.cL=b.cL)]) Tryz.underlying214 (by kernel_rfl) (by kernel_rfl) (λ_=>rfl) (λa b w=>(zOQ (d:=9998) rfl O3 (yJZ (d:=9998) rfl O9 z0M Tryz.underlying9 rfl rfl) Tryz.underlying3 rfl rfl)) (λa b=>by cases a;cases b;simp)
theorem yTT:EqTy Tryz.prog 219 cJ:=EqTy.ofA (vals:=λ(x:bZ)=>[.int IntKind.i64 x.x0,.int IntKind.i64 x.x1,.int IntKind.i64 x.x2]) (cs:=λ(a b:bZ)=>[decide (a.x0=b.x0),decide (a.x1=b.x1),decide (a.x2=b.x2)]) zSC O3 (by kernel_rfl) (λ_=>rfl) (λa b w=>(Pw.cons ⟨_,_,rfl,rfl,Go.AV.run_equalIn_int Tryz.underlying3 _ _ _ _⟩ (Pw.cons ⟨_,_,rfl,rfl,Go.AV.run_equalIn_int Tryz.underlying3 _ _ _ _⟩ (Pw.cons ⟨_,_,rfl,rfl,Go.AV.run_equalIn_int Tryz.underlying3 _ _ _ _⟩ Pw.nil)))) (λa b=>by cases a;cases b;simp)
set_option maxRecDepth 10000 in
theorem E43:EqTy Tryz.prog 43 aE:=EqTy.of (vals:=λ(x:Range)=>[.int IntKind.i64 x.Lo,.int IntKind.i64 x.Hi]) (cs:=λ(a b:Range)=>[decide (a.Lo=b.Lo),decide (a.Hi=b.Hi)]) Tryz.underlying43 (by kernel_rfl) (by kernel_rfl) (λ_=>rfl) (λa b w=>(zOQ (d:=9998) rfl O3 (zOQ (d:=9998) rfl O3 z0M Tryz.underlying3 rfl rfl) Tryz.underlying3 rfl rfl)) (λa b=>by cases a;cases b;simp)
set_option maxRecDepth 10000 in
theorem E82:EqTy Tryz.prog 82 aG:=EqTy.of (vals:=λ(x:aP)=>[.int IntKind.i64 x.aS,.int IntKind.i64 x.aL,.int IntKind.i64 x.aO,.bool x.aD]) (cs:=λ(a b:aP)=>[decide (a.aS=b.aS),decide (a.aL=b.aL),decide (a.aO=b.aO),decide (a.aD=b.aD)]) Tryz.underlying82 (by kernel_rfl) (by kernel_rfl) (λ_=>rfl) (λa b w=>(zOQ (d:=9998) rfl O3 (zOQ (d:=9998) rfl O3 (zOQ (d:=9998) rfl O3 (yFB (d:=9998) rfl O4 z0M Tryz.underlying4 rfl rfl) Tryz.underlying3 rfl rfl) Tryz.underlying3 rfl rfl) Tryz.underlying3 rfl rfl)) (λa b=>by cases a;cases b;simp)
theorem yRR:KeyTy Tryz.prog 141 zGX:=yFF (vals:=λ(x:bU)=>[.int IntKind.i64 x.x0,.int IntKind.i64 x.x1,.int IntKind.i64 x.x2,.int IntKind.i64 x.x3,.int IntKind.i64 x.x4,.int IntKind.i64 x.x5,.int IntKind.i64 x.x6,.int IntKind.i64 x.x7,.int IntKind.i64 x.x8]) Tryz.underlying141 yTR (λ_=>rfl) (λ_=>rfl) (λ_=>rfl) (λ_=>by simp[Instr.sameBits,zVT]) (λa b w=>yCD yKJ O3 Tryz.underlying3 rfl rfl b w)
theorem yRS:KeyTy Tryz.prog 214 zIY:=yFF (vals:=λ(x:bM)=>[.int IntKind.i64 x.cG,.string ⟨x.cL.toArray⟩]) Tryz.underlying214 yTS (λ_=>rfl) (λ_=>rfl) (λ_=>rfl) (λ_=>by simp[Instr.sameBits,zVT]) (λa b w=>z61 Tryz.underlying214 (List.forall_mem_cons.2 ⟨⟨O3,⟨_,Tryz.underlying3,rfl⟩,lq rfl⟩,(List.forall_mem_cons.2 ⟨⟨O9,⟨_,Tryz.underlying9,rfl⟩,lq rfl⟩,(λ_ h=>by cases h)⟩)⟩) b w)
theorem MX:Tryz.prog.follows .mixedOrders=true:=by kernel_rfl
section
variable {P:Program} {r:Option Nat} {E:Env} {S S':AState} {ops:Array Oper} {o:Oper} {rest:List Oper} {J:AState->Prop} {d j t:Nat} {x:AV} {b:Bool} {G H I F0 F1 F2 F3 F4 F5 F6 F7:Prop}
theorem q0 (k:H) (h:H->G:=by exact λk=>jV (kE lr rfl) k):G:=h k
theorem q1 (k:H) (h:H->G:=by exact λk=>jV (zPX lr rfl) k):G:=h k
theorem q2 (f0:F0) (k:H) (h:F0->H->G:=by exact λf0 k=>jV (vY lr f0 rfl) k):G:=h f0 k
theorem q3 (k:H) (h:H->G:=by exact λk=>jV (zZB lr rfl rfl) k):G:=h k
theorem q4 (f0:F0) (k:H) (h:F0->H->G:=by exact λf0 k=>jV (z3P lr f0 rfl) k):G:=h f0 k
theorem q5 (k:H) (h:H->G:=by exact λk=>jV (zQT lr rfl rfl) k):G:=h k
theorem q6 (f0:F0) (k:H) (h:F0->H->G:=by exact λf0 k=>jV (jO lr rfl f0) k):G:=h f0 k
theorem q7 (f0:F0) (k:H) (h:F0->H->G:=by exact λf0 k=>jV (kW lr f0 rfl rfl) k):G:=h f0 k
theorem q8 (k:H) (h:H->G:=by exact λk=>daa (kE lr rfl) k):G:=h k
theorem q9 (f0:F0) (k:H) (h:F0->H->G:=by exact λf0 k=>jV ((kE lr rfl).bool (hP f0)) k):G:=h f0 k
theorem q10 (k:H) (h:H->G:=by exact λk=>jV (zJG lr rfl) k):G:=h k
theorem u5 (f0:F0) (f1:F1) (k:H) (h:F0->F1->H->G:=by exact λf0 f1 k=>jV (k6 lr f0 rfl rfl f1) k):G:=h f0 f1 k
theorem q12 (f0:F0) (k:H) (h:F0->H->G:=by exact λf0 k=>jV (k5 lr f0 rfl rfl) k):G:=h f0 k
theorem q13 (f0:F0) (k:H) (h:F0->H->G:=by exact λf0 k=>daa (vY lr f0 rfl) k):G:=h f0 k
theorem q14 (f0:F0) (k:H) (h:F0->H->G:=by exact λf0 k=>xd rfl (zQ2 f0 rfl rfl rfl rfl rfl rfl) k):G:=h f0 k
theorem q15 (x:AV) (k:Sq P r E ops rest (S.put d (.cond (gd true b) x)) J) (ha:GdO o ops S E j t d b true:=by exact rfl) (h:b=true->AOp P r E S o d x:=by exact λhb=>by subst hb;exact kE lr rfl):Sq P r E ops (o::rest) S J:=sqt x ha h k
theorem q16 (k:H) (h:H->G:=by exact λk=>jV (zIS lr rfl) k):G:=h k
theorem q17 (k:H) (h:H->G:=by exact λk=>jV (zGT lr rfl rfl) k):G:=h k
theorem q18 (f0:F0) (k:H) (h:F0->H->G:=by exact λf0 k=>yC rfl (zQ2 f0 rfl rfl rfl rfl rfl rfl) k):G:=h f0 k
theorem q19 (f0:F0) (k:H) (h:F0->H->G:=by exact λf0 k=>daa (kW lr f0 rfl rfl) k):G:=h f0 k
theorem q20 (f0:F0) (k:H) (h:F0->H->G:=by exact λf0 k=>daa (jO lr rfl f0) k):G:=h f0 k
theorem q21 (f0:F0) (f1:F1) (k:H) (h:F0->F1->H->G:=by exact λf0 f1 k=>xc rfl (zHP lr f0 rfl rfl rfl f1) k):G:=h f0 f1 k
theorem q22 (k:H) (h:H->G:=by exact λk=>jV (zR3 lr rfl rfl) k):G:=h k
theorem q23 (f0:F0) (k:H) (h:F0->H->G:=by exact λf0 k=>jV (yEY lr f0 rfl rfl rfl rfl (by decide) rfl) k):G:=h f0 k
theorem q24 (x:AV) (f0:F0) (k:Sq P r E ops rest (S.put d (.cond (gd false b) x)) J) (ha:GdO o ops S E j t d b false:=by exact rfl) (h:F0->b=false->AOp P r E S o d x:=by exact λf0 hb=>by subst hb;exact vY lr f0 rfl):Sq P r E ops (o::rest) S J:=sqf x ha (h f0) k
theorem q25 (f0:F0) (f1:F1) (f2:F2) (k:H) (h:F0->F1->F2->H->G:=by exact λf0 f1 f2 k=>xd rfl (z32 f0 rfl rfl rfl f1 f2 rfl rfl rfl rfl) k):G:=h f0 f1 f2 k
theorem q26 (x:AV) (f0:F0) (k:Sq P r E ops rest (S.put d (.cond (gd false b) x)) J) (ha:GdO o ops S E j t d b false:=by exact rfl) (h:F0->b=false->AOp P r E S o d x:=by exact λf0 hb=>by subst hb;exact kW lr f0 rfl rfl):Sq P r E ops (o::rest) S J:=sqf x ha (h f0) k
theorem q27 (f0:F0) (k:H) (h:F0->H->G:=by exact λf0 k=>jV (zGU lr f0 rfl rfl rfl) k):G:=h f0 k
theorem q28 (k:H) (h:H->G:=by exact λk=>jV (zYV lr rfl) k):G:=h k
theorem q29 (f0:F0) (f1:F1) (k:H) (h:F0->F1->H->G:=by exact λf0 f1 k=>daa (k6 lr f0 rfl rfl f1) k):G:=h f0 f1 k
theorem q30 (k:H) (h:H->G:=by exact λk=>jV (zS8 lr rfl rfl) k):G:=h k
theorem q31 (k:H) (h:H->G:=by exact λk=>xc rfl (zPX lr rfl) k):G:=h k
theorem q32 (k:H) (h:H->G:=by exact λk=>jV (zZC (size:=3) lr rfl rfl) k):G:=h k
theorem q33 (f0:F0) (k:H) (h:F0->H->G:=by exact λf0 k=>daa (k5 lr f0 rfl rfl) k):G:=h f0 k
theorem q34 (k:H) (h:H->G:=by exact λk=>jV (zTA lr rfl rfl) k):G:=h k
theorem q35 (f0:F0) (k:H) (h:F0->H->G:=by exact λf0 k=>xc rfl (jO lr rfl f0) k):G:=h f0 k
theorem q36 (f0:F0) (f1:F1) (k:H) (h:F0->F1->H->G:=by exact λf0 f1 k=>jV (z6 (en:=eI) (off:=0) lr f0 rfl f1 rfl) k):G:=h f0 f1 k
theorem q37 (k:H) (h:H->G:=by exact λk=>daa (zPX lr rfl) k):G:=h k
theorem q38 (f0:F0) (f1:F1) (k:H) (h:F0->F1->H->G:=by exact λf0 f1 k=>xc rfl (zMF lr f0 rfl rfl f1 rfl) k):G:=h f0 f1 k
theorem q39 (k:H) (h:H->G:=by exact λk=>jV (zNO lr rfl rfl) k):G:=h k
theorem q40 (k:H) (h:H->G:=by exact λk=>jV (zMY lr rfl rfl) k):G:=h k
theorem q41 (f0:F0) (k:H) (h:F0->H->G:=by exact λf0 k=>xc rfl (zGU lr f0 rfl rfl rfl) k):G:=h f0 k
theorem q42 (x:AV) (k:Sq P r E ops rest (S.put d (.cond (gd false b) x)) J) (ha:GdO o ops S E j t d b false:=by exact rfl) (h:b=false->AOp P r E S o d x:=by exact λhb=>by subst hb;exact kE lr rfl):Sq P r E ops (o::rest) S J:=sqf x ha h k
theorem q43 (f0:F0) (f1:F1) (k:H) (h:F0->F1->H->G:=by exact λf0 f1 k=>xc rfl (zF7 lr f0 rfl rfl rfl f1) k):G:=h f0 f1 k
theorem q44 (k:H) (h:H->G:=by exact λk=>jV (zZC (size:=5) lr rfl rfl) k):G:=h k
theorem q45 (x:AV) (k:DA P r E ops rest (S.put d (.cond (gd false b) x)) J) (ha:GdO o ops S E j t d b false:=by exact rfl) (h:b=false->AOp P r E S o d x:=by exact λhb=>by subst hb;exact kE lr rfl):DA P r E ops (o::rest) S J:=daf x ha h k
theorem q46 (f0:F0) (k:H) (h:F0->H->G:=by exact λf0 k=>daa (zL8 lr f0 rfl rfl rfl) k):G:=h f0 k
theorem q47 (f0:F0) (k:H) (h:F0->H->G:=by exact λf0 k=>daa ((kE lr rfl).bool (hP f0)) k):G:=h f0 k
theorem q48 (x:AV) (k:DA P r E ops rest (S.put d (.cond (gd true b) x)) J) (ha:GdO o ops S E j t d b true:=by exact rfl) (h:b=true->AOp P r E S o d x:=by exact λhb=>by subst hb;exact kE lr rfl):DA P r E ops (o::rest) S J:=dat x ha h k
theorem q49 (f0:F0) (k:H) (h:F0->H->G:=by exact λf0 k=>jV (zFG lr f0 rfl rfl) k):G:=h f0 k
theorem q50 (k:H) (h:H->G:=by exact λk=>xd rfl (kH (zs:=[(.int IntKind.i64 (0)),(.int IntKind.i64 (0)),(.int IntKind.i64 (0))]) lr (by kernel_rfl) rfl rfl) k):G:=h k
theorem q51 (k:H) (h:H->G:=by exact λk=>jV (zYW lr rfl rfl) k):G:=h k
theorem q52 (f0:F0) (k:H) (h:F0->H->G:=by exact λf0 k=>jV (zAH lr f0 rfl) k):G:=h f0 k
theorem q53 (k:H) (h:H->G:=by exact λk=>jV (zQU lr rfl rfl) k):G:=h k
theorem q54 (f0:F0) (k:H) (h:F0->H->G:=by exact λf0 k=>jV (zL8 lr f0 rfl rfl rfl) k):G:=h f0 k
theorem q55 (x:AV) (f0:F0) (k:Sq P r E ops rest (S.put d (.cond (gd true b) x)) J) (ha:GdO o ops S E j t d b true:=by exact rfl) (h:F0->b=true->AOp P r E S o d x:=by exact λf0 hb=>by subst hb;exact vY lr f0 rfl):Sq P r E ops (o::rest) S J:=sqt x ha (h f0) k
theorem q56 (f0:F0) (f1:F1) (k:H) (m:I) (h:F0->F1->H->I->G:=by exact λf0 f1 k m=>xa rfl (zAN (en:=aR) (off:=0) lr f0 rfl f1 rfl rfl (by decide)) k m):G:=h f0 f1 k m
theorem q57 (k:H) (h:H->G:=by exact λk=>xd rfl (kH (zs:=[(.slice none 0 0),(.slice none 0 0),(.int IntKind.i64 (0)),(.int IntKind.i64 (0)),(.int IntKind.i64 (0))]) lr (by kernel_rfl) rfl rfl) k):G:=h k
theorem q58 (f0:F0) (k:H) (h:F0->H->G:=by exact λf0 k=>jV (wS lr f0 rfl) k):G:=h f0 k
theorem q59 (x:AV) (k:Sq P r E ops rest (S.put d (.cond (gd false b) x)) J) (ha:GdO o ops S E j t d b false:=by exact rfl) (h:b=false->AOp P r E S o d x:=by exact λhb=>by subst hb;exact zQU lr rfl rfl):Sq P r E ops (o::rest) S J:=sqf x ha h k
theorem q60 (f0:F0) (k:H) (h:F0->H->G:=by exact λf0 k=>daa (wS lr f0 rfl) k):G:=h f0 k
theorem q61 (f0:F0) (f1:F1) (k:H) (m:I) (h:F0->F1->H->I->G:=by exact λf0 f1 k m=>xa rfl (z9F lr f0 f1 rfl rfl) k m):G:=h f0 f1 k m
theorem q62 (x:AV) (f0:F0) (k:Sq P r E ops rest (S.put d (.cond (gd true b) x)) J) (ha:GdO o ops S E j t d b true:=by exact rfl) (h:F0->b=true->AOp P r E S o d x:=by exact λf0 hb=>by subst hb;exact kW lr f0 rfl rfl):Sq P r E ops (o::rest) S J:=sqt x ha (h f0) k
theorem q63 (x:AV) (k:Sq P r E ops rest (S.put d (.cond (gd true b) x)) J) (ha:GdO o ops S E j t d b true:=by exact rfl) (h:b=true->AOp P r E S o d x:=by exact λhb=>by subst hb;exact zLH lr rfl rfl):Sq P r E ops (o::rest) S J:=sqt x ha h k
theorem q64 (k:H) (h:H->G:=by exact λk=>yC rfl (kH (zs:=[(.int IntKind.i64 (0)),(.int IntKind.i64 (0))]) lr (by kernel_rfl) rfl rfl) k):G:=h k
theorem q65 (k:H) (h:H->G:=by exact λk=>jV (zZC (size:=4) lr rfl rfl) k):G:=h k
theorem q66 (f0:F0) (k:H) (h:F0->H->G:=by exact λf0 k=>yC rfl (zK5 f0 rfl rfl lr rfl rfl rfl) k):G:=h f0 k
theorem q67 (k:H) (h:H->G:=by exact λk=>jV (zLH lr rfl rfl) k):G:=h k
theorem q68 (f0:F0) (f1:F1) (k:H) (h:F0->F1->H->G:=by exact λf0 f1 k=>jV (yOL lr f0 f1 rfl) k):G:=h f0 f1 k
theorem q69 (k:H) (h:H->G:=by exact λk=>daa (zGT lr rfl rfl) k):G:=h k
theorem q70 (k:H) (h:H->G:=by exact λk=>jV (zZC (size:=1) lr rfl rfl) k):G:=h k
theorem q71 (f0:F0) (k:H) (h:F0->H->G:=by exact λf0 k=>xc rfl (k5 lr f0 rfl rfl) k):G:=h f0 k
theorem q72 (x:AV) (f0:F0) (k:DA P r E ops rest (S.put d (.cond (gd true b) x)) J) (ha:GdO o ops S E j t d b true:=by exact rfl) (h:F0->b=true->AOp P r E S o d x:=by exact λf0 hb=>by subst hb;exact k5 lr f0 rfl rfl):DA P r E ops (o::rest) S J:=dat x ha (h f0) k
theorem q73 (f0:F0) (f1:F1) (k:H) (h:F0->F1->H->G:=by exact λf0 f1 k=>daa (z6 (en:=eI) (off:=0) lr f0 rfl f1 rfl) k):G:=h f0 f1 k
theorem q74 (k:H) (h:H->G:=by exact λk=>daa (zJG lr rfl) k):G:=h k
theorem q75 (f0:F0) (k:H) (h:F0->H->G:=by exact λf0 k=>jV (zTW lr f0 rfl rfl (by decide)) k):G:=h f0 k
theorem q76 (f0:F0) (f1:F1) (k:H) (h:F0->F1->H->G:=by exact λf0 f1 k=>xc rfl (z9F lr f0 f1 rfl rfl) k):G:=h f0 f1 k
theorem q77 (f0:F0) (f1:F1) (k:H) (h:F0->F1->H->G:=by exact λf0 f1 k=>xc rfl (zAN (en:=aR) (off:=0) lr f0 rfl f1 rfl rfl (by decide)) k):G:=h f0 f1 k
theorem q78 (f0:F0) (k:H) (h:F0->H->G:=by exact λf0 k=>xc rfl (zAH lr f0 rfl) k):G:=h f0 k
theorem q79 (x:AV) (f0:F0) (k:Sq P r E ops rest (S.put d (.cond (gd true b) x)) J) (ha:GdO o ops S E j t d b true:=by exact rfl) (h:F0->b=true->AOp P r E S o d x:=by exact λf0 hb=>by subst hb;exact k5 lr f0 rfl rfl):Sq P r E ops (o::rest) S J:=sqt x ha (h f0) k
theorem q80 (k:H) (h:H->G:=by exact λk=>jV (zL9 lr rfl) k):G:=h k
theorem q81 (k:H) (h:H->G:=by exact λk=>daa (zHO lr rfl) k):G:=h k
theorem q82 (x:AV) (k:Sq P r E ops rest (S.put d (.cond (gd true b) x)) J) (ha:GdO o ops S E j t d b true:=by exact rfl) (h:b=true->AOp P r E S o d x:=by exact λhb=>by subst hb;exact zQT lr rfl rfl):Sq P r E ops (o::rest) S J:=sqt x ha h k
theorem q83 (x:AV) (f0:F0) (k:Sq P r E ops rest (S.put d (.cond (gd false b) x)) J) (ha:GdO o ops S E j t d b false:=by exact rfl) (h:F0->b=false->AOp P r E S o d x:=by exact λf0 hb=>by subst hb;exact z3P lr f0 rfl):Sq P r E ops (o::rest) S J:=sqf x ha (h f0) k
theorem q84 (f0:F0) (f1:F1) (k:H) (h:F0->F1->H->G:=by exact λf0 f1 k=>xd rfl (yFO f0 rfl rfl rfl rfl f1 rfl) k):G:=h f0 f1 k
theorem q85 (f0:F0) (k:H) (m:I) (h:F0->H->I->G:=by exact λf0 k m=>xa rfl (zGU lr f0 rfl rfl rfl) k m):G:=h f0 k m
theorem q86 (f0:F0) (f1:F1) (k:H) (m:I) (h:F0->F1->H->I->G:=by exact λf0 f1 k m=>xa rfl (zMF lr f0 rfl rfl f1 rfl) k m):G:=h f0 f1 k m
theorem q87 (f0:F0) (k:H) (m:I) (h:F0->H->I->G:=by exact λf0 k m=>xa rfl (jO lr rfl f0) k m):G:=h f0 k m
theorem q88 (x:AV) (k:Sq P r E ops rest (S.put d (.cond (gd true b) x)) J) (ha:GdO o ops S E j t d b true:=by exact rfl) (h:b=true->AOp P r E S o d x:=by exact λhb=>by subst hb;exact zYV lr rfl):Sq P r E ops (o::rest) S J:=sqt x ha h k
theorem q89 (f0:F0) (k:H) (h:F0->H->G:=by exact λf0 k=>jV (yFD lr f0 rfl rfl) k):G:=h f0 k
theorem q90 (f0:F0) (f1:F1) (k:H) (h:F0->F1->H->G:=by exact λf0 f1 k=>jV (zF7 lr f0 rfl rfl rfl f1) k):G:=h f0 f1 k
theorem q91 (f0:F0) (k:H) (h:F0->H->G:=by exact λf0 k=>jV (zOO lr f0 rfl) k):G:=h f0 k
theorem q92 (f0:F0) (k:H) (h:F0->H->G:=by exact λf0 k=>yC rfl (zTU f0 rfl rfl lr rfl rfl rfl) k):G:=h f0 k
theorem q93 (k:H) (h:H->G:=by exact λk=>daa (zR3 lr rfl rfl) k):G:=h k
theorem q94 (x:AV) (f0:F0) (k:DA P r E ops rest (S.put d (.cond (gd false b) x)) J) (ha:GdO o ops S E j t d b false:=by exact rfl) (h:F0->b=false->AOp P r E S o d x:=by exact λf0 hb=>by subst hb;exact wS lr f0 rfl):DA P r E ops (o::rest) S J:=daf x ha (h f0) k
theorem q95 (k:H) (h:H->G:=by exact λk=>jV (yQ0 lr rfl rfl (by decide)) k):G:=h k
theorem q96 (x:AV) (k:Sq P r E ops rest (S.put d (.cond (gd false b) x)) J) (ha:GdO o ops S E j t d b false:=by exact rfl) (h:b=false->AOp P r E S o d x:=by exact λhb=>by subst hb;exact zGT lr rfl rfl):Sq P r E ops (o::rest) S J:=sqf x ha h k
theorem q97 (k:H) (h:H->G:=by exact λk=>yC rfl (yBW lr rfl rfl) k):G:=h k
theorem q98 (x:AV) (f0:F0) (k:Sq P r E ops rest (S.put d (.cond (gd true b) x)) J) (ha:GdO o ops S E j t d b true:=by exact rfl) (h:F0->b=true->AOp P r E S o d x:=by exact λf0 hb=>by subst hb;exact z3P lr f0 rfl):Sq P r E ops (o::rest) S J:=sqt x ha (h f0) k
theorem q99 (f0:F0) (f1:F1) (k:H) (h:F0->F1->H->G:=by exact λf0 f1 k=>jV (z6 (en:=aC) (off:=1) lr f0 rfl f1 rfl) k):G:=h f0 f1 k
theorem yTY (k:H) (h:H->G:=by exact λk=>jV (zZC (size:=15) lr rfl rfl) k):G:=h k
theorem z0Z (x:AV) (k:Sq P r E ops rest (S.put d (.cond (gd true b) x)) J) (ha:GdO o ops S E j t d b true:=by exact rfl) (h:b=true->AOp P r E S o d x:=by exact λhb=>by subst hb;exact zMY lr rfl rfl):Sq P r E ops (o::rest) S J:=sqt x ha h k
theorem z7J (x:AV) (k:Sq P r E ops rest (S.put d (.cond (gd false b) x)) J) (ha:GdO o ops S E j t d b false:=by exact rfl) (h:b=false->AOp P r E S o d x:=by exact λhb=>by subst hb;exact zYV lr rfl):Sq P r E ops (o::rest) S J:=sqf x ha h k
theorem z00 (f0:F0) (f1:F1) (k:H) (h:F0->F1->H->G:=by exact λf0 f1 k=>jV (zAN (en:=aC) (off:=0) lr f0 rfl f1 rfl rfl (by decide)) k):G:=h f0 f1 k
theorem z7K (f0:F0) (f1:F1) (k:H) (h:F0->F1->H->G:=by exact λf0 f1 k=>jV (zAN (en:=aE) (off:=0) lr f0 rfl f1 rfl rfl (by decide)) k):G:=h f0 f1 k
theorem z01 (f0:F0) (k:H) (h:F0->H->G:=by exact λf0 k=>jV (yNA lr rfl rfl f0) k):G:=h f0 k
theorem z4N (x:AV) (f0:F0) (k:DA P r E ops rest (S.put d (.cond (gd true b) x)) J) (ha:GdO o ops S E j t d b true:=by exact rfl) (h:F0->b=true->AOp P r E S o d x:=by exact λf0 hb=>by subst hb;exact vY lr f0 rfl):DA P r E ops (o::rest) S J:=dat x ha (h f0) k
theorem z4O (x:AV) (f0:F0) (k:DA P r E ops rest (S.put d (.cond (gd true b) x)) J) (ha:GdO o ops S E j t d b true:=by exact rfl) (h:F0->b=true->AOp P r E S o d x:=by exact λf0 hb=>by subst hb;exact kW lr f0 rfl rfl):DA P r E ops (o::rest) S J:=dat x ha (h f0) k
theorem z4P (x:AV) (f0:F0) (k:DA P r E ops rest (S.put d (.cond (gd true b) x)) J) (ha:GdO o ops S E j t d b true:=by exact rfl) (h:F0->b=true->AOp P r E S o d x:=by exact λf0 hb=>by subst hb;exact wS lr f0 rfl):DA P r E ops (o::rest) S J:=dat x ha (h f0) k
theorem z4Q (f0:F0) (k:H) (h:F0->H->G:=by exact λf0 k=>daa (zAH lr f0 rfl) k):G:=h f0 k
theorem z4R (k:H) (h:H->G:=by exact λk=>daa (zTA lr rfl rfl) k):G:=h k
theorem z4S (f0:F0) (f1:F1) (k:H) (m:I) (h:F0->F1->H->I->G:=by exact λf0 f1 k m=>xa rfl (zHP lr f0 rfl rfl rfl f1) k m):G:=h f0 f1 k m
theorem z7L (k:H) (h:H->G:=by exact λk=>daa (zQT lr rfl rfl) k):G:=h k
theorem z4T (k:H) (h:H->G:=by exact λk=>daa (zZB lr rfl rfl) k):G:=h k
theorem z4U (f0:F0) (k:H) (m:I) (h:F0->H->I->G:=by exact λf0 k m=>xa rfl (k5 lr f0 rfl rfl) k m):G:=h f0 k m
theorem z7M (f0:F0) (f1:F1) (k:H) (h:F0->F1->H->G:=by exact λf0 f1 k=>jV (z6 (en:=(eL eI)) (off:=0) lr f0 rfl f1 rfl) k):G:=h f0 f1 k
theorem z7N (x:AV) (k:Sq P r E ops rest (S.put d (.cond (gd false b) x)) J) (ha:GdO o ops S E j t d b false:=by exact rfl) (h:b=false->AOp P r E S o d x:=by exact λhb=>by subst hb;exact zNO lr rfl rfl):Sq P r E ops (o::rest) S J:=sqf x ha h k
theorem yCQ (x:AV) (k:Sq P r E ops rest (S.put d (.cond (gd false b) x)) J) (ha:GdO o ops S E j t d b false:=by exact rfl) (h:b=false->AOp P r E S o d x:=by exact λhb=>by subst hb;exact zMY lr rfl rfl):Sq P r E ops (o::rest) S J:=sqf x ha h k
theorem z7O (k:H) (h:H->G:=by exact λk=>yC rfl (yB2 lr rfl) k):G:=h k
theorem z7P (k:H) (h:H->G:=by exact λk=>daa (zQU lr rfl rfl) k):G:=h k
theorem z7Q (k:H) (h:H->G:=by exact λk=>jV (zVM lr rfl) k):G:=h k
theorem yTZ (k:H) (h:H->G:=by exact λk=>yC rfl (kH (zs:=[(.int IntKind.i64 (0)),(.slice none 0 0),(.string ⟨#[]⟩)]) lr (by kernel_rfl) rfl rfl) k):G:=h k
theorem z7R (f0:F0) (k:H) (h:F0->H->G:=by exact λf0 k=>jV (yON lr f0 rfl rfl) k):G:=h f0 k
theorem z7S (k:H) (h:H->G:=by exact λk=>yC rfl (kH (zs:=[(.slice none 0 0)]) lr (by kernel_rfl) rfl rfl) k):G:=h k
theorem z7T (f0:F0) (k:H) (h:F0->H->G:=by exact λf0 k=>jV (yM9 lr rfl rfl f0) k):G:=h f0 k
theorem z7U (f0:F0) (k:H) (h:F0->H->G:=by exact λf0 k=>yC rfl (zFF lr f0 rfl rfl rfl rfl (by decide) rfl) k):G:=h f0 k
theorem z7V (k:H) (h:H->G:=by exact λk=>jV (z6U lr rfl rfl) k):G:=h k
theorem yCR (k:H) (h:H->G:=by exact λk=>yC rfl (kH (zs:=[(.slice none 0 0),(.slice none 0 0)]) lr (by kernel_rfl) rfl rfl) k):G:=h k
theorem yCS (k:H) (h:H->G:=by exact λk=>jV (z6R lr rfl rfl) k):G:=h k
theorem yCT (f0:F0) (f1:F1) (k:H) (h:F0->F1->H->G:=by exact λf0 f1 k=>yC rfl (z3S f0 f1 rfl rfl rfl rfl rfl rfl) k):G:=h f0 f1 k
theorem yCU (x:AV) (k:DA P r E ops rest (S.put d (.cond (gd true b) x)) J) (ha:GdO o ops S E j t d b true:=by exact rfl) (h:b=true->AOp P r E S o d x:=by exact λhb=>by subst hb;exact zTA lr rfl rfl):DA P r E ops (o::rest) S J:=dat x ha h k
theorem yCV (k:H) (h:H->G:=by exact λk=>jV (zZC (size:=2) lr rfl rfl) k):G:=h k
theorem yCW (f0:F0) (f1:F1) (k:H) (h:F0->F1->H->G:=by exact λf0 f1 k=>jV (zAN (en:=aG) (off:=0) lr f0 rfl f1 rfl rfl (by decide)) k):G:=h f0 f1 k
theorem yGB (f0:F0) (k:H) (h:F0->H->G:=by exact λf0 k=>daa (z3P lr f0 rfl) k):G:=h f0 k
theorem yCX (k:H) (h:H->G:=by exact λk=>yC rfl (kH (zs:=[(.int IntKind.i64 (0)),(.int IntKind.i64 (0)),(.int IntKind.i64 (0))]) lr (by kernel_rfl) rfl rfl) k):G:=h k
theorem yCY (f0:F0) (k:H) (h:F0->H->G:=by exact λf0 k=>jV (zKP lr rfl rfl f0) k):G:=h f0 k
theorem yCZ (f0:F0) (k:H) (h:F0->H->G:=by exact λf0 k=>jV (yB4 lr f0 rfl rfl (by decide)) k):G:=h f0 k
theorem yC0 (f0:F0) (k:H) (h:F0->H->G:=by exact λf0 k=>xd rfl (zK5 f0 rfl rfl lr rfl rfl rfl) k):G:=h f0 k
theorem yC1 (f0:F0) (f1:F1) (k:H) (h:F0->F1->H->G:=by exact λf0 f1 k=>daa (zHP lr f0 rfl rfl rfl f1) k):G:=h f0 f1 k
theorem yC2 (f0:F0) (f1:F1) (k:H) (h:F0->F1->H->G:=by exact λf0 f1 k=>daa (zMF lr f0 rfl rfl f1 rfl) k):G:=h f0 f1 k
theorem yC3 (k:H) (h:H->G:=by exact λk=>daa (zYW lr rfl rfl) k):G:=h k
theorem yC4 (f0:F0) (k:H) (m:I) (h:F0->H->I->G:=by exact λf0 k m=>xa rfl (zAH lr f0 rfl) k m):G:=h f0 k m
theorem yC5 (x:AV) (f0:F0) (k:Sq P r E ops rest (S.put d (.cond (gd true b) x)) J) (ha:GdO o ops S E j t d b true:=by exact rfl) (h:F0->b=true->AOp P r E S o d x:=by exact λf0 hb=>by subst hb;exact yEY lr f0 rfl rfl rfl rfl (by decide) rfl):Sq P r E ops (o::rest) S J:=sqt x ha (h f0) k
theorem yC6 (x:AV) (f0:F0) (k:Sq P r E ops rest (S.put d (.cond (gd true b) x)) J) (ha:GdO o ops S E j t d b true:=by exact rfl) (h:F0->b=true->AOp P r E S o d x:=by exact λf0 hb=>by subst hb;exact wS lr f0 rfl):Sq P r E ops (o::rest) S J:=sqt x ha (h f0) k
theorem yKR (x:AV) (k:Sq P r E ops rest (S.put d (.cond (gd false b) x)) J) (ha:GdO o ops S E j t d b false:=by exact rfl) (h:b=false->AOp P r E S o d x:=by exact λhb=>by subst hb;exact zQT lr rfl rfl):Sq P r E ops (o::rest) S J:=sqf x ha h k
theorem yGC (k:H) (h:H->G:=by exact λk=>yC rfl (kH (zs:=[(.int IntKind.i64 (0)),(.int IntKind.i64 (0)),(.int IntKind.i64 (0)),(.bool false)]) lr (by kernel_rfl) rfl rfl) k):G:=h k
theorem yGD (k:H) (h:H->G:=by exact λk=>jV (yQ4 lr rfl rfl) k):G:=h k
theorem yGE (k:H) (h:H->G:=by exact λk=>jV (zIT lr rfl) k):G:=h k
theorem yGF (k:H) (h:H->G:=by exact λk=>daa (zVM lr rfl) k):G:=h k
theorem yGG (k:H) (h:H->G:=by exact λk=>daa (zI6 lr rfl) k):G:=h k
theorem yGH (k:H) (m:I) (h:H->I->G:=by exact λk m=>xb rfl (kH (zs:=[(.int IntKind.i64 (0)),(.int IntKind.i64 (0)),(.int IntKind.i64 (0))]) lr (by kernel_rfl) rfl rfl) k m):G:=h k m
theorem yGI (x:AV) (k:Sq P r E ops rest (S.put d (.cond (gd true b) x)) J) (ha:GdO o ops S E j t d b true:=by exact rfl) (h:b=true->AOp P r E S o d x:=by exact λhb=>by subst hb;exact zS8 lr rfl rfl):Sq P r E ops (o::rest) S J:=sqt x ha h k
theorem yGJ (f0:F0) (k:H) (h:F0->H->G:=by exact λf0 k=>daa (yEY lr f0 rfl rfl rfl rfl (by decide) rfl) k):G:=h f0 k
theorem yGK (x:AV) (k:DA P r E ops rest (S.put d (.cond (gd true b) x)) J) (ha:GdO o ops S E j t d b true:=by exact rfl) (h:b=true->AOp P r E S o d x:=by exact λhb=>by subst hb;exact zJG lr rfl):DA P r E ops (o::rest) S J:=dat x ha h k
theorem yGL (f0:F0) (f1:F1) (k:H) (h:F0->F1->H->G:=by exact λf0 f1 k=>daa (zF7 lr f0 rfl rfl rfl f1) k):G:=h f0 f1 k
theorem yGM (f0:F0) (k:H) (h:F0->H->G:=by exact λf0 k=>daa (z9I lr f0 rfl rfl) k):G:=h f0 k
theorem yGN (f0:F0) (f1:F1) (k:H) (h:F0->F1->H->G:=by exact λf0 f1 k=>daa (z6 (en:=aC) (off:=0) lr f0 rfl f1 rfl) k):G:=h f0 f1 k
theorem yGO (k:H) (h:H->G:=by exact λk=>jV (zKL lr rfl) k):G:=h k
theorem yGP (f0:F0) (k:H) (h:F0->H->G:=by exact λf0 k=>daa (zOO lr f0 rfl) k):G:=h f0 k
theorem yGQ (k:H) (h:H->G:=by exact λk=>daa (zYV lr rfl) k):G:=h k
theorem yGR (k:H) (h:H->G:=by exact λk=>jV (zHO lr rfl) k):G:=h k
theorem yKS (f0:F0) (f1:F1) (k:H) (h:F0->F1->H->G:=by exact λf0 f1 k=>daa (zQ0 lr f0 rfl rfl rfl f1) k):G:=h f0 f1 k
theorem yGS (k:H) (h:H->G:=by exact λk=>xc rfl (zI6 lr rfl) k):G:=h k
theorem yGT (f0:F0) (f1:F1) (k:H) (h:F0->F1->H->G:=by exact λf0 f1 k=>jV (zVS lr f0 rfl rfl f1) k):G:=h f0 f1 k
theorem yKT (x:AV) (f0:F0) (k:Sq P r E ops rest (S.put d (.cond (gd true b) x)) J) (ha:GdO o ops S E j t d b true:=by exact rfl) (h:F0->b=true->AOp P r E S o d x:=by exact λf0 hb=>by subst hb;exact zFG lr f0 rfl rfl):Sq P r E ops (o::rest) S J:=sqt x ha (h f0) k
theorem yKU (x:AV) (f0:F0) (k:Sq P r E ops rest (S.put d (.cond (gd false b) x)) J) (ha:GdO o ops S E j t d b false:=by exact rfl) (h:F0->b=false->AOp P r E S o d x:=by exact λf0 hb=>by subst hb;exact wS lr f0 rfl):Sq P r E ops (o::rest) S J:=sqf x ha (h f0) k
theorem yRY (x:AV) (f0:F0) (k:Sq P r E ops rest (S.put d (.cond (gd true b) x)) J) (ha:GdO o ops S E j t d b true:=by exact rfl) (h:F0->b=true->AOp P r E S o d x:=by exact λf0 hb=>by subst hb;exact zL8 lr f0 rfl rfl rfl):Sq P r E ops (o::rest) S J:=sqt x ha (h f0) k
theorem yKV (k:H) (h:H->G:=by exact λk=>yC rfl (kH (zs:=[(.slice none 0 0),(.slice none 0 0),(.int IntKind.i64 (0)),(.int IntKind.i64 (0)),(.int IntKind.i64 (0))]) lr (by kernel_rfl) rfl rfl) k):G:=h k
theorem yKW (f0:F0) (f1:F1) (k:H) (h:F0->F1->H->G:=by exact λf0 f1 k=>jV (yE8 lr f0 rfl rfl f1) k):G:=h f0 f1 k
theorem yKX (f0:F0) (k:H) (h:F0->H->G:=by exact λf0 k=>jV (zVR lr f0 rfl) k):G:=h f0 k
theorem yKY (f0:F0) (f1:F1) (k:H) (h:F0->F1->H->G:=by exact λf0 f1 k=>jV (zAN (en:=aX) (off:=0) lr f0 rfl f1 rfl rfl (by decide)) k):G:=h f0 f1 k
theorem yKZ (k:H) (h:H->G:=by exact λk=>yC rfl (kH (zs:=[(.string ⟨#[]⟩),(.int IntKind.i64 (0)),(.int IntKind.i64 (0))]) lr (by kernel_rfl) rfl rfl) k):G:=h k
theorem yK0 (x:AV) (k:Sq P r E ops rest (S.put d (.cond (gd true b) x)) J) (ha:GdO o ops S E j t d b true:=by exact rfl) (h:b=true->AOp P r E S o d x:=by exact λhb=>by subst hb;exact zR3 lr rfl rfl):Sq P r E ops (o::rest) S J:=sqt x ha h k
theorem yK1 (k:H) (h:H->G:=by exact λk=>daa (zS8 lr rfl rfl) k):G:=h k
theorem yK2 (f0:F0) (k:H) (h:F0->H->G:=by exact λf0 k=>daa (zGU lr f0 rfl rfl rfl) k):G:=h f0 k
theorem yK3 (f0:F0) (f1:F1) (k:H) (h:F0->F1->H->G:=by exact λf0 f1 k=>jV (zAN (en:=aR) (off:=0) lr f0 rfl f1 rfl rfl (by decide)) k):G:=h f0 f1 k
theorem yK4 (f0:F0) (f1:F1) (k:H) (h:F0->F1->H->G:=by exact λf0 f1 k=>daa (zAN (en:=aC) (off:=0) lr f0 rfl f1 rfl rfl (by decide)) k):G:=h f0 f1 k
theorem yK5 (f0:F0) (f1:F1) (k:H) (m:I) (h:F0->F1->H->I->G:=by exact λf0 f1 k m=>xa rfl (zF7 lr f0 rfl rfl rfl f1) k m):G:=h f0 f1 k m
theorem yK6 (k:H) (h:H->G:=by exact λk=>jV (z9B lr rfl rfl) k):G:=h k
theorem yK7 (f0:F0) (f1:F1) (k:H) (h:F0->F1->H->G:=by exact λf0 f1 k=>daa (zAN (en:=aE) (off:=0) lr f0 rfl f1 rfl rfl (by decide)) k):G:=h f0 f1 k
theorem yK8 (k:H) (h:H->G:=by exact λk=>jV (z6M lr rfl) k):G:=h k
theorem yK9 (k:H) (h:H->G:=by exact λk=>jV (zI6 lr rfl) k):G:=h k
theorem yLA (k:H) (h:H->G:=by exact λk=>yC rfl (kH (zs:=[(.slice none 0 0),(.slice none 0 0),(.slice none 0 0)]) lr (by kernel_rfl) rfl rfl) k):G:=h k
theorem yLB (f0:F0) (k:H) (h:F0->H->G:=by exact λf0 k=>jV (yOQ lr f0 rfl rfl) k):G:=h f0 k
theorem yLC (f0:F0) (f1:F1) (k:H) (h:F0->F1->H->G:=by exact λf0 f1 k=>daa (zNU lr f0 rfl rfl f1) k):G:=h f0 f1 k
theorem yLD (f0:F0) (f1:F1) (k:H) (h:F0->F1->H->G:=by exact λf0 f1 k=>daa (zVS lr f0 rfl rfl f1) k):G:=h f0 f1 k
theorem yLE (x:AV) (f0:F0) (k:DA P r E ops rest (S.put d (.cond (gd false b) x)) J) (ha:GdO o ops S E j t d b false:=by exact rfl) (h:F0->b=false->AOp P r E S o d x:=by exact λf0 hb=>by subst hb;exact vY lr f0 rfl):DA P r E ops (o::rest) S J:=daf x ha (h f0) k
theorem yLF (x:AV) (f0:F0) (k:DA P r E ops rest (S.put d (.cond (gd false b) x)) J) (ha:GdO o ops S E j t d b false:=by exact rfl) (h:F0->b=false->AOp P r E S o d x:=by exact λf0 hb=>by subst hb;exact kW lr f0 rfl rfl):DA P r E ops (o::rest) S J:=daf x ha (h f0) k
theorem yLG (f0:F0) (f1:F1) (f2:F2) (k:H) (h:F0->F1->F2->H->G:=by exact λf0 f1 f2 k=>jV (yFU lr f0 rfl f1 f2 rfl rfl) k):G:=h f0 f1 f2 k
end
section
variable {G H:Prop}
theorem Q0 (k:H) (h:H->G:=by intro k;refine yP ?_;exact xH k):G:=h k
theorem Q1 (k:H) (h:H->G:=by intro k;refine q1 ?_;exact zJ k):G:=h k
theorem Q2 (k:H) (h:H->G:=by intro k;refine Q0 ?_;exact q0 k):G:=h k
theorem Q3 (k:H) (h:H->G:=by intro k;refine Q0 ?_;exact Q1 k):G:=h k
theorem Q4 (k:H) (h:H->G:=by intro k;refine yP ?_;exact Q2 k):G:=h k
theorem Q5 (k:H) (h:H->G:=by intro k;refine zM ?_;exact yP k):G:=h k
theorem Q6 (k:H) (h:H->G:=by intro k;refine q5 ?_;exact zJ k):G:=h k
theorem Q7 (k:H) (h:H->G:=by intro k;refine q0 ?_;exact zJ k):G:=h k
theorem Q8 (k:H) (h:H->G:=by intro k;refine xH ?_;exact q0 k):G:=h k
theorem Q9 (k:H) (h:H->G:=by intro k;refine Q5 ?_;exact yT k):G:=h k
theorem Q10 (k:H) (h:H->G:=by intro k;refine q3 ?_;exact Q1 k):G:=h k
theorem Q11 (k:H) (h:H->G:=by intro k;refine q16 ?_;exact zJ k):G:=h k
theorem Q12 (k:H) (h:H->G:=by intro k;refine q0 ?_;exact q0 k):G:=h k
theorem Q13 (k:H) (h:H->G:=by intro k;refine Q8 ?_;exact Q10 k):G:=h k
theorem Q14 (k:H) (h:H->G:=by intro k;refine Q4 ?_;exact q0 k):G:=h k
theorem Q15 (k:H) (h:H->G:=by intro k;refine Q1 ?_;exact Q2 k):G:=h k
theorem Q16 (k:H) (h:H->G:=by intro k;refine Q1 ?_;exact yP k):G:=h k
theorem Q17 (k:H) (h:H->G:=by intro k;refine Q0 ?_;exact Q6 k):G:=h k
theorem Q18 (k:H) (h:H->G:=by intro k;refine Q17 ?_;exact yP k):G:=h k
theorem Q19 (k:H) (h:H->G:=by intro k;refine xH ?_;exact q3 k):G:=h k
theorem Q20 (k:H) (h:H->G:=by intro k;refine Q19 ?_;exact Q7 k):G:=h k
theorem Q21 (k:H) (h:H->G:=by intro k;refine Q0 ?_;exact q10 k):G:=h k
theorem Q22 (k:H) (h:H->G:=by intro k;refine Q3 ?_;exact yT k):G:=h k
theorem Q23 (k:H) (h:H->G:=by intro k;refine Q3 ?_;exact yB k):G:=h k
theorem Q24 (k:H) (h:H->G:=by intro k;refine Q7 ?_;exact yT k):G:=h k
theorem Q25 (k:H) (h:H->G:=by intro k;refine q8 ?_;exact q8 k):G:=h k
theorem Q26 (k:H) (h:H->G:=by intro k;refine xH ?_;exact q10 k):G:=h k
theorem Q27 (k:H) (h:H->G:=by intro k;refine Q2 ?_;exact q0 k):G:=h k
theorem Q28 (k:H) (h:H->G:=by intro k;refine xn [6] ?_;exact q31 k):G:=h k
theorem Q29 (k:H) (h:H->G:=by intro k;refine Q28 ?_;exact xn [7] k):G:=h k
theorem Q30 (k:H) (h:H->G:=by intro k;refine Q29 ?_;exact q14 G32 k):G:=h k
theorem Q31 (k:H) (h:H->G:=by intro k;refine yP ?_;exact Q0 k):G:=h k
theorem Q32 (k:H) (h:H->G:=by intro k;refine Q9 ?_;exact Q0 k):G:=h k
theorem Q33 (k:H) (h:H->G:=by intro k;refine Q0 ?_;exact q32 k):G:=h k
theorem Q34 (k:H) (h:H->G:=by intro k;refine yP ?_;exact Q22 k):G:=h k
theorem Q35 (k:H) (h:H->G:=by intro k;refine Q1 ?_;exact Q0 k):G:=h k
theorem Q36 (k:H) (h:H->G:=by intro k;refine q28 ?_;exact zJ k):G:=h k
theorem Q37 (k:H) (h:H->G:=by intro k;refine q30 ?_;exact zJ k):G:=h k
theorem Q38 (k:H) (h:H->G:=by intro k;refine zM ?_;exact Q13 k):G:=h k
theorem Q39 (k:H) (h:H->G:=by intro k;refine q17 ?_;exact zJ k):G:=h k
theorem Q40 (k:H) (h:H->G:=by intro k;refine Q2 ?_;exact Q1 k):G:=h k
theorem Q41 (k:H) (h:H->G:=by intro k;refine zM ?_;exact Q20 k):G:=h k
theorem Q42 (k:H) (h:H->G:=by intro k;refine xn [12] ?_;exact q14 uT k):G:=h k
theorem Q43 (k:H) (h:H->G:=by intro k;refine Q3 ?_;exact Q4 k):G:=h k
theorem Q44 (k:H) (h:H->G:=by intro k;refine q37 ?_;exact xI k):G:=h k
theorem Q45 (k:H) (h:H->G:=by intro k;refine q22 ?_;exact zJ k):G:=h k
theorem Q46 (k:H) (h:H->G:=by intro k;refine zM ?_;exact Q0 k):G:=h k
theorem Q47 (k:H) (h:H->G:=by intro k;refine q17 ?_;exact Q1 k):G:=h k
theorem Q48 (k:H) (h:H->G:=by intro k;refine Q16 ?_;exact Q0 k):G:=h k
theorem Q49 (k:H) (h:H->G:=by intro k;refine xn [11] ?_;exact q14 uT k):G:=h k
theorem Q50 (k:H) (h:H->G:=by intro k;refine Q49 ?_;exact Q42 k):G:=h k
theorem Q51 (k:H) (h:H->G:=by intro k;refine q1 ?_;exact Q1 k):G:=h k
theorem Q52 (k:H) (h:H->G:=by intro k;refine Q21 ?_;exact Q11 k):G:=h k
theorem Q53 (k:H) (h:H->G:=by intro k;refine Q3 ?_;exact Q2 k):G:=h k
theorem Q54 (k:H) (h:H->G:=by intro k;refine zJ ?_;exact Q0 k):G:=h k
theorem Q55 (k:H) (h:H->G:=by intro k;refine Q33 ?_;exact q44 k):G:=h k
theorem Q56 (k:H) (h:H->G:=by intro k;refine q12 G28 ?_;exact q12 G32 k):G:=h k
theorem Q57 (k:H) (h:H->G:=by intro k;refine Q14 ?_;exact q4 S23 k):G:=h k
theorem Q58 (k:H) (h:H->G:=by intro k;refine zM ?_;exact Q3 k):G:=h k
theorem Q59 (k:H) (h:H->G:=by intro k;refine q53 ?_;exact zJ k):G:=h k
theorem Q60 (k:H) (h:H->G:=by intro k;refine q18 G43 ?_;exact zJ k):G:=h k
theorem Q61 (k:H) (h:H->G:=by intro k;refine Q57 ?_;exact Q6 k):G:=h k
theorem Q62 (k:H) (h:H->G:=by intro k;refine Q12 ?_;exact q0 k):G:=h k
theorem Q63 (k:H) (h:H->G:=by intro k;refine q4 yE ?_;exact Q24 k):G:=h k
theorem Q64 (k:H) (h:H->G:=by intro k;refine Q9 ?_;exact Q2 k):G:=h k
theorem Q65 (k:H) (h:H->G:=by intro k;refine yT ?_;exact Q2 k):G:=h k
theorem Q66 (k:H) (h:H->G:=by intro k;refine yT ?_;exact Q0 k):G:=h k
theorem Q67 (k:H) (h:H->G:=by intro k;refine Q15 ?_;exact Q37 k):G:=h k
theorem Q68 (k:H) (h:H->G:=by intro k;refine q64 ?_;exact Q60 k):G:=h k
theorem Q69 (k:H) (h:H->G:=by intro k;refine Q15 ?_;exact q0 k):G:=h k
theorem Q70 (k:H) (h:H->G:=by intro k;refine zM ?_;exact Q4 k):G:=h k
theorem Q71 (k:H) (h:H->G:=by intro k;refine Q26 ?_;exact Q12 k):G:=h k
theorem Q72 (k:H) (h:H->G:=by intro k;refine xn [2] ?_;exact q76 zAY O22 k):G:=h k
theorem Q73 (k:H) (h:H->G:=by intro k;refine Q72 ?_;exact Q30 k):G:=h k
theorem Q74 (k:H) (h:H->G:=by intro k;refine Q5 ?_;exact Q0 k):G:=h k
theorem Q75 (k:H) (h:H->G:=by intro k;refine Q14 ?_;exact Q6 k):G:=h k
theorem Q76 (k:H) (h:H->G:=by intro k;refine Q9 ?_;exact yP k):G:=h k
theorem Q77 (k:H) (h:H->G:=by intro k;refine q34 ?_;exact Q1 k):G:=h k
theorem Q78 (k:H) (h:H->G:=by intro k;refine q2 zN4 ?_;exact q7 O3 k):G:=h k
theorem Q79 (k:H) (h:H->G:=by intro k;refine Q56 ?_;exact q12 G34 k):G:=h k
theorem Q80 (k:H) (h:H->G:=by intro k;refine Q3 ?_;exact Q34 k):G:=h k
theorem Q81 (k:H) (h:H->G:=by intro k;refine Q9 ?_;exact Q27 k):G:=h k
theorem Q82 (k:H) (h:H->G:=by intro k;refine q80 ?_;exact q51 k):G:=h k
theorem Q83 (k:H) (h:H->G:=by intro k;refine Q82 ?_;exact q51 k):G:=h k
theorem Q84 (k:H) (h:H->G:=by intro k;refine Q8 ?_;exact q0 k):G:=h k
theorem Q85 (k:H) (h:H->G:=by intro k;refine q4 yE ?_;exact Q6 k):G:=h k
theorem Q86 (k:H) (h:H->G:=by intro k;refine q39 ?_;exact zJ k):G:=h k
theorem Q87 (k:H) (h:H->G:=by intro k;refine q0 ?_;exact q23 yE k):G:=h k
theorem Q88 (k:H) (h:H->G:=by intro k;refine q50 ?_;exact Q50 k):G:=h k
theorem Q89 (k:H) (h:H->G:=by intro k;refine q40 ?_;exact zJ k):G:=h k
theorem Q90 (k:H) (h:H->G:=by intro k;refine Q16 ?_;exact yT k):G:=h k
theorem Q91 (k:H) (h:H->G:=by intro k;refine Q8 ?_;exact Q1 k):G:=h k
theorem Q92 (k:H) (h:H->G:=by intro k;refine Q55 ?_;exact q65 k):G:=h k
theorem Q93 (k:H) (h:H->G:=by intro k;refine q33 G28 ?_;exact q33 G32 k):G:=h k
theorem Q94 (k:H) (h:H->G:=by intro k;refine Q0 ?_;exact q70 k):G:=h k
theorem Q95 (k:H) (h:H->G:=by intro k;refine q69 ?_;exact xI k):G:=h k
theorem Q96 (k:H) (h:H->G:=by intro k;refine q2 z4L ?_;exact q7 O3 k):G:=h k
theorem Q97 (k:H) (h:H->G:=by intro k;refine q74 ?_;exact q8 k):G:=h k
theorem Q98 (k:H) (h:H->G:=by intro k;refine q40 ?_;exact Q1 k):G:=h k
theorem Q99 (k:H) (h:H->G:=by intro k;refine q2 zLP ?_;exact q7 O24 k):G:=h k
theorem zXS (k:H) (h:H->G:=by intro k;refine Q0 ?_;exact q44 k):G:=h k
theorem z70 (k:H) (h:H->G:=by intro k;refine q2 zKV ?_;exact q7 O3 k):G:=h k
theorem zXT (k:H) (h:H->G:=by intro k;refine Q21 ?_;exact Q12 k):G:=h k
theorem zXU (k:H) (h:H->G:=by intro k;refine xn [8] ?_;exact q41 zFZ k):G:=h k
theorem zXV (k:H) (h:H->G:=by intro k;refine xn [3] ?_;exact q41 zFZ k):G:=h k
theorem z04 (k:H) (h:H->G:=by intro k;refine Q1 ?_;exact Q3 k):G:=h k
theorem zXW (k:H) (h:H->G:=by intro k;refine Q16 ?_;exact Q22 k):G:=h k
theorem z05 (k:H) (h:H->G:=by intro k;refine Q99 ?_;exact q4 S24 k):G:=h k
theorem z06 (k:H) (h:H->G:=by intro k;refine q2 z4K ?_;exact q7 O29 k):G:=h k
theorem yRZ (k:H) (h:H->G:=by intro k;refine Q0 ?_;exact yTY k):G:=h k
theorem yT2 (k:H) (h:H->G:=by intro k;refine q2 yNE ?_;exact q54 G28 k):G:=h k
theorem z07 (k:H) (h:H->G:=by intro k;refine zJ ?_;exact Q31 k):G:=h k
theorem z08 (k:H) (h:H->G:=by intro k;refine q2 zLQ ?_;exact q7 O3 k):G:=h k
theorem z09 (k:H) (h:H->G:=by intro k;refine yT ?_;exact Q27 k):G:=h k
theorem z1A (k:H) (h:H->G:=by intro k;refine q13 zKV ?_;exact q19 O3 k):G:=h k
theorem z1B (k:H) (h:H->G:=by intro k;refine q2 zV6 ?_;exact q7 O23 k):G:=h k
theorem z1C (k:H) (h:H->G:=by intro k;refine q8 ?_;exact q81 k):G:=h k
theorem z1D (k:H) (h:H->G:=by intro k;refine q18 G34 ?_;exact zJ k):G:=h k
theorem z1E (k:H) (h:H->G:=by intro k;refine Q93 ?_;exact q8 k):G:=h k
theorem yT3 (k:H) (h:H->G:=by intro k;refine q13 yNE ?_;exact q46 G28 k):G:=h k
theorem yT4 (k:H) (h:H->G:=by intro k;refine yT3 ?_;exact q13 yNF k):G:=h k
theorem yT5 (k:H) (h:H->G:=by intro k;refine yT4 ?_;exact q46 G32 k):G:=h k
theorem yT6 (k:H) (h:H->G:=by intro k;refine yT5 ?_;exact q13 yRK k):G:=h k
theorem yT7 (k:H) (h:H->G:=by intro k;refine yT6 ?_;exact q46 G34 k):G:=h k
theorem yT8 (k:H) (h:H->G:=by intro k;refine q13 yNH ?_;exact q19 O37 k):G:=h k
theorem z4Z (k:H) (h:H->G:=by intro k;refine Q5 ?_;exact Q22 k):G:=h k
theorem z40 (k:H) (h:H->G:=by intro k;refine Q3 ?_;exact Q27 k):G:=h k
theorem z71 (k:H) (h:H->G:=by intro k;refine Q3 ?_;exact Q3 k):G:=h k
theorem z41 (k:H) (h:H->G:=by intro k;refine Q40 ?_;exact yB k):G:=h k
theorem z42 (k:H) (h:H->G:=by intro k;refine q66 O3 ?_;exact zJ k):G:=h k
theorem z72 (k:H) (h:H->G:=by intro k;refine q67 ?_;exact zJ k):G:=h k
theorem z73 (k:H) (h:H->G:=by intro k;refine q13 zN4 ?_;exact q19 O3 k):G:=h k
theorem yDD (k:H) (h:H->G:=by intro k;refine q4 S24 ?_;exact Q24 k):G:=h k
theorem z74 (k:H) (h:H->G:=by intro k;refine Q51 ?_;exact Q4 k):G:=h k
theorem yT9 (k:H) (h:H->G:=by intro k;refine Q48 ?_;exact q12 G47 k):G:=h k
theorem yUA (k:H) (h:H->G:=by intro k;refine yT7 ?_;exact q13 yNG k):G:=h k
theorem yUB (k:H) (h:H->G:=by intro k;refine yUA ?_;exact q19 O37 k):G:=h k
theorem yDE (k:H) (h:H->G:=by intro k;refine yUB ?_;exact yT8 k):G:=h k
theorem z75 (k:H) (h:H->G:=by intro k;refine q7 O3 ?_;exact q5 k):G:=h k
theorem z76 (k:H) (h:H->G:=by intro k;refine Q0 ?_;exact q65 k):G:=h k
theorem z77 (k:H) (h:H->G:=by intro k;refine Q4 ?_;exact zJ k):G:=h k
theorem z78 (k:H) (h:H->G:=by intro k;refine xm 0 ?_;exact xm 1 k):G:=h k
theorem z79 (k:H) (h:H->G:=by intro k;refine q4 S23 ?_;exact Q24 k):G:=h k
theorem yUC (k:H) (h:H->G:=by intro k;refine yTZ ?_;exact q18 G60 k):G:=h k
theorem z8A (k:H) (h:H->G:=by intro k;refine yUC ?_;exact zJ k):G:=h k
theorem z8B (k:H) (h:H->G:=by intro k;refine Q21 ?_;exact Q62 k):G:=h k
theorem z8C (k:H) (h:H->G:=by intro k;refine q12 G43 ?_;exact q23 S24 k):G:=h k
theorem z8D (k:H) (h:H->G:=by intro k;refine q1 ?_;exact Q15 k):G:=h k
theorem yUD (k:H) (h:H->G:=by intro k;refine q3 ?_;exact q68 Tryz.underlying3 Tryz.underlying134 k):G:=h k
theorem yUE (k:H) (h:H->G:=by intro k;refine yUD ?_;exact q95 k):G:=h k
theorem z8E (k:H) (h:H->G:=by intro k;refine yUE ?_;exact q68 Tryz.underlying134 Tryz.underlying3 k):G:=h k
theorem z8F (k:H) (h:H->G:=by intro k;refine Q1 ?_;exact yB k):G:=h k
theorem z8G (k:H) (h:H->G:=by intro k;refine q97 ?_;exact Q35 k):G:=h k
theorem z8H (k:H) (h:H->G:=by intro k;refine Q21 ?_;exact q0 k):G:=h k
theorem z8I (k:H) (h:H->G:=by intro k;refine Q26 ?_;exact q0 k):G:=h k
theorem z8J (k:H) (h:H->G:=by intro k;refine Q35 ?_;exact Q79 k):G:=h k
theorem z8K (k:H) (h:H->G:=by intro k;refine Q14 ?_;exact Q85 k):G:=h k
theorem yUF (k:H) (h:H->G:=by intro k;refine xn [5] ?_;exact q57 k):G:=h k
theorem z8L (k:H) (h:H->G:=by intro k;refine yUF ?_;exact Q30 k):G:=h k
theorem yPC (k:H) (h:H->G:=by intro k;refine yRZ ?_;exact yT9 k):G:=h k
end
theorem zXX {k r} (h:zKR k=some r):zC Tryz.prog 60 [(zH aR k)] [(db r)]:=by refine co Tryz.func60 ?_;intro _ _ _ _;unfold zKR at h;refine Q53 ?_;refine q4 S22 ?_;refine q67 ?_;refine Q1 ?_;exact er h
theorem zXY {H r} (h:zHR H=some r):zC Tryz.prog 61 [(zH aC H)] [(db r)]:=by
 refine co Tryz.func61 ?_;intro _ _ _ _;unfold zHR at h;refine Q80 ?_;have ⟨T,k,h⟩:=bE h;refine zP T (.exit 0) (λT=>⟨[(0,.d (zH aC H))],[]⟩) .ret (λT=>⟨[(2,.d (db T))],[]⟩) ?_ ?_ ?_;refine zB (λx=>⟨[(0,.d (zH aC H)),(3,.d (di x))],[]⟩) k wc ?_
 rintro O Y D
 replace D:zCN H O=some Y:=D;unfold zCN at D;refine Q57 ?_;refine q5 ?_;have ⟨_,k,D⟩:=bE D;refine q9 k ?_;refine q15 (.d (di O)) ?_;refine q82 (.d (db (decide (O<30)))) ?_;refine Q39 ?_;refine zX D (λD=>?_) (λD=>?_);refine Q81 ?_;have ⟨_,k,D⟩:=bE D;refine u5 S23 k ?_;refine q58 zH9 ?_;refine q99 O37 k ?_;refine q4 yE ?_;refine q53 ?_;have ⟨_,k,D⟩:=bE D;refine q9 k ?_;refine q42 (.d (zH aC H)) ?_;refine q42 (.d (di O)) ?_;have ⟨G,K,D⟩:=bE D;refine sqf (.ip (aC.all H) (O.toNat*aC.size)) rfl (λhb=>by subst hb;exact k6 (en:=aC) lr S23 rfl rfl K) ?_
 refine yKU (.ip (aC.all H) (O.toNat*aC.size+2)) zFT ?_;refine sqf (.d (ds G.bN)) rfl (λhb=>by subst hb;exact z6 (en:=aC) (l:=H) (i:=O) (v:=G) (off:=2) lr O9 rfl K rfl) ?_
 refine sqf (.d (di (G.bN.length:Int))) rfl (λhb=>by subst hb;exact zVR (s:=G.bN) lr Tryz.underlying9 rfl) ?_
 refine q59 (.d (db (decide (40<(G.bN.length:Int))))) ?_;refine Q45 ?_;refine zX D (λD=>?_) (λD=>?_);refine Q23 ?_;cases D;intro q;cases q;exact⟨rfl,wc⟩;refine Q38 ?_;exact ew D;refine zD ?_;cases D;intro q;cases q;exact⟨rfl,wc⟩
 rintro T rfl
 replace h:=eL h;refine Q2 ?_;refine q4 S23 ?_;refine q67 ?_;refine Q1 ?_;exact er h
 rintro T rfl
 replace h:=eR h;exact es h
theorem zXZ {k r} (h:zKS k=some r):zC Tryz.prog 62 [(bX.dv k)] [(db r)]:=by refine co Tryz.func62 ?_;intro _ _ _ _;unfold zKS at h;refine Q94 ?_;refine Q35 ?_;refine z05 ?_;refine q67 ?_;refine Q1 ?_;exact er h
theorem zX0 {D r} (h:zHS D=some r):zC Tryz.prog 32 [(aY.dv D)] [(db r)]:=by
 refine co Tryz.func32 ?_;intro _ _ _ _;unfold zHS at h;refine Q33 ?_;refine Q35 ?_;refine q2 zAY ?_;refine q7 O22 ?_;have ⟨_,k,h⟩:=bE h;refine q6 (zXX k) ?_;have ⟨_,k,h⟩:=bE h;refine q9 k ?_;refine q55 (.ip (aY.cells D) (0+1)) zV6 ?_;refine q62 (.d (zH aC D.aA)) O23 ?_;have ⟨O,H,h⟩:=bE h;refine sqt (.d (db O)) rfl (λhb=>by subst hb;exact jO lr rfl (zXY H)) ?_
 refine q17 ?_;have ⟨_,k,h⟩:=bE h;refine q9 k ?_;refine q55 (.ip (aY.cells D) (0+2)) yF1 ?_;refine yRY (.d (bX.dv D.aN)) G26 ?_;have ⟨K,G,h⟩:=bE h;refine sqt (.d (db K)) rfl (λhb=>by subst hb;exact jO lr rfl (zXZ G)) ?_
 refine Q47 ?_;exact er h
theorem zX1 {G r} (h:zHT G=some r):zC Tryz.prog 33 [(aH.dv G)] [(db r)]:=by
 refine co Tryz.func33 ?_;intro _ _ _ _;unfold zHT at h;refine zXS ?_;refine Q48 ?_;refine z06 ?_;refine q4 S29 ?_;refine q53 ?_;have ⟨_,k,h⟩:=bE h;refine q9 k ?_;refine q24 (.ip (aH.cells G) (0+1)) zV7 ?_;refine q26 (.d (zH aX G.aF)) O30 ?_;refine q83 (.d (di (G.aF.length:Int))) S30 ?_;refine q59 (.d (db (decide (8<(G.aF.length:Int))))) ?_;refine Q45 ?_;refine zX h (λh=>?_) (λh=>?_);refine Q3 ?_;exact er h;refine z4Z ?_;have ⟨T,k,h⟩:=bE h;refine zP T (.exit 0) (λT=>⟨[],[]⟩) .ret (λT=>⟨[(2,.d (db T))],[]⟩) ?_ ?_ ?_;refine zB (λx=>⟨[(1,.d (.pt (aH.cells G))),(3,.d (di x))],[]⟩) k wc ?_
 rintro O Y D
 replace D:zCO G O=some Y:=D;unfold zCO at D;refine Q4 ?_;refine z06 ?_;refine q4 S29 ?_;refine Q6 ?_;refine zX D (λD=>?_) (λD=>?_);refine Q32 ?_;refine z06 ?_;refine q0 ?_;have ⟨Z,k,D⟩:=bE D;refine u5 S29 k ?_;refine q58 zJU ?_;refine jV (z6 (en:=bB) (l:=G.aB) (i:=O) (v:=Z) (off:=0) lr O37 rfl k rfl) ?_;refine q4 yE ?_;refine q53 ?_;have ⟨_,k,D⟩:=bE D;refine q9 k ?_;refine q24 (.ip (aH.cells G) (0+0)) z4K ?_;refine q26 (.d (zH bB G.aB)) O29 ?_;refine q42 (.d (di O)) ?_;have ⟨H,K,D⟩:=bE D;refine sqf (.ip (bB.all G.aB) (O.toNat*bB.size)) rfl (λhb=>by subst hb;exact k6 (en:=bB) lr S29 rfl rfl K) ?_
 refine yKU (.ip (bB.all G.aB) (O.toNat*bB.size+1)) zN5 ?_;refine sqf (.d (zH aG H.aU)) rfl (λhb=>by subst hb;exact z6 (en:=bB) (l:=G.aB) (i:=O) (v:=H) (off:=1) lr O79 rfl K rfl) ?_
 refine q83 (.d (di (H.aU.length:Int))) S79 ?_;refine q59 (.d (db (decide (20<(H.aU.length:Int))))) ?_;refine Q45 ?_;refine zX D (λD=>?_) (λD=>?_);refine Q23 ?_;cases D;intro q;cases q;exact⟨rfl,wc⟩;refine Q38 ?_;exact ew D;refine zD ?_;cases D;intro q;cases q;exact⟨rfl,wc⟩
 rintro T rfl
 replace h:=eL h;refine Q3 ?_;exact er h
 rintro T rfl
 replace h:=eR h;exact es h
theorem zKW {k a1 r} (h:zFQ k a1=some r):zC Tryz.prog 13 [(zH eI k),(di a1)] [(db r)]:=by refine co Tryz.func13 ?_;intro _ _ _ _;unfold zFQ at h;refine Q53 ?_;refine q4 yE ?_;refine q0 ?_;refine q67 ?_;refine Q1 ?_;exact er h
theorem zN6 {D r} (h:zGY D=some r):zC Tryz.prog 17 [(bD.dv D)] [(db r)]:=by
 refine co Tryz.func17 ?_;intro _ _ _ _;unfold zGY at h;refine yRZ ?_;refine Q35 ?_;refine yT2 ?_;have ⟨_,k,h⟩:=bE h;refine q6 (zX0 k) ?_;have ⟨_,k,h⟩:=bE h;refine q9 k ?_;refine q55 (.ip (bD.cells D) (0+3)) yNF ?_;refine yRY (.d (aH.dv D.Collation)) G32 ?_;have ⟨t9,O,h⟩:=bE h;refine sqt (.d (db t9)) rfl (λhb=>by subst hb;exact jO lr rfl (zX1 O)) ?_
 refine q17 ?_;have ⟨_,k,h⟩:=bE h;refine q9 k ?_;refine q55 (.ip (bD.cells D) (0+12)) yNG ?_;refine q62 (.d (zH eI D.bV)) O37 ?_;have ⟨T,G,h⟩:=bE h;refine sqt (.d (db T)) rfl (λhb=>by subst hb;exact jO lr rfl (zKW G)) ?_
 refine q17 ?_;have ⟨_,k,h⟩:=bE h;refine q9 k ?_;refine q55 (.ip (bD.cells D) (0+13)) yNH ?_;refine q62 (.d (zH eI D.cf)) O37 ?_;have ⟨Y,H,h⟩:=bE h;refine sqt (.d (db Y)) rfl (λhb=>by subst hb;exact jO lr rfl (zKW H)) ?_
 refine q17 ?_;have ⟨_,k,h⟩:=bE h;refine q9 k ?_;refine q55 (.ip (bD.cells D) (0+14)) zV8 ?_;refine q62 (.d (zH eI D.cD)) O37 ?_;have ⟨Z,K,h⟩:=bE h;refine sqt (.d (db Z)) rfl (λhb=>by subst hb;exact jO lr rfl (zKW K)) ?_
 refine Q47 ?_;exact er h
theorem zT2 {r} (h:zHH=some r):zC Tryz.prog 39 [] [(aH.dv r)]:=by refine co Tryz.func39 ?_;intro _ _ _ _;unfold zHH at h;refine Q0 ?_;refine yKV ?_;refine Q54 ?_;refine q23 yE ?_;refine q49 B82 ?_;refine q23 S79 ?_;refine q49 B91 ?_;refine yCR ?_;refine q18 G91 ?_;refine zJ ?_;refine zI (zQ (t:=1) lr rfl rfl rfl) ?_;refine Q0 ?_;refine q23 yE ?_;refine q49 B82 ?_;refine q23 S79 ?_;refine q49 B91 ?_;refine yCR ?_;refine q18 G91 ?_;refine zJ ?_;refine zI (zQ (t:=2) lr rfl rfl rfl) ?_;refine Q0 ?_;refine q23 yE ?_;refine q49 B82 ?_;refine q23 S79 ?_;refine q49 B91 ?_;refine yCR ?_;refine q18 G91 ?_;refine zJ ?_;refine zI (zQ (t:=3) lr rfl rfl rfl) ?_;refine Q0 ?_;refine q12 G91 ?_;refine q12 G91 ?_;refine q12 G91 ?_;refine q23 S29 ?_;refine jV ((zFG lr B32 rfl rfl).nils (bs:=aH.cells ({aB:=[({aW:=[65],aU:=[({aS:=5,aL:=32,aO:=8,aD:=false}:aP)]}:bO),({aW:=[97],aU:=[({aS:=5,aL:=32,aO:=2,aD:=false}:aP)]}:bO),({aW:=[769],aU:=[({aS:=0,aL:=40,aO:=2,aD:=false}:aP)]}:bO)],aF:=[],bJ:=64448,bA:=32,bI:=2}:Collation)) (nlE (nlN (nlE (nlE (nlE nl0)))))) ?_;refine q18 G32 ?_;refine zJ ?_;cases h;refine yB ?_;exact wR rfl rfl G32 rfl
set_option maxRecDepth 20000 in
theorem zRA {K r} (h:zIK K=some r):zC Tryz.prog 147 [(.v (.int .u64 K))] [(di r)]:=by refine co Tryz.func147 ?_;intro _ _ _ _;unfold zIK at h;refine Q43 ?_;refine Q86 ?_;have ⟨O,D,h⟩:=bE h;refine tl .normal ⟨[(0,.d (.v (.int .u64 O.1))),(2,.d (di O.2))],[]⟩ ?_ ?_;refine zX D (λD=>?_) (λD=>?_);refine Q2 ?_;refine q95 ?_;refine Q1 ?_;refine xH<|Q1 ?_;exact eo D;refine zM ?_;exact eo D;refine Q4 ?_;refine Q86 ?_;have ⟨T,G,h⟩:=bE h;refine tl .normal ⟨[(0,.d (.v (.int .u64 T.1))),(2,.d (di T.2))],[]⟩ ?_ ?_;refine zX G (λG=>?_) (λG=>?_);refine Q2 ?_;refine q95 ?_;refine Q1 ?_;refine Q13 ?_;exact eo G;refine zM ?_;exact eo G;refine Q4 ?_;refine Q86 ?_;have ⟨Y,H,h⟩:=bE h;refine tl .normal ⟨[(0,.d (.v (.int .u64 Y.1))),(2,.d (di Y.2))],[]⟩ ?_ ?_;refine zX H (λH=>?_) (λH=>?_);refine Q2 ?_;refine q95 ?_;refine Q1 ?_;refine Q13 ?_;exact eo H;refine zM ?_;exact eo H;refine Q27 ?_;refine q68 Tryz.underlying180 Tryz.underlying5 ?_;have ⟨_,k,h⟩:=bE h;refine yKW Tryz.underlying9 k ?_;refine q68 Tryz.underlying5 Tryz.underlying3 ?_;refine Q10 ?_;exact er h
theorem zT3 {D r} (h:zE2 D=some r):zC Tryz.prog 104 [(.v (.int .u64 D))] [(di r)]:=by refine co Tryz.func104 ?_;intro _ _ _ _;unfold zE2 at h;refine Q3 ?_;refine yP ?_;refine zJH rfl ⟨λc=>(by cases c),λ_=>?_⟩;refine zM<|Q2 ?_;have ⟨_,k,h⟩:=bE h;refine q6 (zRA k) ?_;refine Q1 ?_;exact er h
theorem zM4 {k r} (h:zE3 k=some r):zC Tryz.prog 100 [(di k)] [(db r)]:=by refine co Tryz.func100 ?_;intro _ _ _ _;unfold zE3 at h;refine z40 ?_;refine q30 ?_;refine Q1 ?_;exact er h
theorem yLH {l r:List Int} (h:z9O l=some r):GC Tryz.prog 75 [.row 0] [(0,.win 3 eI.size 0 (eI.all l))] [0] [] [(0,.win 3 eI.size 0 (eI.all r))]:=by
 unfold z9O at h;split at h;rename_i G;cases h;exact yKG (en:=eI) (encV:=Value.int .i64) (λ_=>rfl) rfl (λ_=>rfl) (by simp) ⟨_,Tryz.func75,by kernel_rfl,rfl⟩ (λ_ B c w=>Any.slices_Sort_int_none Tryz.lays189 B c w) (λblk off k w D hb=>Any.slices_Sort_int Tryz.lays189 blk off k l w D hb (by unfold LIM at G;omega))
 cases h
theorem yLI {l r:List Int} (h:z9P l=some r):GC Tryz.prog 76 [.row 0] [(0,.win 3 eI.size 0 (eI.all l))] [] [.d (zH eI r)] []:=by
 unfold z9P at h;split at h;rename_i H;cases h;exact z7B (en:=eI) (encV:=Value.int .i64) (pad:=List.replicate (l.length-(Lib.compact l).length) 0) (λ_=>rfl) rfl (λ_=>rfl) (z38 l) ⟨_,Tryz.func76,by kernel_rfl,rfl⟩ (λ_ B c w=>Any.slices_Compact_int_empty Tryz.lays2n20 B c w) (λblk off k w D G=>Any.slices_Compact_int Tryz.lays2n20 blk off k l w D (by unfold LIM at H;omega) G)
 cases h
theorem zP4 {K a1 r} (h:zCP K a1=some r):zC Tryz.prog 46 [(zH eI K),(di a1)] [(zH eI r)]:=by
 refine co Tryz.func46 ?_;intro _ _ _ _;unfold zCP at h;refine z71 ?_;refine zI (jZ (t:=5) 1005 3 eI.size lr lr rfl rfl) ?_;refine Q4 ?_;refine Q63 ?_;have ⟨Z,k,h⟩:=bE h;refine tl (.exit 0) ⟨[(5,.row 1005)],[(1005,.row 3 eI.size false (eI.all Z))]⟩ ?_ ?_;refine zB (λx=>⟨[(1,.d (di a1)),(5,.row 1005),(8,.d (zH eI K)),(9,.d (di (K.length:Int))),(10,.d (di x.1))],[(1005,.row 3 eI.size false (eI.all x.2))]⟩) k wc ?_
 rintro⟨T,G⟩ Y H
 replace H:wL K a1 T G=some Y:=H;unfold wL at H;refine Q18 ?_;refine zX H (λH=>?_) (λH=>?_);refine Q5 ?_;have ⟨y2,D,H⟩:=bE H;refine tl .normal ⟨[(1,.d (di a1)),(5,.row 1005),(8,.d (zH eI K)),(9,.d (di (K.length:Int))),(10,.d (di T))],[(1005,.row 3 eI.size false (eI.all y2))]⟩ ?_ ?_;refine Q66 ?_;have ⟨O,k,D⟩:=bE D;refine u5 yE k ?_;refine q36 O3 k ?_;refine Q15 ?_;refine q39 ?_;have ⟨_,k,D⟩:=bE D;refine q9 k ?_;refine q15 (.d (di O)) ?_;refine q15 (.d (di a1)) ?_;refine q63 (.d (db (decide (O<=a1)))) ?_;refine Q39 ?_;refine zX D (λD=>?_) (λD=>?_);refine Q26 ?_;refine Q87 ?_;have ⟨_,k,D⟩:=bE D;refine yC rfl (z7 (en:=eI) (l:=G) (m:=[O]) lr yE rfl rfl rfl k (by decide) (by decide) rfl rfl) ?_;refine Q11 ?_;exact eo D;refine zM ?_;exact eo D;refine Q20 ?_;exact ew H;exact zD (ex H);refine Q21 ?_;refine zEN (zQ3 (id:=1005) rfl) ?_ (by simp);have ⟨_,k,h⟩:=bE h;refine yC rfl (zCL [(0,1005)] (yLH k) lr (by decide) ⟨rfl,trivial⟩ rfl rfl ⟨rfl,trivial⟩ rfl rfl rfl (λ_=>rfl) rfl) ?_;refine zJ<|Q21 ?_;have ⟨_,k,h⟩:=bE h;refine yC rfl (zCL [(0,1005)] (yLI k) lr (by decide) ⟨rfl,trivial⟩ rfl rfl ⟨rfl,trivial⟩ rfl rfl rfl (λ_=>rfl) rfl) ?_;refine Q1 ?_;exact er h
theorem zIA {D r} (h:zBF D=some r):zC Tryz.prog 148 [(di D)] [(db r)]:=by refine co Tryz.func148 ?_;intro _ _ _ _;unfold zBF at h;refine Q53 ?_;refine q39 ?_;have ⟨_,k,h⟩:=bE h;refine q9 k ?_;refine q15 (.d (di D)) ?_;refine q63 (.d (db (decide (D<=65535)))) ?_;refine Q47 ?_;exact er h
theorem zP5 {K r} (h:zCQ K=some r):zC Tryz.prog 183 [(ds K)] [(db r)]:=by
 refine co Tryz.func183 ?_;intro _ _ _ _;unfold zCQ at h;refine Q43 ?_;refine yKX Tryz.underlying9 ?_;refine Q24 ?_;have ⟨Y,k,h⟩:=bE h;refine zP Y (.exit 0) (λY=>⟨[(0,.d (ds K))],[]⟩) .ret (λY=>⟨[(2,.d (db Y))],[]⟩) ?_ ?_ ?_;refine zB (λx=>⟨[(0,.d (ds K)),(6,.d (di (K.length:Int))),(7,.d (di x))],[]⟩) k wc ?_
 rintro v7 ab G
 replace G:wM K v7=some ab:=G;unfold wM at G;refine Q18 ?_;refine zX G (λG=>?_) (λG=>?_);refine Q64 ?_;refine Q69 ?_;have ⟨D,k,G⟩:=bE G;refine yKW Tryz.underlying9 k ?_;refine Q15 ?_;refine q39 ?_;have ⟨_,k,G⟩:=bE G;refine q9 k ?_;refine q15 (.d (dby D)) ?_;refine q63 (.d (db (decide (D<=90)))) ?_;refine q17 ?_;have ⟨_,k,G⟩:=bE G;refine q9 k ?_;refine q42 (.d (dby D)) ?_;refine z7N (.d (db (decide (97<=D)))) ?_;have ⟨O,Z,G⟩:=bE G;refine sqf (.d (db O)) rfl (λhb=>by subst hb;exact(kE lr rfl).bool (oi Z)) ?_
 refine wE (x:= .d (dby D)) rfl rfl rfl lr lr rfl (λhb=>by obtain⟨hb,H⟩:=zR hb;obtain rfl:=gF hb;obtain rfl:O=true:=H;exact kE lr rfl) ?_
 refine wE (x:= .d (db (decide (D<=122)))) rfl rfl rfl lr lr rfl (λhb=>by obtain⟨hb,H⟩:=zR hb;obtain rfl:=gF hb;obtain rfl:O=true:=H;exact zLH lr rfl rfl) ?_
 refine q96 (.d (db (O&&(decide (D<=122))))) ?_;refine q22 ?_;have ⟨_,k,G⟩:=bE G;refine q9 k ?_;refine q42 (.d (dby D)) ?_;refine z7N (.d (db (decide (48<=D)))) ?_;have ⟨T,aa,G⟩:=bE G;refine sqf (.d (db T)) rfl (λhb=>by subst hb;exact(kE lr rfl).bool (oi aa)) ?_
 refine wE (x:= .d (dby D)) rfl rfl rfl lr lr rfl (λhb=>by obtain⟨hb,H⟩:=zR hb;obtain rfl:=gF hb;obtain rfl:T=true:=H;exact kE lr rfl) ?_
 refine wE (x:= .d (db (decide (D<=57)))) rfl rfl rfl lr lr rfl (λhb=>by obtain⟨hb,H⟩:=zR hb;obtain rfl:=gF hb;obtain rfl:T=true:=H;exact zLH lr rfl rfl) ?_
 refine q96 (.d (db (T&&(decide (D<=57))))) ?_;refine q22 ?_;have ⟨_,k,G⟩:=bE G;refine q9 k ?_;refine q42 (.d (dby D)) ?_;refine yCQ (.d (db (decide (D=95)))) ?_;refine q22 ?_;refine Q36 ?_;refine zX G (λG=>?_) (λG=>?_);refine Q23 ?_;cases G;intro q;cases q;exact⟨rfl,wc⟩;refine Q41 ?_;exact ew G;refine zD ?_;cases G;intro q;cases q;exact⟨rfl,wc⟩
 rintro Y rfl
 replace h:=eL h;refine Q2 ?_;refine yCS ?_;have ⟨_,k,h⟩:=bE h;refine q9 k ?_;refine q15 (.d (ds K)) ?_;refine sqt (.d (di (K.length:Int))) rfl (λhb=>by subst hb;exact zVR (s:=K) lr Tryz.underlying9 rfl) ?_
 refine q63 (.d (db (decide ((K.length:Int)<=32)))) ?_;refine Q47 ?_;exact er h
 rintro Y rfl
 replace h:=eR h;exact es h
theorem zLU {D r} (h:vV D=some r):zC Tryz.prog 149 [(aH.dv D)] [(di r)]:=by
 refine co Tryz.func149 ?_;intro _ _ _ _;unfold vV at h;refine zXS ?_;refine Q48 ?_;refine q2 zV7 ?_;refine q7 O30 ?_;refine q4 S30 ?_;refine Q24 ?_;have ⟨y1,am,h⟩:=bE h;refine zP y1 (.exit 0) (λy1=>⟨[(1,.d (.pt (aH.cells D)))],[]⟩) .ret (λy1=>⟨[(2,.d (di y1))],[]⟩) ?_ ?_ ?_;refine zB (λx=>⟨[(1,.d (.pt (aH.cells D))),(13,.d (zH aX D.aF)),(14,.d (di (D.aF.length:Int))),(15,.d (di x))],[]⟩) am wc ?_
 rintro aw ao O
 replace O:xN D aw=some ao:=O;unfold xN at O;refine Q18 ?_;refine zX O (λO=>?_) (λO=>?_);refine Q32 ?_;have ⟨_,aa,O⟩:=bE O;refine u5 S30 aa ?_;refine yKY z4G aa ?_;refine yKZ ?_;refine q18 z4G ?_;refine zJ ?_;refine zI (zQ (t:=4) lr rfl rfl rfl) ?_;refine Q0 ?_;refine q2 zSE ?_;refine q7 O9 ?_;have ⟨_,ak,O⟩:=bE O;refine q6 (zP5 ak) ?_;refine Q36 ?_;refine zX O (λO=>?_) (λO=>?_);refine Q23 ?_;cases O;intro q;cases q;exact⟨rfl,wc⟩;refine Q41 ?_;exact ew O;refine zD ?_;cases O;intro q;cases q;exact⟨rfl,wc⟩
 rintro y1 rfl
 replace h:=eL h;refine Q0 ?_;refine z7O ?_;refine Q11 ?_;refine Q31 ?_;refine q2 zV7 ?_;refine q7 O30 ?_;refine q4 S30 ?_;refine Q24 ?_;have ⟨y2,an,h⟩:=bE h;refine zP y2 (.exit 2) (λy2=>⟨[(1,.d (.pt (aH.cells D)))],[]⟩) .ret (λy2=>⟨[(2,.d (di y2))],[]⟩) ?_ ?_ ?_;refine zB (λx=>⟨[(1,.d (.pt (aH.cells D))),(5,.row 24),(26,.d (zH aX D.aF)),(27,.d (di (D.aF.length:Int))),(28,.d (di x.1))],[(24,.map (wG kS eB x.2))]⟩) an wc ?_
 rintro⟨ax,al⟩ ap T
 replace T:jW D ax al=some ap:=T;unfold jW at T;refine Q18 ?_;refine zX T (λT=>?_) (λT=>?_);refine Q32 ?_;have ⟨au,ab,T⟩:=bE T;refine u5 S30 ab ?_;refine yKY z4G ab ?_;refine yKZ ?_;refine q18 z4G ?_;refine zJ ?_;refine zI (zQ (t:=7) lr rfl rfl rfl) ?_;refine yP<|Q21 ?_;refine q2 zSE ?_;refine q7 O9 ?_;refine jV (yFA (kv:=kS) (ev:=eB) (mp:=al) (k:=au.bS) (zero:=false) lr yRN K9 rfl rfl rfl (λ_ _=> .v _)) ?_;refine zJ ?_;refine zX T (λT=>?_) (λT=>?_);refine Q23 ?_;cases T;intro q;cases q;exact⟨rfl,wc⟩;refine zM<|Q26 ?_;refine q2 zSE ?_;refine q7 O9 ?_;refine yCT yRN K9 ?_;refine zJ<|Q20 ?_;exact ew T;refine zD ?_;cases T;intro q;cases q;exact⟨rfl,wc⟩
 rintro y2 rfl
 replace h:=eL h;refine Q31 ?_;refine q2 zV7 ?_;refine q7 O30 ?_;refine q4 S30 ?_;refine Q24 ?_;have ⟨y3,k,h⟩:=bE h;refine zP y3 (.exit 4) (λy3=>⟨[(1,.d (.pt (aH.cells D)))],[]⟩) .ret (λy3=>⟨[(2,.d (di y3))],[]⟩) ?_ ?_ ?_;refine zB (λx=>⟨[(1,.d (.pt (aH.cells D))),(41,.d (zH aX D.aF)),(42,.d (di (D.aF.length:Int))),(43,.d (di x))],[]⟩) k wc ?_
 rintro ay aq H
 replace H:xO D ay=some aq:=H;unfold xO at H;refine Q18 ?_;refine zX H (λH=>?_) (λH=>?_);refine Q32 ?_;have ⟨G,k,H⟩:=bE H;refine u5 S30 k ?_;refine yKY z4G k ?_;refine yKZ ?_;refine q18 z4G ?_;refine zJ ?_;refine zI (zQ (t:=9) lr rfl rfl rfl) ?_;refine Q0 ?_;refine q2 zSF ?_;refine z75 ?_;have ⟨_,k,H⟩:=bE H;refine q9 k ?_;refine q24 (.ip (aX.cells G) (0+2)) zSG ?_;refine q26 (.d (di G.Hi)) O3 ?_;refine q24 (.ip (aX.cells G) (0+1)) zSF ?_;refine q26 (.d (di G.Lo)) O3 ?_;refine yKR (.d (db (decide (G.Hi<G.Lo)))) ?_;refine q22 ?_;have ⟨_,k,H⟩:=bE H;refine q9 k ?_;refine q24 (.ip (aX.cells G) (0+2)) zSG ?_;refine q26 (.d (di G.Hi)) O3 ?_;refine q24 (.ip (aH.cells D) (0+2)) zPO ?_;refine q26 (.d (di D.bJ)) O3 ?_;refine z7N (.d (db (decide (D.bJ<=G.Hi)))) ?_;refine Q45 ?_;refine zX H (λH=>?_) (λH=>?_);refine Q23 ?_;cases H;intro q;cases q;exact⟨rfl,wc⟩;refine Q41 ?_;exact ew H;refine zD ?_;cases H;intro q;cases q;exact⟨rfl,wc⟩
 rintro y3 rfl
 replace h:=eL h;refine Q31 ?_;refine q2 zV7 ?_;refine q7 O30 ?_;refine q4 S30 ?_;refine Q24 ?_;have ⟨y4,k,h⟩:=bE h;refine zP y4 (.exit 6) (λy4=>⟨[],[]⟩) .ret (λy4=>⟨[(2,.d (di y4))],[]⟩) ?_ ?_ ?_;refine zB (λx=>⟨[(1,.d (.pt (aH.cells D))),(66,.d (zH aX D.aF)),(67,.d (di (D.aF.length:Int))),(68,.d (di x))],[]⟩) k wc ?_
 rintro Y ar K
 replace K:xP D Y=some ar:=K;unfold xP at K;refine Q18 ?_;refine zX K (λK=>?_) (λK=>?_);refine Q64 ?_;have ⟨ad,k,K⟩:=bE K;refine u5 S30 k ?_;refine yKY z4G k ?_;refine yKZ ?_;refine q1 ?_;refine q18 z4G ?_;refine zJ ?_;refine zI (zQ (t:=11) lr rfl rfl rfl) ?_;refine yP ?_;refine zT MX rfl ?_;refine q8 ?_;refine z7P ?_;have ⟨_,k,K⟩:=bE K;refine q47 k ?_;refine z4N (.ip (aX.cells ad) (0+1)) zSF ?_;refine z4O (.d (di ad.Lo)) O3 ?_;refine z4N (.ip (aH.cells D) (0+1)) zV7 ?_;refine z4O (.d (zH aX D.aF)) O30 ?_;refine q48 (.d (di Y)) ?_;refine yCU (.d (di (wi (Y-1)))) ?_;have ⟨Z,ac,K⟩:=bE K;refine dat (.ip (aX.all D.aF) ((wi (Y-1)).toNat*aX.size)) rfl (λhb=>by subst hb;exact k6 (en:=aX) lr S30 rfl rfl ac) ?_
 refine z4P (.ip (aX.all D.aF) ((wi (Y-1)).toNat*aX.size+2)) zSG ?_;refine dat (.d (di Z.Hi)) rfl (λhb=>by subst hb;exact z6 (en:=aX) (l:=D.aF) (i:=(wi (Y-1))) (v:=Z) (off:=2) lr O3 rfl ac rfl) ?_
 refine dat (.d (di (wi (Z.Hi+1)))) rfl (λhb=>by subst hb;exact zZB lr rfl rfl) ?_
 refine dat (.d (db (!decide (ad.Lo=(wi (Z.Hi+1)))))) rfl (λhb=>by subst hb;exact zS8 lr rfl rfl) ?_
 refine Q95 ?_;refine zX K (λK=>?_) (λK=>?_);refine Q23 ?_;cases K;intro q;cases q;exact⟨rfl,wc⟩;refine Q41 ?_;exact ew K;refine zD ?_;cases K;intro q;cases q;exact⟨rfl,wc⟩
 rintro y4 rfl
 replace h:=eL h;refine Q3 ?_;exact er h
 rintro y4 rfl
 replace h:=eR h;exact es h
 rintro y3 rfl
 replace h:=eR h;exact es h
 rintro y2 rfl
 replace h:=eR h;exact es h
 rintro y1 rfl
 replace h:=eR h;exact es h
theorem zD4 {D r} (h:zAI D=some r):zC Tryz.prog 157 [(di D)] [(db r)]:=by refine co Tryz.func157 ?_;intro _ _ _ _;unfold zAI at h;refine Q53 ?_;refine q39 ?_;have ⟨_,k,h⟩:=bE h;refine q9 k ?_;refine q15 (.d (di D)) ?_;refine q63 (.d (db (decide (D<=1114111)))) ?_;refine Q47 ?_;exact er h
theorem zT4 {D r} (h:zE4 D=some r):zC Tryz.prog 184 [(aG.dv D)] [(di r)]:=by
 refine co Tryz.func184 ?_;intro _ _ _ _;unfold zE4 at h;refine z76 ?_;refine Q48 ?_;refine Q96 ?_;refine q2 zQ7 ?_;refine q7 O3 ?_;refine q2 zQ8 ?_;refine q7 O3 ?_;refine q89 zSC ?_;refine Q24 ?_;have ⟨O,k,h⟩:=bE h;refine zP O (.exit 0) (λO=>⟨[(1,.d (.pt (aG.cells D)))],[]⟩) .ret (λO=>⟨[(2,.d (di O))],[]⟩) ?_ ?_ ?_;refine zB (λx=>⟨[(1,.d (.pt (aG.cells D))),(11,.d (cJ.dv ({x0:=D.aS,x1:=D.aL,x2:=D.aO}:bZ))),(12,.d (di x))],[]⟩) k wc ?_
 rintro ab aa G
 replace G:zA1 D ab=some aa:=G;unfold zA1 at G;refine Q18 ?_;refine zX G (λG=>?_) (λG=>?_);refine Q32 ?_;have ⟨Z,k,G⟩:=bE G;refine jV (zNY (en:=eI) (l:=[({x0:=D.aS,x1:=D.aL,x2:=D.aO}:bZ).x0,({x0:=D.aS,x1:=D.aL,x2:=D.aO}:bZ).x1,({x0:=D.aS,x1:=D.aL,x2:=D.aO}:bZ).x2]) lr zSC O3 (λ_=>rfl) rfl rfl rfl k) ?_;refine Q15 ?_;refine q5 ?_;have ⟨_,k,G⟩:=bE G;refine q9 k ?_;refine q42 (.d (di Z)) ?_;refine q59 (.d (db (decide (65535<Z)))) ?_;refine Q45 ?_;refine zX G (λG=>?_) (λG=>?_);refine Q23 ?_;cases G;intro q;cases q;exact⟨rfl,wc⟩;refine Q41 ?_;exact ew G;refine zD ?_;cases G;intro q;cases q;exact⟨rfl,wc⟩
 rintro O rfl
 replace h:=eL h;refine yP<|Q66 ?_;refine Q96 ?_;refine q30 ?_;have ⟨K,k,h⟩:=bE h;refine q9 k ?_;refine q55 (.ip (aG.cells D) (0+1)) zQ7 ?_;refine q62 (.d (di D.aL)) O3 ?_;refine z0Z (.d (db (decide (D.aL=0)))) ?_;have ⟨T,Y,h⟩:=bE h;refine sqt (.d (db T)) rfl (λhb=>by subst hb;exact(kE lr rfl).bool (oi Y)) ?_
 refine wE (x:= .ip (aG.cells D) (0+2)) rfl rfl rfl lr lr rfl (λhb=>by obtain⟨hb,H⟩:=zR hb;obtain rfl:K=true:=hb;obtain rfl:=gF H;exact vY lr zQ8 rfl) ?_
 refine wE (x:= .d (di D.aO)) rfl rfl rfl lr lr rfl (λhb=>by obtain⟨hb,H⟩:=zR hb;obtain rfl:K=true:=hb;obtain rfl:=gF H;exact kW lr O3 rfl rfl) ?_
 refine wE (x:= .d (db (decide (D.aO=0)))) rfl rfl rfl lr lr rfl (λhb=>by obtain⟨hb,H⟩:=zR hb;obtain rfl:K=true:=hb;obtain rfl:=gF H;exact zMY lr rfl rfl) ?_
 refine yK0 (.d (db (T ||(decide (D.aO=0))))) ?_;refine Q47 ?_;refine zX h (λh=>?_) (λh=>?_);refine Q3 ?_;exact er h;refine Q0 ?_;refine q2 zQ7 ?_;refine q7 O3 ?_;refine q30 ?_;have ⟨_,k,h⟩:=bE h;refine q9 k ?_;refine q55 (.ip (aG.cells D) (0+2)) zQ8 ?_;refine q62 (.d (di D.aO)) O3 ?_;refine z0Z (.d (db (decide (D.aO=0)))) ?_;refine Q47 ?_;refine zX h (λh=>?_) (λh=>?_);refine Q3 ?_;exact er h;refine Q0 ?_;refine q2 zZM ?_;refine q7 O4 ?_;have ⟨_,k,h⟩:=bE h;refine q9 k ?_;refine q55 (.ip (aG.cells D) (0+0)) z4L ?_;refine q62 (.d (di D.aS)) O3 ?_;refine z0Z (.d (db (decide (D.aS=0)))) ?_;refine Q47 ?_;refine zX h (λh=>?_) (λh=>?_);refine Q3 ?_;exact er h;refine Q58 ?_;exact er h
 rintro O rfl
 replace h:=eR h;exact es h
theorem zMK {D a1 r} (h:uV D a1=some r):zC Tryz.prog 150 [(bB.dv D),(di a1)] [(di r)]:=by
 refine co Tryz.func150 ?_;intro _ _ _ _;unfold uV at h;refine Q0 ?_;refine yCV ?_;refine Q48 ?_;refine q2 zJU ?_;refine q7 O37 ?_;refine q4 yE ?_;refine q5 ?_;have ⟨_,k,h⟩:=bE h;refine q9 k ?_;refine q24 (.ip (bB.cells D) (0+0)) zJU ?_;refine q26 (.d (zH eI D.aW)) O37 ?_;refine q83 (.d (di (D.aW.length:Int))) yE ?_;refine q59 (.d (db (decide (8<(D.aW.length:Int))))) ?_;refine q22 ?_;have ⟨_,k,h⟩:=bE h;refine q9 k ?_;refine q24 (.ip (bB.cells D) (0+1)) zN5 ?_;refine q26 (.d (zH aG D.aU)) O79 ?_;refine q83 (.d (di (D.aU.length:Int))) S79 ?_;refine q59 (.d (db (decide (16<(D.aU.length:Int))))) ?_;refine Q45 ?_;refine zX h (λh=>?_) (λh=>?_);refine Q3 ?_;exact er h;refine Q74 ?_;refine q2 zJU ?_;refine q7 O37 ?_;refine Q63 ?_;have ⟨O,k,h⟩:=bE h;refine zP O (.exit 0) (λO=>⟨[(1,.d (di a1)),(2,.d (.pt (bB.cells D)))],[]⟩) .ret (λO=>⟨[(4,.d (di O))],[]⟩) ?_ ?_ ?_;refine zB (λx=>⟨[(1,.d (di a1)),(2,.d (.pt (bB.cells D))),(29,.d (zH eI D.aW)),(30,.d (di (D.aW.length:Int))),(31,.d (di x))],[]⟩) k wc ?_
 rintro ac Z G
 replace G:j6 D ac=some Z:=G;unfold j6 at G;refine Q18 ?_;refine zX G (λG=>?_) (λG=>?_);refine Q32 ?_;have ⟨_,k,G⟩:=bE G;refine u5 yE k ?_;refine q36 O3 k ?_;refine Q15 ?_;have ⟨_,k,G⟩:=bE G;refine q6 (zD4 k) ?_;refine Q36 ?_;refine zX G (λG=>?_) (λG=>?_);refine Q23 ?_;cases G;intro q;cases q;exact⟨rfl,wc⟩;refine Q41 ?_;exact ew G;refine zD ?_;cases G;intro q;cases q;exact⟨rfl,wc⟩
 rintro O rfl
 replace h:=eL h;refine Q31 ?_;refine q2 zN5 ?_;refine q7 O79 ?_;refine q4 S79 ?_;refine Q24 ?_;have ⟨T,k,h⟩:=bE h;refine zP T (.exit 2) (λT=>⟨[(1,.d (di a1)),(2,.d (.pt (bB.cells D)))],[]⟩) .ret (λT=>⟨[(4,.d (di T))],[]⟩) ?_ ?_ ?_;refine zB (λx=>⟨[(1,.d (di a1)),(2,.d (.pt (bB.cells D))),(40,.d (zH aG D.aU)),(41,.d (di (D.aU.length:Int))),(42,.d (di x))],[]⟩) k wc ?_
 rintro ad aa H
 replace H:x9 D ad=some aa:=H;unfold x9 at H;refine Q18 ?_;refine zX H (λH=>?_) (λH=>?_);refine Q32 ?_;have ⟨_,k,H⟩:=bE H;refine u5 S79 k ?_;refine yCW G82 k ?_;refine yGC ?_;refine q18 G82 ?_;refine zJ ?_;refine zI (zQ (t:=8) lr rfl rfl rfl) ?_;refine Q0 ?_;refine q12 G82 ?_;have ⟨_,k,H⟩:=bE H;refine q6 (zT4 k) ?_;refine Q67 ?_;refine zX H (λH=>?_) (λH=>?_);refine z41 ?_;cases H;intro q;cases q;exact⟨rfl,wc⟩;refine Q41 ?_;exact ew H;refine zD ?_;cases H;intro q;cases q;exact⟨rfl,wc⟩
 rintro T rfl
 replace h:=eL h;refine Q31 ?_;refine q2 zN5 ?_;refine q7 O79 ?_;refine q4 S79 ?_;refine Q24 ?_;have ⟨Y,k,h⟩:=bE h;refine zP Y (.exit 4) (λY=>⟨[],[]⟩) .ret (λY=>⟨[(4,.d (di Y))],[]⟩) ?_ ?_ ?_;refine zB (λx=>⟨[(1,.d (di a1)),(53,.d (zH aG D.aU)),(54,.d (di (D.aU.length:Int))),(55,.d (di x))],[]⟩) k wc ?_
 rintro ag ab K
 replace K:j7 D a1 ag=some ab:=K;unfold j7 at K;refine Q18 ?_;refine zX K (λK=>?_) (λK=>?_);refine Q32 ?_;have ⟨_,k,K⟩:=bE K;refine u5 S79 k ?_;refine yCW G82 k ?_;refine yGC ?_;refine q18 G82 ?_;refine zJ ?_;refine zI (zQ (t:=11) lr rfl rfl rfl) ?_;refine Q0 ?_;refine Q96 ?_;refine q0 ?_;refine Q86 ?_;refine zX K (λK=>?_) (λK=>?_);refine Q23 ?_;cases K;intro q;cases q;exact⟨rfl,wc⟩;refine Q41 ?_;exact ew K;refine zD ?_;cases K;intro q;cases q;exact⟨rfl,wc⟩
 rintro Y rfl
 replace h:=eL h;refine Q3 ?_;exact er h
 rintro Y rfl
 replace h:=eR h;exact es h
 rintro T rfl
 replace h:=eR h;exact es h
 rintro O rfl
 replace h:=eR h;exact es h
theorem vM {D a1 r} (h:xK D a1=some r):zC Tryz.prog 71 [(di D),(di a1)] [(di r)]:=by refine co Tryz.func71 ?_;intro _ _ _ _;unfold xK at h;refine Q53 ?_;have ⟨_,k,h⟩:=bE h;refine q6 (zM4 k) ?_;refine Q15 ?_;have ⟨_,k,h⟩:=bE h;refine q6 (zM4 k) ?_;refine Q1 ?_;refine z77 ?_;refine zX h (λh=>?_) (λh=>?_);refine z77 ?_;refine zX h (λh=>?_) (λh=>?_);refine Q3 ?_;exact er h;refine Q58 ?_;exact er h;refine Q70 ?_;refine zJ ?_;refine zX h (λh=>?_) (λh=>?_);refine Q3 ?_;exact er h;refine zM<|Q75 ?_;refine zX h (λh=>?_) (λh=>?_);refine Q3 ?_;exact er h;refine zM<|Q14 ?_;refine Q59 ?_;refine zX h (λh=>?_) (λh=>?_);refine Q3 ?_;exact er h;refine Q58 ?_;exact er h
theorem zPA {G a1 r} (h:zB1 G a1=some r):zC Tryz.prog 38 [(zH eI G),(zH eI a1)] [(di r)]:=by
 refine co Tryz.func38 ?_;intro _ _ _ _;unfold zB1 at h;refine Q43 ?_;refine q4 yE ?_;refine q0 ?_;refine q4 yE ?_;refine yGD ?_;refine Q24 ?_;have ⟨H,k,h⟩:=bE h;refine zP H (.exit 0) (λH=>⟨[(0,.d (zH eI G)),(1,.d (zH eI a1))],[]⟩) .ret (λH=>⟨[(4,.d (di H))],[]⟩) ?_ ?_ ?_;refine zB (λx=>⟨[(0,.d (zH eI G)),(1,.d (zH eI a1)),(10,.d (di (min (G.length:Int) (a1.length:Int)))),(11,.d (di x))],[]⟩) k wc ?_
 rintro O K D
 replace D:w6 G a1 O=some K:=D;unfold w6 at D;refine Q18 ?_;refine zX D (λD=>?_) (λD=>?_);refine Q64 ?_;refine Q16 ?_;refine zT MX rfl ?_;refine Q25 ?_;have ⟨_,k,D⟩:=bE D;refine q29 yE k ?_;refine q73 O3 k ?_;refine Q25 ?_;have ⟨_,k,D⟩:=bE D;refine q29 yE k ?_;refine q73 O3 k ?_;refine yK1 ?_;refine xI ?_;refine zX D (λD=>?_) (λD=>?_);refine yP ?_;refine zT MX rfl ?_;refine Q25 ?_;have ⟨_,k,D⟩:=bE D;refine q29 yE k ?_;refine q73 O3 k ?_;refine Q25 ?_;have ⟨_,k,D⟩:=bE D;refine q29 yE k ?_;refine q73 O3 k ?_;have ⟨_,k,D⟩:=bE D;refine q20 (vM k) ?_;refine Q44 ?_;refine yB ?_;cases D;intro q;cases q;exact⟨rfl,wc⟩;refine Q41 ?_;exact ew D;refine zD ?_;cases D;intro q;cases q;exact⟨rfl,wc⟩
 rintro H rfl
 replace h:=eL h;refine Q2 ?_;refine q4 yE ?_;refine q0 ?_;refine q4 yE ?_;have ⟨_,k,h⟩:=bE h;refine q6 (vM k) ?_;refine Q1 ?_;exact er h
 rintro H rfl
 replace h:=eR h;exact es h
theorem zRB {G r} (h:zBQ G=some r):zC Tryz.prog 107 [(aH.dv G)] [(di r)]:=by
 refine co Tryz.func107 ?_;intro _ _ _ _;unfold zBQ at h;refine zXS ?_;refine Q48 ?_;refine q2 zPO ?_;refine z75 ?_;have ⟨_,k,h⟩:=bE h;refine q9 k ?_;refine q24 (.ip (aH.cells G) (0+2)) zPO ?_;refine q26 (.d (di G.bJ)) O3 ?_;refine q59 (.d (db (decide (65502<G.bJ)))) ?_;refine q22 ?_;have ⟨_,k,h⟩:=bE h;refine q9 k ?_;refine q24 (.ip (aH.cells G) (0+3)) z9R ?_;refine q26 (.d (di G.bA)) O3 ?_;have ⟨ab,Y,h⟩:=bE h;refine sqf (.d (db ab)) rfl (λhb=>by subst hb;exact jO lr rfl (zIA Y)) ?_
 refine z7J (.d (db (!ab))) ?_;refine q22 ?_;have ⟨_,k,h⟩:=bE h;refine q9 k ?_;refine q24 (.ip (aH.cells G) (0+4)) z9S ?_;refine q26 (.d (di G.bI)) O3 ?_;have ⟨ac,Z,h⟩:=bE h;refine sqf (.d (db ac)) rfl (λhb=>by subst hb;exact jO lr rfl (zIA Z)) ?_
 refine z7J (.d (db (!ac))) ?_;refine Q45 ?_;refine zX h (λh=>?_) (λh=>?_);refine Q3 ?_;exact er h;refine Q74 ?_;refine q12 G32 ?_;have ⟨_,k,h⟩:=bE h;refine q6 (zLU k) ?_;refine Q67 ?_;refine zX h (λh=>?_) (λh=>?_);refine Q40 ?_;exact er h;refine Q74 ?_;refine z06 ?_;refine q4 S29 ?_;refine Q24 ?_;have ⟨T,k,h⟩:=bE h;refine zP T (.exit 0) (λT=>⟨[],[]⟩) .ret (λT=>⟨[(2,.d (di T))],[]⟩) ?_ ?_ ?_;refine zB (λx=>⟨[(1,.d (.pt (aH.cells G))),(33,.d (zH bB G.aB)),(34,.d (di (G.aB.length:Int))),(35,.d (di x))],[]⟩) k wc ?_
 rintro H ah D
 replace D:uA G H=some ah:=D;unfold uA at D;refine Q18 ?_;refine zX D (λD=>?_) (λD=>?_);refine Q64 ?_;have ⟨O,k,D⟩:=bE D;refine u5 S29 k ?_;refine jV (zAN (en:=bB) (l:=G.aB) (i:=H) (v:=O) (off:=0) lr G91 rfl k rfl rfl (by decide)) ?_;refine yCR ?_;refine q1 ?_;refine q18 G91 ?_;refine zJ ?_;refine zI (zQ (t:=5) lr rfl rfl rfl) ?_;refine Q31 ?_;refine q12 G91 ?_;refine q2 zPO ?_;refine q7 O3 ?_;have ⟨_,k,D⟩:=bE D;refine q6 (zMK k) ?_;refine Q67 ?_;refine zX D (λD=>?_) (λD=>?_);refine z41 ?_;cases D;intro q;cases q;exact⟨rfl,wc⟩;refine Q5 ?_;refine zT MX rfl ?_;refine q8 ?_;refine z7P ?_;have ⟨_,k,D⟩:=bE D;refine q47 k ?_;refine z4N (.ip (aH.cells G) (0+0)) z4K ?_;refine z4O (.d (zH bB G.aB)) O29 ?_;refine q48 (.d (di H)) ?_;refine yCU (.d (di (wi (H-1)))) ?_;have ⟨ad,K,D⟩:=bE D;refine dat (.ip (bB.all G.aB) ((wi (H-1)).toNat*bB.size)) rfl (λhb=>by subst hb;exact k6 (en:=bB) lr S29 rfl rfl K) ?_
 refine z4P (.ip (bB.all G.aB) ((wi (H-1)).toNat*bB.size+0)) zJU ?_;refine dat (.d (zH eI ad.aW)) rfl (λhb=>by subst hb;exact z6 (en:=bB) (l:=G.aB) (i:=(wi (H-1))) (v:=ad) (off:=0) lr O37 rfl K rfl) ?_
 refine z4N (.ip (bB.cells O) (0+0)) zJU ?_;refine z4O (.d (zH eI O.aW)) O37 ?_;have ⟨ag,aa,D⟩:=bE D;refine dat (.d (di ag)) rfl (λhb=>by subst hb;exact jO lr rfl (zPA aa)) ?_
 refine dat (.d (db (decide (0<=ag)))) rfl (λhb=>by subst hb;exact zNO lr rfl rfl) ?_
 refine Q95 ?_;refine zX D (λD=>?_) (λD=>?_);refine Q23 ?_;cases D;intro q;cases q;exact⟨rfl,wc⟩;refine Q41 ?_;exact ew D;refine zD ?_;cases D;intro q;cases q;exact⟨rfl,wc⟩
 rintro T rfl
 replace h:=eL h;refine Q3 ?_;exact er h
 rintro T rfl
 replace h:=eR h;exact es h
theorem zKX {k r} (h:zDO k=some r):zC Tryz.prog 108 [(zH eI k)] [(cK.dv r)]:=by refine co Tryz.func108 ?_;intro _ _ _ _;unfold zDO at h;refine Q0 ?_;refine yC rfl (kH (zs:=[(.int IntKind.i64 (0)),(.int IntKind.i64 (0)),(.int IntKind.i64 (0)),(.int IntKind.i64 (0)),(.int IntKind.i64 (0)),(.int IntKind.i64 (0)),(.int IntKind.i64 (0)),(.int IntKind.i64 (0)),(.int IntKind.i64 (0))]) lr (by kernel_rfl) rfl rfl) ?_;refine zJ<|Q2 ?_;refine q4 yE ?_;refine q89 yKJ ?_;refine yC rfl (kH (zs:=[(.int IntKind.i64 (0)),(.int IntKind.i64 (0)),(.int IntKind.i64 (0)),(.int IntKind.i64 (0)),(.int IntKind.i64 (0)),(.int IntKind.i64 (0)),(.int IntKind.i64 (0)),(.int IntKind.i64 (0)),(.int IntKind.i64 (0))]) lr (by kernel_rfl) rfl rfl) ?_;refine q18 yKK ?_;refine Q54 ?_;refine jV (z3Y 1 lr yKJ rfl (by decide)) ?_;refine q0 ?_;refine yC rfl (yJ8 (l:=k) lr yE rfl rfl rfl rfl) ?_;refine Q54 ?_;refine jV ((k8 lr yKK rfl rfl rfl rfl).data rfl) ?_;refine q18 yKK ?_;refine zJ ?_;cases h;refine yB ?_;exact wR rfl rfl yKK rfl
theorem zHB {a0} {r:bG} (h:zEF a0=some r):GC Tryz.prog 86 [.d (aH.dv a0)] [] [] [.ptr 13 0] [(13,.box 139 [.d (zH bB r.c.aB),.d (zH aX r.c.aF),.d (di r.c.bJ),.d (di r.c.bA),.d (di r.c.bI),.row 11,.d (di r.bT),.d (zH aR r.bQ),.d (di r.top)]),(11,.map (wG zGX (eL aG) r.entries))]:=by
 refine zD1 Tryz.func86 (by kernel_rfl) rfl lr lr λw0 I0 aj p0=>?_;unfold zEF at h;refine Q0 ?_;refine q97 ?_;refine Q48 ?_;refine jV ((k8 lr G32 rfl rfl rfl rfl).data rfl) ?_;have ⟨_,ab,h⟩:=bE h;refine q6 (zRB ab) ?_;refine Q37 ?_;have ⟨D,H,h⟩:=bE h;refine tl .normal ⟨[(1,.ptr 1 0)],[(1,.box 32 [.d (zH bB D.1),.d (zH aX D.2.1),.d (di D.2.2.1),.d (di D.2.2.2.1),.d (di D.2.2.2.2)])]⟩ ?_ ?_;refine zX H (λH=>?_) (λH=>?_);refine xH ?_;refine jV ((zFG lr B32 rfl rfl).nils (bs:=aH.cells ({aB:=[],aF:=[],bJ:=64448,bA:=32,bI:=2}:Collation)) (nlN (nlN (nlE (nlE (nlE nl0)))))) ?_;refine q18 G32 ?_;refine zJ ?_;exact eo H;refine zM ?_;exact eo H;refine Q0 ?_;refine jV ((k8 lr G32 rfl rfl rfl rfl).data rfl) ?_;refine z7O ?_;refine jV (yFI [(0,.tmp 10)] 1 (.tmp 11) lr yTH rfl rfl rfl rfl rfl rfl) ?_;refine yC rfl (zVZ lr rfl rfl) ?_;refine yGE ?_;refine z07 ?_;refine q52 z4K ?_;refine q27 O29 ?_;refine q4 S29 ?_;refine Q24 ?_;have ⟨y2,ac,h⟩:=bE h;refine tl (.exit 0) ⟨[(3,.ptr 13 0)],[(11,.map (wG zGX (eL aG) y2.1)),(13,.box 139 [.d (zH bB (({aB:=D.1,aF:=D.2.1,bJ:=D.2.2.1,bA:=D.2.2.2.1,bI:=D.2.2.2.2}:Collation).aB)),.d (zH aX (({aB:=D.1,aF:=D.2.1,bJ:=D.2.2.1,bA:=D.2.2.2.1,bI:=D.2.2.2.2}:Collation).aF)),.d (di (({aB:=D.1,aF:=D.2.1,bJ:=D.2.2.1,bA:=D.2.2.2.1,bI:=D.2.2.2.2}:Collation).bJ)),.d (di (({aB:=D.1,aF:=D.2.1,bJ:=D.2.2.1,bA:=D.2.2.2.1,bI:=D.2.2.2.2}:Collation).bA)),.d (di (({aB:=D.1,aF:=D.2.1,bJ:=D.2.2.1,bA:=D.2.2.2.1,bI:=D.2.2.2.2}:Collation).bI)),.row 11,.d (di y2.2),.d (.v (.slice none 0 0)),.d (di 0)])]⟩ ?_ ?_;refine zB (λx=>⟨[(3,.ptr 13 0),(15,.d (zH bB D.1)),(16,.d (di (D.1.length:Int))),(17,.d (di x.1))],[(11,.map (wG zGX (eL aG) x.2.1)),(13,.box 139 [.d (zH bB (({aB:=D.1,aF:=D.2.1,bJ:=D.2.2.1,bA:=D.2.2.2.1,bI:=D.2.2.2.2}:Collation).aB)),.d (zH aX (({aB:=D.1,aF:=D.2.1,bJ:=D.2.2.1,bA:=D.2.2.2.1,bI:=D.2.2.2.2}:Collation).aF)),.d (di (({aB:=D.1,aF:=D.2.1,bJ:=D.2.2.1,bA:=D.2.2.2.1,bI:=D.2.2.2.2}:Collation).bJ)),.d (di (({aB:=D.1,aF:=D.2.1,bJ:=D.2.2.1,bA:=D.2.2.2.1,bI:=D.2.2.2.2}:Collation).bA)),.d (di (({aB:=D.1,aF:=D.2.1,bJ:=D.2.2.1,bA:=D.2.2.2.1,bI:=D.2.2.2.2}:Collation).bI)),.row 11,.d (di x.2.2),.d (.v (.slice none 0 0)),.d (di 0)])]⟩) ac wc ?_
 rintro⟨aa,Y,O⟩ ad G
 replace G:wO D aa Y O=some ad:=G;unfold wO at G;refine Q18 ?_;refine zX G (λG=>?_) (λG=>?_);refine Q32 ?_;have ⟨Z,K,G⟩:=bE G;refine u5 S29 K ?_;refine jV (zAN (en:=bB) (l:=D.1) (i:=aa) (v:=Z) (off:=0) lr G91 rfl K rfl rfl (by decide)) ?_;refine yCR ?_;refine q18 G91 ?_;refine zJ ?_;refine zI (zQ (t:=5) lr rfl rfl rfl) ?_;refine yP ?_;refine zED 9 MX rfl ?_;refine yGF ?_;refine yGG ?_;refine z4Q yF0 ?_;refine yK2 yRP ?_;refine q13 zJU ?_;refine q19 O37 ?_;have ⟨ag,T,G⟩:=bE G;refine q20 (zKX T) ?_;refine q13 zN5 ?_;refine q19 O79 ?_;refine xI ?_;refine yC rfl (zQ4 (kv:=zGX) (ev:=(eL aG)) (mp:=Y) (k:=ag) (v:=Z.aU) yRL yRR rfl rfl rfl (yJ3 rfl) rfl rfl rfl) ?_;refine zJ ?_;refine zED 11 MX rfl ?_;refine yGF ?_;refine yGF ?_;refine yGG ?_;refine z4Q z0X ?_;refine yK2 O3 ?_;refine q13 zJU ?_;refine q19 O37 ?_;refine yGB yE ?_;refine daa (z9B lr rfl rfl) ?_;refine yGG ?_;refine z4Q z0X ?_;refine xI<|z42 ?_;refine Q20 ?_;exact ew G;exact zD (ex G);refine Q0 ?_;refine z7Q ?_;refine yGE ?_;refine zJ ?_;refine zI (zXJ (bid:=13) (off:=7) aR.size rfl rfl) ?_;cases h;refine yB ?_;exact⟨⟨_,_,rfl,rfl,rfl⟩,⟨rfl,rfl,trivial⟩⟩
set_option maxHeartbeats 8000000 in
theorem zLV {a0 r} (h:zCR a0=some r):zC Tryz.prog 151 [(zH aR a0)] [(di r)]:=by
 refine co Tryz.func151 ?_;intro _ _ _ _;unfold zCR at h;refine Q43 ?_;refine q4 S22 ?_;refine Q24 ?_;have ⟨y1,k,h⟩:=bE h;refine zP y1 (.exit 0) (λy1=>⟨[(0,.d (zH aR a0))],[]⟩) .ret (λy1=>⟨[(2,.d (di y1))],[]⟩) ?_ ?_ ?_;refine zB (λx=>⟨[(0,.d (zH aR a0)),(12,.d (zH aR a0)),(13,.d (di (a0.length:Int))),(14,.d (di x))],[]⟩) k wc ?_
 rintro au ao K
 replace K:u9 a0 au=some ao:=K;unfold u9 at K;refine Q18 ?_;refine zX K (λK=>?_) (λK=>?_);refine Q32 ?_;have ⟨G,k,K⟩:=bE K;refine u5 S22 k ?_;refine yK3 uT k ?_;refine yCX ?_;refine q18 uT ?_;refine zJ ?_;refine zI (zQ (t:=4) lr rfl rfl rfl) ?_;refine Q0 ?_;refine q2 zG9 ?_;refine z75 ?_;have ⟨_,k,K⟩:=bE K;refine q9 k ?_;refine q24 (.ip (aR.cells G) (0+1)) zHA ?_;refine q26 (.d (di G.Hi)) O3 ?_;refine q59 (.d (db (decide (1114111<G.Hi)))) ?_;refine q22 ?_;have ⟨_,k,K⟩:=bE K;refine q9 k ?_;refine q24 (.ip (aR.cells G) (0+0)) zG9 ?_;refine q26 (.d (di G.Lo)) O3 ?_;refine q24 (.ip (aR.cells G) (0+1)) zHA ?_;refine q26 (.d (di G.Hi)) O3 ?_;refine q59 (.d (db (decide (G.Hi<G.Lo)))) ?_;refine q22 ?_;have ⟨_,k,K⟩:=bE K;refine q9 k ?_;refine q24 (.ip (aR.cells G) (0+2)) zIN ?_;refine q26 (.d (di G.Value)) O3 ?_;refine yKR (.d (db (decide (G.Value<1)))) ?_;refine q22 ?_;have ⟨_,k,K⟩:=bE K;refine q9 k ?_;refine q24 (.ip (aR.cells G) (0+2)) zIN ?_;refine q26 (.d (di G.Value)) O3 ?_;refine q59 (.d (db (decide (254<G.Value)))) ?_;refine Q45 ?_;refine zX K (λK=>?_) (λK=>?_);refine Q23 ?_;cases K;intro q;cases q;exact⟨rfl,wc⟩;refine Q41 ?_;exact ew K;refine zD ?_;cases K;intro q;cases q;exact⟨rfl,wc⟩
 rintro y1 rfl
 replace h:=eL h;refine Q34 ?_;have ⟨y2,k,h⟩:=bE h;refine zP y2 (.exit 2) (λy2=>⟨[(0,.d (zH aR a0))],[]⟩) .ret (λy2=>⟨[(2,.d (di y2))],[]⟩) ?_ ?_ ?_;refine zB (λx=>⟨[(0,.d (zH aR a0)),(5,.d (di x))],[]⟩) k wc ?_
 rintro v5 ap T
 replace T:zAA a0 v5=some ap:=T;unfold zAA at T;refine Q14 ?_;refine q4 S22 ?_;refine Q6 ?_;refine zX T (λT=>?_) (λT=>?_);refine Q76 ?_;have ⟨H,k,T⟩:=bE T;have ⟨O,D,T⟩:=bE T;refine tl .normal ⟨[(0,.d (zH aR a0)),(5,.d (di v5)),(6,.ptr 6 0),(7,.ptr 7 0)],[(6,.box 144 [.d (di H.Lo),.d (di H.Hi),.d (di H.Value)]),(7,.box 144 [.d (di O.Lo),.d (di O.Hi),.d (di O.Value)])]⟩ ?_ ?_;refine zFH MX ?_;refine z78 ?_;refine zMH (i:=2) rfl lr rfl rfl rfl rfl rfl rfl ?_;refine zZI (en:=aR) (i:=3) rfl lr S22 rfl rfl k rfl rfl rfl rfl ?_;refine xm 5 ?_;refine xm 6 ?_;refine zZI (en:=aR) (i:=7) rfl lr S22 rfl rfl D rfl rfl rfl rfl ?_;refine xn [4,8,9,10] ?_;refine q56 uT k ?_ ?_;refine xn [8,9,10] ?_;refine q56 uT D ?_ ?_;refine xn [9,10] ?_;refine yGH ?_ ?_;refine xn [10] ?_;refine Q88 ?_;exact ae;refine q50 ?_;refine xn [9] ?_;refine Q88 ?_;exact ae;refine yGH ?_ ?_;refine xn [8,10] ?_;refine q56 uT D ?_ ?_;refine xn [10] ?_;refine Q88 ?_;exact ae;refine q50 ?_;refine xn [8,11] ?_;refine q56 uT D ?_ ?_;refine Q50 ?_;exact ae;refine q14 uT ?_;refine xn [8] ?_;refine q77 uT D ?_;refine Q42 ?_;exact ae;refine q50 ?_;refine xn [8,9] ?_;refine q56 uT D ?_ ?_;refine xn [9] ?_;refine Q88 ?_;exact ae;refine q50 ?_;refine xn [8,11] ?_;refine q56 uT D ?_ ?_;refine Q50 ?_;exact ae;refine q14 uT ?_;refine xn [8] ?_;refine q77 uT D ?_;refine Q42 ?_;exact ae;refine q56 uT D ?_ ?_;refine xn [4,9,10] ?_;refine q56 uT k ?_ ?_;refine xn [9,10] ?_;refine yGH ?_ ?_;refine xn [10] ?_;refine Q88 ?_;exact ae;refine q50 ?_;refine xn [9] ?_;refine Q88 ?_;exact ae;refine yGH ?_ ?_;refine xn [4,10] ?_;refine q56 uT k ?_ ?_;refine xn [10] ?_;refine Q88 ?_;exact ae;refine q50 ?_;refine xn [4] ?_;refine q77 uT k ?_;refine Q50 ?_;exact ae;refine q50 ?_;refine xn [4,9] ?_;refine q56 uT k ?_ ?_;refine xn [9] ?_;refine Q88 ?_;exact ae;refine q50 ?_;refine xn [4] ?_;refine q77 uT k ?_;refine Q50 ?_;exact ae;refine yGH ?_ ?_;refine xn [4,8,10] ?_;refine q56 uT k ?_ ?_;refine xn [8,10] ?_;refine q56 uT D ?_ ?_;refine xn [10] ?_;refine Q88 ?_;exact ae;refine q50 ?_;refine xn [8,11] ?_;refine q56 uT D ?_ ?_;refine Q50 ?_;exact ae;refine q14 uT ?_;refine xn [8] ?_;refine q77 uT D ?_;refine Q42 ?_;exact ae;refine q56 uT D ?_ ?_;refine xn [4,10] ?_;refine q56 uT k ?_ ?_;refine xn [10] ?_;refine Q88 ?_;exact ae;refine q50 ?_;refine xn [4] ?_;refine q77 uT k ?_;refine Q50 ?_;exact ae;refine q50 ?_;refine xn [4,8] ?_;refine q56 uT k ?_ ?_;refine xn [8,11] ?_;refine q56 uT D ?_ ?_;refine Q50 ?_;exact ae;refine q14 uT ?_;refine xn [8] ?_;refine q77 uT D ?_;refine Q42 ?_;exact ae;refine q77 uT D ?_;refine xn [4] ?_;refine q77 uT k ?_;refine Q50 ?_;exact ae;refine q50 ?_;refine xn [4,8,9] ?_;refine q56 uT k ?_ ?_;refine xn [8,9] ?_;refine q56 uT D ?_ ?_;refine xn [9] ?_;refine Q88 ?_;exact ae;refine q50 ?_;refine xn [8,11] ?_;refine q56 uT D ?_ ?_;refine Q50 ?_;exact ae;refine q14 uT ?_;refine xn [8] ?_;refine q77 uT D ?_;refine Q42 ?_;exact ae;refine q56 uT D ?_ ?_;refine xn [4,9] ?_;refine q56 uT k ?_ ?_;refine xn [9] ?_;refine Q88 ?_;exact ae;refine q50 ?_;refine xn [4] ?_;refine q77 uT k ?_;refine Q50 ?_;exact ae;refine q50 ?_;refine xn [4,8] ?_;refine q56 uT k ?_ ?_;refine xn [8,11] ?_;refine q56 uT D ?_ ?_;refine Q50 ?_;exact ae;refine q14 uT ?_;refine xn [8] ?_;refine q77 uT D ?_;refine Q42 ?_;exact ae;refine q77 uT D ?_;refine xn [4] ?_;refine q77 uT k ?_;refine Q50 ?_;exact ae;refine zI (zQ (t:=6) lr rfl rfl rfl) ?_;refine zI (zQ (t:=7) lr rfl rfl rfl) ?_;refine Q0 ?_;refine q2 zG9 ?_;refine q7 O3 ?_;refine q2 zHA ?_;refine q7 O3 ?_;refine q67 ?_;have ⟨_,k,T⟩:=bE T;refine q9 k ?_;refine q24 (.ip (aR.cells O) (0+0)) zG9 ?_;refine q26 (.d (di O.Lo)) O3 ?_;refine q24 (.ip (aR.cells H) (0+1)) zHA ?_;refine q26 (.d (di H.Hi)) O3 ?_;refine sqf (.d (di (wi (H.Hi+1)))) rfl (λhb=>by subst hb;exact zZB lr rfl rfl) ?_
 refine yCQ (.d (db (decide (O.Lo=(wi (H.Hi+1)))))) ?_;have ⟨ac,an,T⟩:=bE T;refine sqf (.d (db ac)) rfl (λhb=>by subst hb;exact(kE lr rfl).bool (oi an)) ?_
 refine wE (x:= .ip (aR.cells O) (0+2)) rfl rfl rfl lr lr rfl (λhb=>by obtain⟨hb,Y⟩:=zR hb;obtain rfl:=gF hb;obtain rfl:ac=true:=Y;exact vY lr zIN rfl) ?_
 refine wE (x:= .d (di O.Value)) rfl rfl rfl lr lr rfl (λhb=>by obtain⟨hb,Y⟩:=zR hb;obtain rfl:=gF hb;obtain rfl:ac=true:=Y;exact kW lr O3 rfl rfl) ?_
 refine wE (x:= .ip (aR.cells H) (0+2)) rfl rfl rfl lr lr rfl (λhb=>by obtain⟨hb,Y⟩:=zR hb;obtain rfl:=gF hb;obtain rfl:ac=true:=Y;exact vY lr zIN rfl) ?_
 refine wE (x:= .d (di H.Value)) rfl rfl rfl lr lr rfl (λhb=>by obtain⟨hb,Y⟩:=zR hb;obtain rfl:=gF hb;obtain rfl:ac=true:=Y;exact kW lr O3 rfl rfl) ?_
 refine wE (x:= .d (db (decide (O.Value=H.Value)))) rfl rfl rfl lr lr rfl (λhb=>by obtain⟨hb,Y⟩:=zR hb;obtain rfl:=gF hb;obtain rfl:ac=true:=Y;exact zMY lr rfl rfl) ?_
 refine q96 (.d (db (ac&&(decide (O.Value=H.Value))))) ?_;refine Q45 ?_;refine zX T (λT=>?_) (λT=>?_);refine Q23 ?_;cases T;intro q;cases q;exact⟨rfl,wc⟩;refine Q38 ?_;exact ew T;refine zD ?_;cases T;intro q;cases q;exact⟨rfl,wc⟩
 rintro y2 rfl
 replace h:=eL h;refine Q4 ?_;refine q4 S22 ?_;refine Q24 ?_;have ⟨y3,k,h⟩:=bE h;refine zP y3 (.exit 4) (λy3=>⟨[],[]⟩) .ret (λy3=>⟨[(2,.d (di y3))],[]⟩) ?_ ?_ ?_;refine zB (λx=>⟨[(79,.d (zH aR a0)),(80,.d (di (a0.length:Int))),(81,.d (di x))],[]⟩) k wc ?_
 rintro ai aq Z
 replace Z:zAB a0 ai=some aq:=Z;unfold zAB at Z;refine Q18 ?_;refine zX Z (λZ=>?_) (λZ=>?_);refine Q32 ?_;have ⟨ag,k,Z⟩:=bE Z;refine u5 S22 k ?_;refine yK3 uT k ?_;refine yCX ?_;refine q18 uT ?_;refine zJ ?_;refine zI (zQ (t:=9) lr rfl rfl rfl) ?_;refine Q0 ?_;have ⟨ad,k,Z⟩:=bE Z;refine jV ((yJ2 (zs:=[.int .i64 4352,.int .i64 4370,.int .i64 4449,.int .i64 4469,.int .i64 4520,.int .i64 4546,.int .i64 44032,.int .i64 55203]) lr yTO Z0 rfl rfl).data (b:=cH.dv ad) (congrArg cH.dv (oi k))) ?_;refine Q24 ?_;have ⟨y4,k,Z⟩:=bE Z;refine zP y4 (.exit 6) (λy4=>⟨[(79,.d (zH aR a0)),(80,.d (di (a0.length:Int))),(81,.d (di ai))],[]⟩) .ret (λy4=>⟨[(2,.d (di y4))],[]⟩) ?_ ?_ ?_;refine zB (λx=>⟨[(9,.d (.pt (aR.cells ag))),(79,.d (zH aR a0)),(80,.d (di (a0.length:Int))),(81,.d (di ai)),(85,.d (cH.dv ad)),(86,.d (di x))],[]⟩) k wc ?_
 rintro aw ar p4
 replace p4:wP ad ag aw=some ar:=p4;unfold wP at p4;refine Q18 ?_;refine zX p4 (λp4=>?_) (λp4=>?_);refine Q32 ?_;have ⟨ah,k,p4⟩:=bE p4;refine jV (yB3 (en:=aE) (l:=[ad.x0,ad.x1,ad.x2,ad.x3]) lr yTF G43 (λ_=>rfl) rfl rfl rfl k) ?_;refine Q68 ?_;refine zI (zQ (t:=11) lr rfl rfl rfl) ?_;refine Q0 ?_;refine q2 zG9 ?_;refine q7 O3 ?_;refine z70 ?_;refine q67 ?_;have ⟨_,k,p4⟩:=bE p4;refine q9 k ?_;refine q55 (.ip (aE.cells ah) (0+0)) zN4 ?_;refine q62 (.d (di ah.Lo)) O3 ?_;refine q55 (.ip (aR.cells ag) (0+1)) zHA ?_;refine q62 (.d (di ag.Hi)) O3 ?_;refine q63 (.d (db (decide (ah.Lo<=ag.Hi)))) ?_;refine Q39 ?_;refine zX p4 (λp4=>?_) (λp4=>?_);refine Q23 ?_;cases p4;intro q;cases q;exact⟨rfl,wc⟩;refine Q41 ?_;exact ew p4;refine zD ?_;cases p4;intro q;cases q;exact⟨rfl,wc⟩
 rintro y4 rfl
 replace Z:=eL Z;refine Q20 ?_;exact ew Z
 rintro y4 rfl
 replace Z:=eR Z;cases Z;intro q;cases q;exact⟨rfl,wc⟩;refine zD ?_;cases Z;intro q;cases q;exact⟨rfl,wc⟩
 rintro y3 rfl
 replace h:=eL h;refine Q3 ?_;exact er h
 rintro y3 rfl
 replace h:=eR h;exact es h
 rintro y2 rfl
 replace h:=eR h;exact es h
 rintro y1 rfl
 replace h:=eR h;exact es h
theorem zSK {O r} (h:zEG O=some r):zC Tryz.prog 202 [(ds O)] [(db r)]:=by
 refine co Tryz.func202 ?_;intro _ _ _ _;unfold zEG at h;refine Q43 ?_;refine jV (zP1 (a:=O) (b:=[]) lr rfl rfl) ?_;have ⟨_,k,h⟩:=bE h;refine q9 k ?_;refine q42 (.d (ds O)) ?_;refine sqf (.d (di (O.length:Int))) rfl (λhb=>by subst hb;exact zVR (s:=O) lr Tryz.underlying9 rfl) ?_
 refine q59 (.d (db (decide (32<(O.length:Int))))) ?_;refine Q45 ?_;refine zX h (λh=>?_) (λh=>?_);refine Q3 ?_;exact er h;refine Q70 ?_;refine yKX Tryz.underlying9 ?_;refine Q24 ?_;have ⟨Y,k,h⟩:=bE h;refine zP Y (.exit 0) (λY=>⟨[],[]⟩) .ret (λY=>⟨[(2,.d (db Y))],[]⟩) ?_ ?_ ?_;refine zB (λx=>⟨[(0,.d (ds O)),(14,.d (di (O.length:Int))),(15,.d (di x))],[]⟩) k wc ?_
 rintro ad ac G
 replace G:zAC O ad=some ac:=G;unfold zAC at G;refine Q18 ?_;refine zX G (λG=>?_) (λG=>?_);refine Q64 ?_;refine Q69 ?_;have ⟨D,k,G⟩:=bE G;refine yKW Tryz.underlying9 k ?_;refine Q15 ?_;refine q39 ?_;have ⟨_,k,G⟩:=bE G;refine q9 k ?_;refine q15 (.d (dby D)) ?_;refine q63 (.d (db (decide (D<=90)))) ?_;refine q17 ?_;have ⟨_,k,G⟩:=bE G;refine q9 k ?_;refine q42 (.d (dby D)) ?_;refine z7N (.d (db (decide (97<=D)))) ?_;have ⟨T,aa,G⟩:=bE G;refine sqf (.d (db T)) rfl (λhb=>by subst hb;exact(kE lr rfl).bool (oi aa)) ?_
 refine wE (x:= .d (dby D)) rfl rfl rfl lr lr rfl (λhb=>by obtain⟨hb,H⟩:=zR hb;obtain rfl:=gF hb;obtain rfl:T=true:=H;exact kE lr rfl) ?_
 refine wE (x:= .d (db (decide (D<=122)))) rfl rfl rfl lr lr rfl (λhb=>by obtain⟨hb,H⟩:=zR hb;obtain rfl:=gF hb;obtain rfl:T=true:=H;exact zLH lr rfl rfl) ?_
 refine q96 (.d (db (T&&(decide (D<=122))))) ?_;refine q22 ?_;refine Q15 ?_;refine q28 ?_;have ⟨Z,k,G⟩:=bE G;refine q9 k ?_;refine q15 (.d (dby D)) ?_;refine sqt (.d (db (decide (48<=D)))) rfl (λhb=>by subst hb;exact zNO lr rfl rfl) ?_
 have ⟨K,ab,G⟩:=bE G;refine sqt (.d (db K)) rfl (λhb=>by subst hb;exact(kE lr rfl).bool (oi ab)) ?_
 refine wE (x:= .d (dby D)) rfl rfl rfl lr lr rfl (λhb=>by obtain⟨hb,H⟩:=zR hb;obtain rfl:Z=true:=hb;obtain rfl:K=true:=H;exact kE lr rfl) ?_
 refine wE (x:= .d (db (decide (D<=57)))) rfl rfl rfl lr lr rfl (λhb=>by obtain⟨hb,H⟩:=zR hb;obtain rfl:Z=true:=hb;obtain rfl:K=true:=H;exact zLH lr rfl rfl) ?_
 refine sqt (.d (db (K&&(decide (D<=57))))) rfl (λhb=>by subst hb;exact zGT lr rfl rfl) ?_
 refine q88 (.d (db (!(K&&(decide (D<=57)))))) ?_;refine q17 ?_;have ⟨_,k,G⟩:=bE G;refine q9 k ?_;refine q15 (.d (dby D)) ?_;refine yGI (.d (db (!decide (D=95)))) ?_;refine Q39 ?_;refine zX G (λG=>?_) (λG=>?_);refine Q23 ?_;cases G;intro q;cases q;exact⟨rfl,wc⟩;refine Q41 ?_;exact ew G;refine zD ?_;cases G;intro q;cases q;exact⟨rfl,wc⟩
 rintro Y rfl
 replace h:=eL h;refine Q3 ?_;exact er h
 rintro Y rfl
 replace h:=eR h;exact es h
theorem zT5 {G r} (h:zE5 G=some r):zC Tryz.prog 185 [(zH aC G)] [(di r)]:=by
 refine co Tryz.func185 ?_;intro _ _ _ _;unfold zE5 at h;refine Q43 ?_;refine z79 ?_;have ⟨Z,k,h⟩:=bE h;refine zP Z (.exit 0) (λZ=>⟨[(0,.d (zH aC G))],[]⟩) .ret (λZ=>⟨[(2,.d (di Z))],[]⟩) ?_ ?_ ?_;refine zB (λx=>⟨[(0,.d (zH aC G)),(11,.d (zH aC G)),(12,.d (di (G.length:Int))),(13,.d (di x))],[]⟩) k wc ?_
 rintro Y ai D
 replace D:zA3 G Y=some ai:=D;unfold zA3 at D;refine Q18 ?_;refine zX D (λD=>?_) (λD=>?_);refine Q32 ?_;have ⟨T,k,D⟩:=bE D;refine u5 S23 k ?_;refine z00 G60 k ?_;refine z8A ?_;refine zI (zQ (t:=4) lr rfl rfl rfl) ?_;refine Q31 ?_;refine z08 ?_;have ⟨_,k,D⟩:=bE D;refine q6 (zD4 k) ?_;refine Q36 ?_;refine zX D (λD=>?_) (λD=>?_);refine Q23 ?_;cases D;intro q;cases q;exact⟨rfl,wc⟩;refine Q46 ?_;refine q2 zH9 ?_;refine q7 O37 ?_;refine Q63 ?_;have ⟨y2,k,D⟩:=bE D;refine zP y2 (.exit 2) (λy2=>⟨[(0,.d (zH aC G)),(11,.d (zH aC G)),(12,.d (di (G.length:Int))),(13,.d (di Y))],[]⟩) .ret (λy2=>⟨[(2,.d (di y2))],[]⟩) ?_ ?_ ?_;refine zB (λx=>⟨[(0,.d (zH aC G)),(11,.d (zH aC G)),(12,.d (di (G.length:Int))),(13,.d (di Y)),(22,.d (zH eI T.To)),(23,.d (di (T.To.length:Int))),(24,.d (di x))],[]⟩) k wc ?_
 rintro am aj K
 replace K:zA2 T am=some aj:=K;unfold zA2 at K;refine Q18 ?_;refine zX K (λK=>?_) (λK=>?_);refine Q32 ?_;have ⟨_,k,K⟩:=bE K;refine u5 yE k ?_;refine q36 O3 k ?_;refine Q15 ?_;have ⟨_,k,K⟩:=bE K;refine q6 (zD4 k) ?_;refine Q36 ?_;refine zX K (λK=>?_) (λK=>?_);refine Q23 ?_;cases K;intro q;cases q;exact⟨rfl,wc⟩;refine Q41 ?_;exact ew K;refine zD ?_;cases K;intro q;cases q;exact⟨rfl,wc⟩
 rintro y2 rfl
 replace D:=eL D;refine Q20 ?_;exact ew D
 rintro y2 rfl
 replace D:=eR D;cases D;intro q;cases q;exact⟨rfl,wc⟩;refine zD ?_;cases D;intro q;cases q;exact⟨rfl,wc⟩
 rintro Z rfl
 replace h:=eL h;refine Q4 ?_;refine z79 ?_;have ⟨y3,k,h⟩:=bE h;refine zP y3 (.exit 4) (λy3=>⟨[(0,.d (zH aC G))],[]⟩) .ret (λy3=>⟨[(2,.d (di y3))],[]⟩) ?_ ?_ ?_;refine zB (λx=>⟨[(0,.d (zH aC G)),(33,.d (zH aC G)),(34,.d (di (G.length:Int))),(35,.d (di x))],[]⟩) k wc ?_
 rintro an ak O
 replace O:zA4 G an=some ak:=O;unfold zA4 at O;refine Q18 ?_;refine zX O (λO=>?_) (λO=>?_);refine Q32 ?_;have ⟨_,k,O⟩:=bE O;refine u5 S23 k ?_;refine z00 G60 k ?_;refine z8A ?_;refine zI (zQ (t:=8) lr rfl rfl rfl) ?_;refine Q0 ?_;refine q2 zH9 ?_;refine q7 O37 ?_;refine q4 yE ?_;refine Q59 ?_;refine zX O (λO=>?_) (λO=>?_);refine Q23 ?_;cases O;intro q;cases q;exact⟨rfl,wc⟩;refine Q41 ?_;exact ew O;refine zD ?_;cases O;intro q;cases q;exact⟨rfl,wc⟩
 rintro y3 rfl
 replace h:=eL h;refine Q4 ?_;refine z79 ?_;have ⟨y4,k,h⟩:=bE h;refine zP y4 (.exit 6) (λy4=>⟨[],[]⟩) .ret (λy4=>⟨[(2,.d (di y4))],[]⟩) ?_ ?_ ?_;refine zB (λx=>⟨[(44,.d (zH aC G)),(45,.d (di (G.length:Int))),(46,.d (di x))],[]⟩) k wc ?_
 rintro ao al H
 replace H:zA5 G ao=some al:=H;unfold zA5 at H;refine Q18 ?_;refine zX H (λH=>?_) (λH=>?_);refine Q32 ?_;have ⟨ag,k,H⟩:=bE H;refine u5 S23 k ?_;refine z00 G60 k ?_;refine z8A ?_;refine zI (zQ (t:=10) lr rfl rfl rfl) ?_;refine Q0 ?_;refine q2 zFT ?_;refine q7 O9 ?_;refine yCS ?_;have ⟨_,k,H⟩:=bE H;refine q9 k ?_;refine q55 (.ip (aC.cells ag) (0+2)) zFT ?_;refine q62 (.d (ds ag.bN)) O9 ?_;have ⟨ah,ad,H⟩:=bE H;refine sqt (.d (db ah)) rfl (λhb=>by subst hb;exact jO lr rfl (zSK ad)) ?_
 refine q88 (.d (db (!ah))) ?_;refine Q39 ?_;refine zX H (λH=>?_) (λH=>?_);refine Q23 ?_;cases H;intro q;cases q;exact⟨rfl,wc⟩;refine Q41 ?_;exact ew H;refine zD ?_;cases H;intro q;cases q;exact⟨rfl,wc⟩
 rintro y4 rfl
 replace h:=eL h;refine Q3 ?_;exact er h
 rintro y4 rfl
 replace h:=eR h;exact es h
 rintro y3 rfl
 replace h:=eR h;exact es h
 rintro Z rfl
 replace h:=eR h;exact es h
theorem zJX {k r} (h:zCS k=some r):zC Tryz.prog 213 [(ds k)] [(db r)]:=by refine co Tryz.func213 ?_;intro _ _ _ _;unfold zCS at h;refine z40 ?_;refine yCS ?_;refine Q1 ?_;exact er h
theorem zN7 {D a1 r} (h:zBG D a1=some r):zC Tryz.prog 204 [(ds D),(ds a1)] [(di r)]:=by refine co Tryz.func204 ?_;intro _ _ _ _;unfold zBG at h;refine Q53 ?_;have ⟨_,k,h⟩:=bE h;refine q6 (zJX k) ?_;refine Q15 ?_;have ⟨_,k,h⟩:=bE h;refine q6 (zJX k) ?_;refine Q1 ?_;refine z77 ?_;refine zX h (λh=>?_) (λh=>?_);refine z77 ?_;refine zX h (λh=>?_) (λh=>?_);refine Q3 ?_;exact er h;refine Q58 ?_;exact er h;refine Q70 ?_;refine zJ ?_;refine zX h (λh=>?_) (λh=>?_);refine Q3 ?_;exact er h;refine zM<|Q14 ?_;refine jV (yE7 (a:=D) (b:=a1) lr rfl rfl) ?_;refine zJ ?_;refine zX h (λh=>?_) (λh=>?_);refine Q3 ?_;exact er h;refine zM<|Q14 ?_;refine jV (yOM (a:=D) (b:=a1) lr rfl rfl) ?_;refine zJ ?_;refine zX h (λh=>?_) (λh=>?_);refine Q3 ?_;exact er h;refine Q58 ?_;exact er h
theorem zRC {H r} (h:zGZ H=some r):zC Tryz.prog 203 [(zH eI H)] [(di r)]:=by
 refine co Tryz.func203 ?_;intro _ _ _ _;unfold zGZ at h;refine Q3 ?_;refine Q43 ?_;refine Q63 ?_;have ⟨G,k,h⟩:=bE h;refine zP G (.exit 0) (λG=>⟨[(3,.d (di 0))],[]⟩) .ret (λG=>⟨[(2,.d (di G))],[]⟩) ?_ ?_ ?_;refine zB (λx=>⟨[(3,.d (di 0)),(6,.d (zH eI H)),(7,.d (di (H.length:Int))),(8,.d (di x))],[]⟩) k wc ?_
 rintro O K D
 replace D:zDR H O=some K:=D;unfold zDR at D;refine Q18 ?_;refine zX D (λD=>?_) (λD=>?_);refine Q32 ?_;have ⟨_,k,D⟩:=bE D;refine u5 yE k ?_;refine q36 O3 k ?_;refine Q69 ?_;refine Q37 ?_;refine zX D (λD=>?_) (λD=>?_);refine z41 ?_;cases D;intro q;cases q;exact⟨rfl,wc⟩;refine Q41 ?_;exact ew D;refine zD ?_;cases D;intro q;cases q;exact⟨rfl,wc⟩
 rintro G rfl
 replace h:=eL h;refine Q40 ?_;exact er h
 rintro G rfl
 replace h:=eR h;exact es h
theorem zRD {D a1 r} (h:zDP D a1=some r):zC Tryz.prog 186 [(aC.dv D),(aC.dv a1)] [(di r)]:=by refine co Tryz.func186 ?_;intro _ _ _ _;unfold zDP at h;refine Q33 ?_;refine q32 ?_;refine Q16 ?_;refine zT MX rfl ?_;refine q13 zLQ ?_;refine q19 O3 ?_;refine q13 zLQ ?_;refine q19 O3 ?_;have ⟨_,k,h⟩:=bE h;refine q20 (vM k) ?_;refine q13 zFT ?_;refine q19 O9 ?_;refine q13 zFT ?_;refine q19 O9 ?_;have ⟨_,k,h⟩:=bE h;refine q20 (zN7 k) ?_;refine yGJ yE ?_;have ⟨_,k,h⟩:=bE h;refine q20 (zRC k) ?_;refine Q44 ?_;exact er h
theorem zM5 {k r} (h:zE6 k=some r):zC Tryz.prog 187 [(aC.dv k)] [(cE.dv r)]:=by refine co Tryz.func187 ?_;intro _ _ _ _;unfold zE6 at h;refine Q33 ?_;refine yC rfl (kH (zs:=[(.int IntKind.i64 (0)),(.string ⟨#[]⟩)]) lr (by kernel_rfl) rfl rfl) ?_;refine Q54 ?_;refine z08 ?_;refine q2 zFT ?_;refine q7 O9 ?_;refine q49 yTI ?_;refine q18 yRJ ?_;refine zJ ?_;cases h;refine yB ?_;exact wR rfl rfl yRJ rfl
theorem zT6 {K r} (h:zE7 K=some r):zC Tryz.prog 152 [(zH aC K)] [(di r)]:=by
 refine co Tryz.func152 ?_;intro _ _ _ _;unfold zE7 at h;refine Q43 ?_;have ⟨_,ab,h⟩:=bE h;refine q6 (zT5 ab) ?_;refine Q67 ?_;refine zX h (λh=>?_) (λh=>?_);refine Q40 ?_;exact er h;refine Q58 ?_;refine Q34 ?_;have ⟨y1,ah,h⟩:=bE h;refine tl (.exit 0) ⟨[(0,.d (zH aC K)),(4,.d (db y1))],[]⟩ ?_ ?_;refine zB (λx=>⟨[(0,.d (zH aC K)),(4,.d (db x.1)),(5,.d (di x.2))],[]⟩) ah wc ?_
 rintro⟨v4,v5⟩ aj H
 replace H:uB K v4 v5=some aj:=H;unfold uB at H;refine Q61 ?_;refine zX H (λH=>?_) (λH=>?_);refine Q5 ?_;have ⟨y2,D,H⟩:=bE H;refine tl .normal ⟨[(0,.d (zH aC K)),(4,.d (db y2)),(5,.d (di v5))],[]⟩ ?_ ?_;refine yT<|yP ?_;refine zT MX rfl ?_;refine Q25 ?_;refine z4R ?_;have ⟨_,O,D⟩:=bE D;refine q29 S23 O ?_;refine yK4 G60 O ?_;refine Q25 ?_;have ⟨_,T,D⟩:=bE D;refine q29 S23 T ?_;refine yK4 G60 T ?_;have ⟨_,ac,D⟩:=bE D;refine q20 (zRD ac) ?_;refine daa (zNO lr rfl rfl) ?_;refine xI ?_;refine zX D (λD=>?_) (λD=>?_);refine xH<|Q1 ?_;exact eo D;refine zM ?_;exact eo D;refine Q13 ?_;exact ew H;exact zD (ex H);refine z77 ?_;refine zX h (λh=>?_) (λh=>?_);refine Q3 ?_;exact er h;refine Q46 ?_;refine z7O ?_;refine Q11 ?_;refine Q4 ?_;refine z79 ?_;have ⟨y3,ai,h⟩:=bE h;refine zP y3 (.exit 2) (λy3=>⟨[],[]⟩) .ret (λy3=>⟨[(2,.d (di y3))],[]⟩) ?_ ?_ ?_;refine zB (λx=>⟨[(6,.row 32),(33,.d (zH aC K)),(34,.d (di (K.length:Int))),(35,.d (di x.1))],[(32,.map (wG zIY eB x.2))]⟩) ai wc ?_
 rintro⟨an,Z⟩ ak G
 replace G:uC K an Z=some ak:=G;unfold uC at G;refine Q18 ?_;refine zX G (λG=>?_) (λG=>?_);refine Q32 ?_;have ⟨_,Y,G⟩:=bE G;refine u5 S23 Y ?_;refine z00 G60 Y ?_;refine z8A ?_;refine zI (zQ (t:=8) lr rfl rfl rfl) ?_;refine yP<|Q21 ?_;refine q12 G60 ?_;have ⟨al,ad,G⟩:=bE G;refine q6 (zM5 ad) ?_;refine jV (yB6 (kv:=zIY) (ev:=eB) (mp:=Z) (k:=al) (zero:=false) lr yRO yRS rfl rfl rfl (yJ3 rfl) (λ_ _=> .v _)) ?_;refine zJ ?_;refine zX G (λG=>?_) (λG=>?_);refine Q23 ?_;cases G;intro q;cases q;exact⟨rfl,wc⟩;refine zM<|Q26 ?_;refine q12 G60 ?_;have ⟨am,ag,G⟩:=bE G;refine q6 (zM5 ag) ?_;refine yC rfl (zQ4 (kv:=zIY) (ev:=eB) (mp:=Z) (k:=am) (v:=true) yRO yRS rfl rfl rfl (yJ3 rfl) rfl rfl rfl) ?_;refine zJ<|Q20 ?_;exact ew G;refine zD ?_;cases G;intro q;cases q;exact⟨rfl,wc⟩
 rintro y3 rfl
 replace h:=eL h;refine Q3 ?_;exact er h
 rintro y3 rfl
 replace h:=eR h;exact es h
set_option maxHeartbeats 8000000 in
theorem zD8 {ab:DV} {a0:(List Range)} {a1:Int} {a2:Int} {a3:Range->Range->Option (Int)} (ao:∀x0 x1 y,a3 x0 x1=some y->FnC Tryz.prog ab [(aE.dv x0),(aE.dv x1)] [(di y)]) {r:(List Range)} (h:jC a0 a1 a2 a3=some r):GC Tryz.prog 218 [.row 3000,.d (di a1),.d (di a2),.d ab] [(3000,.row 43 aE.size false (aE.all a0))] [3000] [] [(3000,.row 43 aE.size false (aE.all r))]:=by
 refine zD1 Tryz.func218 (by kernel_rfl) rfl lr lr λw0 I0 au p0=>?_;unfold jC at h;refine Q2 ?_;refine Q10 ?_;refine yT ?_;have ⟨y1,k,h⟩:=bE h;refine tl (.exit 0) ⟨[(0,.row 3000)],[(3000,.row 43 aE.size false (aE.all y1))]⟩ ?_ ?_;refine zB (λx=>⟨[(0,.row 3000),(1,.d (di a1)),(2,.d (di a2)),(3,.d ab),(8,.d (di x.1))],[(3000,.row 43 aE.size false (aE.all x.2))]⟩) k wc ?_
 rintro⟨v8,D⟩ ap p1
 replace p1:yJ a2 a1 a3 v8 D=some ap:=p1;unfold yJ at p1;refine Q75 ?_;refine zX p1 (λp1=>?_) (λp1=>?_);refine Q9 ?_;refine Q40 ?_;refine yT ?_;have ⟨y2,k,p1⟩:=bE p1;refine tl (.exit 2) ⟨[(0,.row 3000),(1,.d (di a1)),(2,.d (di a2)),(3,.d ab),(8,.d (di v8))],[(3000,.row 43 aE.size false (aE.all y2))]⟩ ?_ ?_;refine zB (λx=>⟨[(0,.row 3000),(1,.d (di a1)),(2,.d (di a2)),(3,.d ab),(8,.d (di v8)),(9,.d (di x.1))],[(3000,.row 43 aE.size false (aE.all x.2))]⟩) k wc ?_
 rintro⟨T,D⟩ aq O
 replace O:yY a1 a3 T D=some aq:=O;unfold yY at O;refine yP<|yP ?_;refine zT MX rfl ?_;refine Q25 ?_;refine z7P ?_;have ⟨_,k,O⟩:=bE O;refine q47 k ?_;refine q48 (.d ab) ?_;refine yGK (.row 3000) ?_;refine q48 (.d (di T)) ?_;have ⟨ak,ah,O⟩:=bE O;refine dat (.ptr 3000 (T.toNat*aE.size)) rfl (λhb=>by subst hb;exact zF7 (en:=aE) (l:=D) lr S24 rfl rfl rfl ah) ?_
 refine dat (.d (aE.dv ak)) rfl (λhb=>by subst hb;exact vP (en:=aE) (l:=D) (i:=T) (v:=ak) (off:=0) lr G43 rfl rfl ah rfl rfl (by decide)) ?_
 refine yGK (.row 3000) ?_;refine q48 (.d (di T)) ?_;refine yCU (.d (di (wi (T-1)))) ?_;have ⟨al,ai,O⟩:=bE O;refine dat (.ptr 3000 ((wi (T-1)).toNat*aE.size)) rfl (λhb=>by subst hb;exact zF7 (en:=aE) (l:=D) lr S24 rfl rfl rfl ai) ?_
 refine dat (.d (aE.dv al)) rfl (λhb=>by subst hb;exact vP (en:=aE) (l:=D) (i:=(wi (T-1))) (v:=al) (off:=0) lr G43 rfl rfl ai rfl rfl (by decide)) ?_
 have ⟨am,aj,O⟩:=bE O;refine dat (.d (di am)) rfl (λhb=>by subst hb;exact zKP lr rfl rfl (ao _ _ _ aj)) ?_
 refine dat (.d (db (decide (am<0)))) rfl (λhb=>by subst hb;exact zQT lr rfl rfl) ?_
 refine Q95 ?_;refine zX O (λO=>?_) (λO=>?_);refine Q9 ?_;have ⟨ac,k,O⟩:=bE O;have ⟨ad,K,O⟩:=bE O;have ⟨_,Y,O⟩:=bE O;have ⟨_,G,O⟩:=bE O;have ⟨_,Z,O⟩:=bE O;have ⟨aa,H,O⟩:=bE O;refine tl .normal ⟨[(0,.row 3000),(1,.d (di a1)),(2,.d (di a2)),(3,.d ab),(8,.d (di v8)),(9,.d (di T))],[(3000,.row 43 aE.size false (aE.all aa))]⟩ ?_ ?_;refine zFH MX ?_;refine z78 ?_;refine xm 2 ?_;refine xm 3 ?_;refine zMH (i:=4) rfl lr rfl rfl rfl rfl rfl rfl ?_;refine xm 5 ?_;refine xm 6 ?_;refine zMH (i:=7) rfl lr rfl rfl rfl rfl rfl rfl ?_;refine xm 10 ?_;refine xm 11 ?_;refine xn [8,12] ?_;refine yK5 S24 k ?_ ?_;refine xn [9,12] ?_;refine xa rfl (vP (en:=aE) (l:=D) (i:=(wi (T-1))) (v:=ac) (off:=0) lr G43 rfl rfl k rfl rfl (by decide)) ?_ ?_;refine xn [12] ?_;refine q43 S24 K ?_;refine xn [13] ?_;refine xc rfl (vP (en:=aE) (l:=D) (i:=T) (v:=ad) (off:=0) lr G43 rfl rfl K rfl rfl (by decide)) ?_;refine xn [14] ?_;refine q43 S24 Y ?_;refine xn [15] ?_;refine q84 G43 G ?_;refine xn [16] ?_;refine q43 S24 Z ?_;refine xn [17] ?_;refine q84 G43 H ?_;exact ae;refine q43 S24 K ?_;refine xn [9,13] ?_;refine xa rfl (vP (en:=aE) (l:=D) (i:=(wi (T-1))) (v:=ac) (off:=0) lr G43 rfl rfl k rfl rfl (by decide)) ?_ ?_;refine xn [13] ?_;refine xc rfl (vP (en:=aE) (l:=D) (i:=T) (v:=ad) (off:=0) lr G43 rfl rfl K rfl rfl (by decide)) ?_;refine xn [14] ?_;refine q43 S24 Y ?_;refine xn [15] ?_;refine q84 G43 G ?_;refine xn [16] ?_;refine q43 S24 Z ?_;refine xn [17] ?_;refine q84 G43 H ?_;exact ae;refine xc rfl (vP (en:=aE) (l:=D) (i:=T) (v:=ad) (off:=0) lr G43 rfl rfl K rfl rfl (by decide)) ?_;refine xn [9] ?_;refine xc rfl (vP (en:=aE) (l:=D) (i:=(wi (T-1))) (v:=ac) (off:=0) lr G43 rfl rfl k rfl rfl (by decide)) ?_;refine xn [14] ?_;refine q43 S24 Y ?_;refine xn [15] ?_;refine q84 G43 G ?_;refine xn [16] ?_;refine q43 S24 Z ?_;refine xn [17] ?_;refine q84 G43 H ?_;exact ae;refine q43 S24 K ?_;refine xn [8,13] ?_;refine yK5 S24 k ?_ ?_;refine xn [9,13] ?_;refine xa rfl (vP (en:=aE) (l:=D) (i:=(wi (T-1))) (v:=ac) (off:=0) lr G43 rfl rfl k rfl rfl (by decide)) ?_ ?_;refine xn [13] ?_;refine xc rfl (vP (en:=aE) (l:=D) (i:=T) (v:=ad) (off:=0) lr G43 rfl rfl K rfl rfl (by decide)) ?_;refine xn [14] ?_;refine q43 S24 Y ?_;refine xn [15] ?_;refine q84 G43 G ?_;refine xn [16] ?_;refine q43 S24 Z ?_;refine xn [17] ?_;refine q84 G43 H ?_;exact ae;refine xc rfl (vP (en:=aE) (l:=D) (i:=T) (v:=ad) (off:=0) lr G43 rfl rfl K rfl rfl (by decide)) ?_;refine xn [9] ?_;refine xc rfl (vP (en:=aE) (l:=D) (i:=(wi (T-1))) (v:=ac) (off:=0) lr G43 rfl rfl k rfl rfl (by decide)) ?_;refine xn [14] ?_;refine q43 S24 Y ?_;refine xn [15] ?_;refine q84 G43 G ?_;refine xn [16] ?_;refine q43 S24 Z ?_;refine xn [17] ?_;refine q84 G43 H ?_;exact ae;refine xc rfl (vP (en:=aE) (l:=D) (i:=T) (v:=ad) (off:=0) lr G43 rfl rfl K rfl rfl (by decide)) ?_;refine xn [8] ?_;refine q43 S24 k ?_;refine xn [9] ?_;refine xc rfl (vP (en:=aE) (l:=D) (i:=(wi (T-1))) (v:=ac) (off:=0) lr G43 rfl rfl k rfl rfl (by decide)) ?_;refine xn [14] ?_;refine q43 S24 Y ?_;refine xn [15] ?_;refine q84 G43 G ?_;refine xn [16] ?_;refine q43 S24 Z ?_;refine xn [17] ?_;refine q84 G43 H ?_;exact ae;refine Q8 ?_;refine Q77 ?_;exact ew O;exact zD (ex O);refine Q13 ?_;exact ew p1;exact zD (ex p1);cases h;exact⟨rfl,⟨rfl,trivial⟩⟩
theorem zF1 {H:DV} {O:(List Range)} {a1:Int} {a2:Int} {a3:Int} {T:Range->Range->Option (Int)} (Y:∀x0 x1 y,T x0 x1=some y->FnC Tryz.prog H [(aE.dv x0),(aE.dv x1)] [(di y)]) {r:(List Range)} (h:wB O a1 a2 a3 T=some r):GC Tryz.prog 214 [.row 3000,.d (di a1),.d (di a2),.d (di a3),.d H] [(3000,.row 43 aE.size false (aE.all O))] [3000] [] [(3000,.row 43 aE.size false (aE.all r))]:=by
 refine zD1 Tryz.func214 (by kernel_rfl) rfl lr lr λw0 I0 aa p0=>?_;unfold wB at h;refine Q3 ?_;refine Q22 ?_;have ⟨y1,k,h⟩:=bE h;refine tl .ret ⟨[(0,.row 3000)],[(3000,.row 43 aE.size false (aE.all y1))]⟩ ?_ ?_;refine zB (λx=>⟨[(0,.row 3000),(1,.d (di a1)),(2,.d (di a2)),(3,.d (di a3)),(4,.d H),(10,.d (db true)),(11,.d (db true))],[(3000,.row 43 aE.size false (aE.all O))]⟩) k wc ?_
 rintro _ Z K
 replace K:kZ a2 a1 O T a3=some Z:=K;unfold kZ at K;have ⟨y2,D,K⟩:=bE K;refine tl .ret ⟨[(0,.row 3000)],[(3000,.row 43 aE.size false (aE.all y2))]⟩ ?_ ?_;refine z09 ?_;refine Q77 ?_;refine Q4 ?_;refine z72 ?_;refine zX D (λD=>?_) (λD=>?_);refine z8B ?_;have ⟨_,k,D⟩:=bE D;refine yC rfl (zEO [(3000,3000)] (zD8 Y k) lr (by decide) ⟨rfl,rfl,rfl,rfl,trivial⟩ rfl rfl ⟨rfl,trivial⟩ rfl rfl rfl rfl) ?_;refine zJ<|yB ?_;exact eo D;refine Q70 ?_;refine Q89 ?_;refine zX D (λD=>?_) (λD=>?_);refine z8B ?_;cases D;refine Q70 ?_;refine Q36 ?_;have ⟨_,G,D⟩:=bE D;refine tl .normal ⟨[(0,.row 3000),(1,.d (di a1)),(2,.d (di a2)),(3,.d (di a3)),(4,.d H),(10,.d (db true)),(11,.d (db true)),(12,.d (di (wi (a2-a1))))],[(3000,.row 43 aE.size false (aE.all O))]⟩ ?_ ?_;refine zX G (λG=>?_) (λG=>?_);refine z8B ?_;cases G;refine zM ?_;exact eo G;refine z8B ?_;cases D;exact ex K;cases h;exact⟨rfl,⟨rfl,trivial⟩⟩
theorem zET {D:DV} {H:(List Range)} {a1:Range->Range->Option (Int)} (G:∀x0 x1 y,a1 x0 x1=some y->FnC Tryz.prog D [(aE.dv x0),(aE.dv x1)] [(di y)]) {r:(List Range)} (h:jF H a1=some r):GC Tryz.prog 205 [.row 3000,.d D] [(3000,.row 43 aE.size false (aE.all H))] [3000] [] [(3000,.row 43 aE.size false (aE.all r))]:=by refine zD1 Tryz.func205 (by kernel_rfl) rfl lr lr λw0 O K T=>?_;unfold jF at h;refine Q21 ?_;refine z7R S24 ?_;refine Q1 ?_;refine Q71 ?_;refine q68 Tryz.underlying3 Tryz.underlying134 ?_;have ⟨_,k,h⟩:=bE h;refine q6 (zT3 k) ?_;refine q0 ?_;have ⟨_,k,h⟩:=bE h;refine yC rfl (zEO [(3000,3000)] (zF1 G k) lr (by decide) ⟨rfl,rfl,rfl,rfl,rfl,trivial⟩ rfl rfl ⟨rfl,trivial⟩ rfl rfl rfl rfl) ?_;refine zJ ?_;cases h;exact⟨rfl,⟨rfl,trivial⟩⟩
theorem zWD {D a1 r} (h:zB2 D a1=some r):zC Tryz.prog 206 [(aE.dv D),(aE.dv a1)] [(di r)]:=by refine co Tryz.func206 ?_;intro _ _ _ _;unfold zB2 at h;refine Q0 ?_;refine yCV ?_;refine yCV ?_;refine Q16 ?_;refine zT MX rfl ?_;refine z73 ?_;refine z73 ?_;have ⟨_,k,h⟩:=bE h;refine q20 (vM k) ?_;refine z1A ?_;refine z1A ?_;have ⟨_,k,h⟩:=bE h;refine q20 (vM k) ?_;refine yGJ yE ?_;have ⟨_,k,h⟩:=bE h;refine q20 (zRC k) ?_;refine Q44 ?_;exact er h
theorem z1F {a0 r} (h:zJM a0=some r):zC Tryz.prog 188 [(zH aE a0)] [(bX.dv r)]:=by
 refine co Tryz.func188 ?_;intro _ _ _ _;unfold zJM at h;refine Q0 ?_;refine z7S ?_;refine zJ<|Q3 ?_;refine zI (jZ (t:=3) 1003 43 aE.size lr lr rfl rfl) ?_;refine Q4 ?_;refine yDD ?_;have ⟨y1,k,h⟩:=bE h;refine tl (.exit 0) ⟨[(2,.ptr 2 0),(3,.row 1003)],[(2,.box 26 [.d (.v (.slice none 0 0))]),(1003,.row 43 aE.size false (aE.all y1))]⟩ ?_ ?_;refine zB (λx=>⟨[(2,.ptr 2 0),(3,.row 1003),(11,.d (zH aE a0)),(12,.d (di (a0.length:Int))),(13,.d (di x.1))],[(2,.box 26 [.d (.v (.slice none 0 0))]),(1003,.row 43 aE.size false (aE.all x.2))]⟩) k wc ?_
 rintro⟨aj,T⟩ ak Z
 replace Z:zCB a0 aj T=some ak:=Z;unfold zCB at Z;refine Q18 ?_;refine zX Z (λZ=>?_) (λZ=>?_);refine Q5 ?_;have ⟨y2,H,Z⟩:=bE Z;refine tl .normal ⟨[(2,.ptr 2 0),(3,.row 1003),(11,.d (zH aE a0)),(12,.d (di (a0.length:Int))),(13,.d (di aj))],[(2,.box 26 [.d (.v (.slice none 0 0))]),(1003,.row 43 aE.size false (aE.all y2))]⟩ ?_ ?_;refine Q66 ?_;have ⟨ai,k,H⟩:=bE H;refine u5 S24 k ?_;refine z7K G43 k ?_;refine Q68 ?_;refine zI (zQ (t:=5) lr rfl rfl rfl) ?_;refine Q0 ?_;refine Q78 ?_;refine yK6 ?_;refine z70 ?_;refine yGD ?_;refine q49 B43 ?_;refine Q68 ?_;refine zI (zQ (t:=6) lr rfl rfl rfl) ?_;refine Q0 ?_;refine Q78 ?_;refine z70 ?_;refine z72 ?_;refine zX H (λH=>?_) (λH=>?_);refine Q26 ?_;refine z8C ?_;have ⟨_,k,H⟩:=bE H;refine yC rfl (z7 (en:=aE) (l:=T) (m:=[({Lo:=max ai.Lo 0,Hi:=min ai.Hi 1114111}:Range)]) lr S24 rfl rfl rfl k (by decide) (by decide) rfl rfl) ?_;refine Q11 ?_;exact eo H;refine zM ?_;exact eo H;refine Q20 ?_;exact ew Z;exact zD (ex Z);refine Q21 ?_;have ⟨O,ah,h⟩:=bE h;refine yC rfl (zCL [(3000,1003)] (zET (λ_ _ _ q=> .inr ⟨_,rfl,zWD q⟩) ah) lr (by decide) ⟨rfl,rfl,trivial⟩ rfl rfl ⟨rfl,trivial⟩ rfl rfl rfl (λ_=>rfl) rfl) ?_;refine zJ<|Q3 ?_;refine zI (jZ (t:=7) 1007 43 aE.size lr lr rfl rfl) ?_;refine yP<|Q21 ?_;refine z7R S24 ?_;refine Q24 ?_;have ⟨y4,k,h⟩:=bE h;refine tl (.exit 2) ⟨[(2,.ptr 2 0),(7,.row 1007)],[(2,.box 26 [.d (.v (.slice none 0 0))]),(1007,.row 43 aE.size false (aE.all y4))]⟩ ?_ ?_;refine zB (λx=>⟨[(2,.ptr 2 0),(7,.row 1007),(36,.row 1003),(37,.d (di (O.length:Int))),(38,.d (di x.1))],[(2,.box 26 [.d (.v (.slice none 0 0))]),(1003,.row 43 aE.size false (aE.all O)),(1007,.row 43 aE.size false (aE.all x.2))]⟩) k wc ?_
 rintro⟨ag,D⟩ al p4
 replace p4:zCC O ag D=some al:=p4;unfold zCC at p4;refine Q18 ?_;refine zX p4 (λp4=>?_) (λp4=>?_);refine Q5 ?_;have ⟨y5,G,p4⟩:=bE p4;refine tl .normal ⟨[(2,.ptr 2 0),(7,.row 1007),(36,.row 1003),(37,.d (di (O.length:Int))),(38,.d (di ag))],[(2,.box 26 [.d (.v (.slice none 0 0))]),(1003,.row 43 aE.size false (aE.all O)),(1007,.row 43 aE.size false (aE.all y5))]⟩ ?_ ?_;refine Q66 ?_;have ⟨Y,k,G⟩:=bE G;refine q90 S24 k ?_;refine jV (vP (en:=aE) (l:=O) (i:=ag) (v:=Y) (off:=0) lr G43 rfl rfl k rfl rfl (by decide)) ?_;refine Q68 ?_;refine zI (zQ (t:=9) lr rfl rfl rfl) ?_;refine yP<|Q21 ?_;refine z7R S24 ?_;refine Q16 ?_;refine zT MX rfl ?_;refine q8 ?_;refine z7P ?_;have ⟨_,k,G⟩:=bE G;refine q47 k ?_;refine z4N (.ip (aE.cells Y) (0+0)) zN4 ?_;refine z4O (.d (di Y.Lo)) O3 ?_;refine yGK (.row 1007) ?_;refine q48 (.d (di (D.length:Int))) ?_;refine yCU (.d (di (wi ((D.length:Int)-1)))) ?_;have ⟨ab,ac,G⟩:=bE G;refine dat (.ptr 1007 ((wi ((D.length:Int)-1)).toNat*aE.size)) rfl (λhb=>by subst hb;exact zF7 (en:=aE) (l:=D) lr S24 rfl rfl rfl ac) ?_
 refine dat (.ptr 1007 ((wi ((D.length:Int)-1)).toNat*aE.size+1)) rfl (λhb=>by subst hb;exact zAH lr zKV rfl) ?_
 refine dat (.d (di ab.Hi)) rfl (λhb=>by subst hb;exact wY (en:=aE) (l:=D) (i:=(wi ((D.length:Int)-1))) (v:=ab) (off:=1) lr O3 rfl rfl ac rfl) ?_
 refine dat (.d (di (wi (ab.Hi+1)))) rfl (λhb=>by subst hb;exact zZB lr rfl rfl) ?_
 refine dat (.d (db (decide (Y.Lo<=(wi (ab.Hi+1)))))) rfl (λhb=>by subst hb;exact zLH lr rfl rfl) ?_
 refine Q95 ?_;refine zX G (λG=>?_) (λG=>?_);refine yP ?_;refine zED 14 MX rfl ?_;refine Q97 ?_;refine z4R ?_;refine Q97 ?_;refine z4R ?_;have ⟨am,k,G⟩:=bE G;refine yGL S24 k ?_;refine z4Q zKV ?_;refine daa (wY (en:=aE) (l:=D) (i:=(wi ((D.length:Int)-1))) (v:=am) (off:=1) lr O3 rfl rfl k rfl) ?_;refine z1A ?_;refine daa (z9B lr rfl rfl) ?_;have ⟨an,k,G⟩:=bE G;refine yGL S24 k ?_;refine z4Q zKV ?_;refine xI ?_;have ⟨_,K,G⟩:=bE G;refine yC rfl (uK (en:=aE) (l:=D) (i:=(wi ((D.length:Int)-1))) (v:=an) (off:=1) O3 rfl rfl rfl k rfl (by decide) K rfl rfl) ?_;refine zJ<|zD ?_;exact eo G;refine zM<|Q26 ?_;refine z8C ?_;have ⟨_,k,G⟩:=bE G;refine yC rfl (z7 (en:=aE) (l:=D) (m:=[Y]) lr S24 rfl rfl rfl k (by decide) (by decide) rfl rfl) ?_;refine Q11 ?_;exact eo G;refine Q20 ?_;exact ew p4;exact zD (ex p4);refine Q21 ?_;refine zEN (zBC (t:=77) lr rfl rfl) ?_ (by simp);refine q49 B26 ?_;refine q18 G26 ?_;refine zJ ?_;cases h;refine yB ?_;exact wR rfl rfl G26 rfl
theorem zX2 {H r} (h:zHU H=some r):zC Tryz.prog 153 [(bX.dv H)] [(db r)]:=by
 refine co Tryz.func153 ?_;intro _ _ _ _;unfold zHU at h;refine Q94 ?_;refine Q35 ?_;refine Q99 ?_;have ⟨O,k,h⟩:=bE h;refine q6 (z1F k) ?_;refine z7S ?_;refine q18 G26 ?_;refine zJ ?_;refine zI (zQ (t:=3) lr rfl rfl rfl) ?_;refine Q31 ?_;refine z05 ?_;refine z05 ?_;refine Q37 ?_;refine zX h (λh=>?_) (λh=>?_);refine Q3 ?_;exact er h;refine Q74 ?_;refine z05 ?_;refine Q24 ?_;have ⟨G,k,h⟩:=bE h;refine zP G (.exit 0) (λG=>⟨[],[]⟩) .ret (λG=>⟨[(2,.d (db G))],[]⟩) ?_ ?_ ?_;refine zB (λx=>⟨[(1,.d (.pt (bX.cells H))),(17,.d (zH aE O.Ranges)),(18,.d (di (O.Ranges.length:Int))),(19,.d (di x))],[]⟩) k wc ?_
 rintro T K D
 replace D:zCT O H T=some K:=D;unfold zCT at D;refine Q18 ?_;refine zX D (λD=>?_) (λD=>?_);refine Q64 ?_;have ⟨_,k,D⟩:=bE D;refine u5 S24 k ?_;refine z7K G43 k ?_;refine q64 ?_;refine q1 ?_;refine Q60 ?_;refine zI (zQ (t:=5) lr rfl rfl rfl) ?_;refine yP ?_;refine zT MX rfl ?_;refine q33 G43 ?_;refine q13 zLP ?_;refine q19 O24 ?_;refine q8 ?_;have ⟨_,k,D⟩:=bE D;refine q29 S24 k ?_;refine yK7 G43 k ?_;refine yGM E43 ?_;refine xI ?_;refine zX D (λD=>?_) (λD=>?_);refine Q23 ?_;cases D;intro q;cases q;exact⟨rfl,wc⟩;refine Q41 ?_;exact ew D;refine zD ?_;cases D;intro q;cases q;exact⟨rfl,wc⟩
 rintro G rfl
 replace h:=eL h;refine Q3 ?_;exact er h
 rintro G rfl
 replace h:=eR h;exact es h
theorem zK9 {D r} (h:zEH D=some r):zC Tryz.prog 154 [(di D)] [(di r)]:=by refine co Tryz.func154 ?_;intro _ _ _ _;unfold zEH at h;refine Q3 ?_;refine yP<|Q65 ?_;refine q39 ?_;have ⟨_,k,h⟩:=bE h;refine q9 k ?_;refine q15 (.d (di D)) ?_;refine q82 (.d (db (decide (D<4371)))) ?_;refine Q47 ?_;refine zX h (λh=>?_) (λh=>?_);refine Q3 ?_;exact er h;refine Q2 ?_;refine q39 ?_;have ⟨_,k,h⟩:=bE h;refine q9 k ?_;refine q15 (.d (di D)) ?_;refine q82 (.d (db (decide (D<4470)))) ?_;refine Q47 ?_;refine zX h (λh=>?_) (λh=>?_);refine Q3 ?_;exact er h;refine Q2 ?_;refine q39 ?_;have ⟨_,k,h⟩:=bE h;refine q9 k ?_;refine q15 (.d (di D)) ?_;refine q82 (.d (db (decide (D<4547)))) ?_;refine Q47 ?_;refine zX h (λh=>?_) (λh=>?_);refine Q3 ?_;exact er h;refine Q2 ?_;refine q5 ?_;have ⟨_,k,h⟩:=bE h;refine q9 k ?_;refine q42 (.d (di D)) ?_;refine z7N (.d (db (decide (55204<=D)))) ?_;refine q22 ?_;refine Q1 ?_;refine zX h (λh=>?_) (λh=>?_);refine Q3 ?_;exact er h;refine Q2 ?_;refine q34 ?_;have ⟨_,k,h⟩:=bE h;refine z01 k ?_;refine Q98 ?_;refine zX h (λh=>?_) (λh=>?_);refine Q3 ?_;exact er h;refine Q58 ?_;exact er h
theorem zKY {D r} (h:zBR D=some r):zC Tryz.prog 128 [(zH aR D)] [(zH aR r)]:=by refine co Tryz.func128 ?_;intro _ _ _ _;unfold zBR at h;refine Q43 ?_;have ⟨_,k,h⟩:=bE h;refine q6 (zLV k) ?_;refine Q37 ?_;refine zX h (λh=>?_) (λh=>?_);refine Q3 ?_;refine zI (zGV (t:=2) aR.size lr rfl) ?_;exact er h;refine zM<|Q40 ?_;exact er h
theorem zB7 {G:DV} {H:(List bL)} {a1:Int} {a2:bL->Int->Option (Int)} (T:∀x0 x1 y,a2 x0 x1=some y->FnC Tryz.prog G [(aR.dv x0),(di x1)] [(di y)]) {r:Int×Bool} (h:jB H a1 a2=some r):zC Tryz.prog 173 [(zH aR H),(di a1),G] [(di r.1),(db r.2)]:=by
 refine co Tryz.func173 ?_;intro _ _ _ _;unfold jB at h;refine Q0 ?_;refine z8D ?_;refine q4 S22 ?_;refine Q15 ?_;refine q1 ?_;refine Q90 ?_;have ⟨y1,k,h⟩:=bE h;refine tl (.exit 0) ⟨[(0,.d (zH aR H)),(1,.d (di a1)),(2,.d G),(8,.d (di (H.length:Int))),(9,.d (di y1))],[]⟩ ?_ ?_;refine zB (λx=>⟨[(0,.d (zH aR H)),(1,.d (di a1)),(2,.d G),(8,.d (di (H.length:Int))),(9,.d (di x.1)),(10,.d (di x.2))],[]⟩) k wc ?_
 rintro⟨v9,ad⟩ ac K
 replace K:yF H a2 a1 v9 ad=some ac:=K;unfold yF at K;refine Q75 ?_;refine zX K (λK=>?_) (λK=>?_);refine zM ?_;have ⟨y2,D,K⟩:=bE K;refine tl .normal ⟨[(0,.d (zH aR H)),(1,.d (di a1)),(2,.d G),(8,.d (di (H.length:Int))),(9,.d (di y2.1)),(10,.d (di y2.2))],[]⟩ ?_ ?_;refine z09 ?_;refine z8E ?_;refine Q15 ?_;refine Q12 ?_;have ⟨_,k,D⟩:=bE D;refine u5 S22 k ?_;refine yK3 uT k ?_;refine q0 ?_;have ⟨_,k,D⟩:=bE D;refine yCY (T _ _ _ k) ?_;refine Q6 ?_;refine zX D (λD=>?_) (λD=>?_);refine Q13 ?_;exact eo D;refine Q91 ?_;exact eo D;exact ew K;exact zD (ex K);refine Q2 ?_;refine Q12 ?_;refine q5 ?_;have ⟨_,k,h⟩:=bE h;refine q9 k ?_;refine q15 (.d G) ?_;refine q15 (.d (zH aR H)) ?_;refine q15 (.d (di y1)) ?_;have ⟨Z,O,h⟩:=bE h;refine sqt (.ip (aR.all H) (y1.toNat*aR.size)) rfl (λhb=>by subst hb;exact k6 (en:=aR) lr S22 rfl rfl O) ?_
 refine sqt (.d (aR.dv Z)) rfl (λhb=>by subst hb;exact zAN (en:=aR) (l:=H) (i:=y1) (v:=Z) (off:=0) lr uT rfl O rfl rfl (by decide)) ?_
 refine q15 (.d (di a1)) ?_;have ⟨aa,Y,h⟩:=bE h;refine sqt (.d (di aa)) rfl (λhb=>by subst hb;exact zKP lr rfl rfl (T _ _ _ Y)) ?_
 refine z0Z (.d (db (decide (aa=0)))) ?_;refine q17 ?_;refine Q51 ?_;cases h;refine yB ?_;exact zHG rfl rfl
theorem zP6 {k a1 r} (h:zA6 k a1=some r):zC Tryz.prog 174 [(aR.dv k),(di a1)] [(di r)]:=by refine co Tryz.func174 ?_;intro _ _ _ _;unfold zA6 at h;refine Q33 ?_;refine Q16 ?_;refine Q66 ?_;refine q2 zHA ?_;refine q7 O3 ?_;refine q0 ?_;refine q5 ?_;refine Q1 ?_;refine zX h (λh=>?_) (λh=>?_);refine Q3 ?_;exact er h;refine Q0 ?_;refine q2 zG9 ?_;refine q7 O3 ?_;refine q0 ?_;refine q53 ?_;refine Q1 ?_;refine zX h (λh=>?_) (λh=>?_);refine Q3 ?_;exact er h;refine Q58 ?_;exact er h
theorem zHC {D a1 r} (h:jE D a1=some r):zC Tryz.prog 132 [(zH aR D),(di a1)] [(di r)]:=by refine co Tryz.func132 ?_;intro _ _ _ _;unfold jE at h;refine z40 ?_;have ⟨G,k,h⟩:=bE h;refine q6 (zB7 (λ_ _ _ q=> .inr ⟨_,rfl,zP6 q⟩) k) ?_;refine Q83 ?_;refine z74 ?_;refine Q36 ?_;refine zX h (λh=>?_) (λh=>?_);refine Q3 ?_;exact er h;refine zM<|Q27 ?_;have ⟨H,k,h⟩:=bE h;refine u5 S22 k ?_;refine q58 zIN ?_;refine jV (z6 (en:=aR) (l:=D) (i:=G.1) (v:=H) (off:=2) lr O3 rfl k rfl) ?_;refine Q1 ?_;exact er h
theorem zKZ {items:List Range} {a1:(List Int)} {a2:(List bL)} {r:Unit} (h:zBS items a1 a2=some r):zVN Tryz.prog 171 [(.pt [(zH eI a1)]),(.pt [(zH aR a2)])] (items.map λx=>[aE.dv x]):=by
 refine z9D Tryz.func171 (by kernel_rfl) rfl lr lr λw0 I0 J hc hg hG l0 hE=>?_;unfold zBS at h;refine Q3 ?_;refine Q31 ?_;refine q91 O37 ?_;refine Q63 ?_;have ⟨O,ak,h⟩:=bE h;refine zP O (.exit 0) (λO=>⟨[(0,.d (.v (.func (.yield l0) #[] #[]))),(1,.d (.pt [(zH eI a1)])),(4,.d (di O.1)),(1000000,.gh O.2)],[]⟩) .ret (λO=>⟨[(1000000,.gh O)],[]⟩) ?_ ?_ ?_;refine zB (λx=>⟨[(0,.d (.v (.func (.yield l0) #[] #[]))),(1,.d (.pt [(zH eI a1)])),(2,.d (.pt [(zH aR a2)])),(4,.d (di x.1)),(8,.d (zH eI a1)),(9,.d (di (a1.length:Int))),(10,.d (di x.2.1)),(1000000,.gh x.2.2)],[]⟩) ak wc ?_
 rintro⟨v4,aa,H⟩ al K
 replace K:k4 a1 a2 items v4 aa H=some al:=K;unfold k4 at K;refine Q18 ?_;refine zX K (λK=>?_) (λK=>?_);refine Q5 ?_;have ⟨Y,G,K⟩:=bE K;refine zP Y .normal (λY=>⟨[(0,.d (.v (.func (.yield l0) #[] #[]))),(1,.d (.pt [(zH eI a1)])),(2,.d (.pt [(zH aR a2)])),(4,.d (di Y.1)),(8,.d (zH eI a1)),(9,.d (di (a1.length:Int))),(10,.d (di aa)),(1000000,.gh Y.2)],[]⟩) .ret (λY=>⟨[(1000000,.gh Y)],[]⟩) ?_ ?_ ?_;refine Q65 ?_;have ⟨_,T,G⟩:=bE G;refine u5 yE T ?_;refine q36 O3 T ?_;refine q1 ?_;refine Q35 ?_;refine q91 O22 ?_;refine q0 ?_;have ⟨_,ad,G⟩:=bE G;refine q6 (zHC ad) ?_;refine Q98 ?_;have ⟨Z,D,G⟩:=bE G;refine zP Z .normal (λZ=>⟨[(0,.d (.v (.func (.yield l0) #[] #[]))),(1,.d (.pt [(zH eI a1)])),(2,.d (.pt [(zH aR a2)])),(4,.d (di Z.1)),(8,.d (zH eI a1)),(9,.d (di (a1.length:Int))),(10,.d (di aa)),(1000000,.gh Z.2)],[]⟩) .ret (λZ=>⟨[(1000000,.gh Z)],[]⟩) ?_ ?_ ?_;refine Q65 ?_;refine q28 ?_;have ⟨_,ab,D⟩:=bE D;refine q9 ab ?_;refine q15 (.d (di v4)) ?_;refine q82 (.d (db (decide (v4<0)))) ?_;refine Q47 ?_;refine zX D (λD=>?_) (λD=>?_);refine Q91 ?_;exact ep D;refine Q2 ?_;have ⟨_,ac,D⟩:=bE D;refine q9 ac ?_;refine q15 (.d (di v4)) ?_;refine sqt (.d (db (decide (0<=v4)))) rfl (λhb=>by subst hb;exact zNO lr rfl rfl) ?_
 refine Q47 ?_;refine zX D (λD=>?_) (λD=>?_);refine Q4 ?_;refine Q12 ?_;refine q49 B43 ?_;have ⟨_,ag,D⟩:=bE D;refine yC rfl (z0H (k:=H) lr hE rfl rfl rfl (z64 _ ag)) ?_;refine Q36 ?_;refine zX D (λD=>?_) (λD=>?_);refine yB ?_;exact ep D;refine zM<|xH<|Q1 ?_;exact ep D;refine zM ?_;exact ep D
 rintro Z rfl
 replace G:=eL G;exact ep G
 rintro Z rfl
 replace G:=eR G;exact ep G
 rintro Y rfl
 replace K:=eL K;refine Q20 ?_;exact ew K
 rintro Y rfl
 replace K:=eR K;cases K;intro q;cases q;exact⟨rfl,wc⟩;refine zD ?_;cases K;intro q;cases q;exact⟨rfl,wc⟩
 rintro O rfl
 replace h:=eL h;refine Q2 ?_;refine Q86 ?_;refine zX h (λh=>?_) (λh=>?_);refine Q84 ?_;refine q91 O37 ?_;refine q4 yE ?_;refine q49 B43 ?_;have ⟨_,ah,h⟩:=bE h;refine yC rfl (z0H (k:=O.2) lr hE rfl rfl rfl (z64 _ ah)) ?_;refine zJ ?_;exact⟨rfl,zN2 _ h⟩;refine zM ?_;exact⟨rfl,zN2 _ h⟩
 rintro O rfl
 replace h:=eR h;exact⟨rfl,zN2 _ h⟩
theorem zM6 {h:List bL} {a1:List Int}:zC Tryz.prog 129 [(zH aR h),(zH eI a1)] [.fn 171 [.pt [zH eI a1],.pt [zH aR h]]]:=by refine co Tryz.func129 ?_;intro _ _ _ _;refine Q94 ?_;refine q70 ?_;refine Q35 ?_;refine yK8 ?_;refine z8F ?_;exact zVV rfl
theorem z43 {f:FuncId} {G:List DV} {r:List Range} (O:zVN Tryz.prog f G (r.map λx=>[aE.dv x])) (hr:r.length<=LIM):zC Tryz.prog 207 [.v (.slice none 0 0),.fn f G] [zH aE r]:=by
 refine co Tryz.func207 ?_;intro _ _ _ _;refine Q0 ?_;refine yC rfl (z9C lr rfl rfl rfl) ?_;refine Q1 ?_;refine zI (zDD (bid:=2) (off:=0) 100 43 aE.size lr (by decide) rfl rfl rfl) ?_;refine z77 ?_;refine yT ?_;refine zY4 [(2,.ptr 2 0),(4,.d (.v (.slice none 0 0)))] [2] (λk=>[(2,.box 24 [.row 100]),(100,.row 43 aE.size false (aE.all (r.take k)))]) rfl O rfl (λ_ _ _ _ h=>h) ?hk ?hT rfl (λ_=>rfl) ?hbx (λ_ _=>rfl) ?hl ?hpn ?rd ?hK
 case hk=>exact⟨rfl,rfl,trivial⟩
 case hT=>exact⟨rfl,rfl,trivial⟩
 case hbx=>intro k id hi;simp at hi;subst hi;exact λ(h:Blk.box _ _=Blk.none)=>by cases h
 case hl=>intro x K;obtain⟨y,_,rfl⟩:=eK.1 K;rfl
 case hpn=>intro p Y;simp at Y;subst Y;exact lr
 case rd=>
  intro w1 Iall X C0 ag T l1 D ac ad ab k x K;rw[dX] at K;obtain⟨v,Z,rfl⟩:=fc.1 K;have aa:=(cX.1 Z).1;have H:app (r.take k) [v]=some (r.take (k+1)):=by
   unfold app;rw[dI (by simp;omega),List.take_add_one,Z]
   rfl
  refine xH<|Q68 ?_;refine yT<|xH<|q27 O24 ?_;refine jV ((k8 lr G43 rfl rfl rfl rfl).data rfl) ?_;refine q23 S24 ?_;refine yC rfl (z7 (en:=aE) (l:=r.take k) (m:=[v]) lr S24 rfl rfl rfl H (by decide) (by decide) rfl rfl) ?_;refine q92 O24 ?_;refine zJ ?_;exact⟨rfl,rfl,trivial⟩
 case hK=>
  rw[e7,List.take_length];refine Q0 ?_;refine q27 O24 ?_;refine Q11 ?_;refine yB ?_;exact zVV rfl
theorem yDF {f:FuncId} {h:List DV} {r:List Range} (k:zVN Tryz.prog f h (r.map λx=>[aE.dv x])) (D:r.length<=LIM):zC Tryz.prog 189 [.fn f h] [zH aE r]:=by refine co Tryz.func189 ?_;intro _ _ _ _;refine Q53 ?_;refine q6 (z43 k D) ?_;refine z8F ?_;exact zVV rfl
theorem zT7 {H:List bL} {a1:List Int} {r:List Range} (h:zE8 H a1=some r):zC Tryz.prog 155 [(zH aR H),(zH eI a1)] [zH aE r]:=by
 unfold zE8 at h;have ⟨O,D,K⟩:=bE h;clear h;have ⟨T,G,h⟩:=bE K;clear K;unfold yOY at h;split at h
 case isFalse=>cases h
 rename_i k;cases h;refine co Tryz.func155 ?_;intro _ _ _ _;refine Q53 ?_;refine q6 (zKY D) ?_;refine q0 ?_;refine q6 zM6 ?_;refine q6 (yDF (zKZ G) k) ?_;refine z8F ?_;exact zVV rfl
theorem zWE {K r} (h:zIZ K=some r):zC Tryz.prog 195 [(di K)] [(cJ.dv r)]:=by refine co Tryz.func195 ?_;intro _ _ _ _;unfold zIZ at h;refine Q0 ?_;refine yCX ?_;refine zJ<|Q4 ?_;have ⟨_,k,h⟩:=bE h;refine q6 (zK9 k) ?_;refine Q6 ?_;refine zX h (λh=>?_) (λh=>?_);refine Q0 ?_;refine q89 zSC ?_;refine q18 z4H ?_;refine zJ ?_;cases h;refine yB ?_;exact wR rfl rfl z4H rfl;refine zM<|Q2 ?_;refine q34 ?_;refine Q15 ?_;have ⟨_,k,h⟩:=bE h;refine z7T k ?_;have ⟨G,k,h⟩:=bE h;refine z7T k ?_;refine q3 ?_;refine q0 ?_;have ⟨_,k,h⟩:=bE h;refine z7T k ?_;have ⟨H,k,h⟩:=bE h;refine z01 k ?_;refine q3 ?_;refine q89 zSC ?_;refine yCX ?_;refine q18 z4H ?_;refine zJ<|Q4 ?_;have ⟨_,k,h⟩:=bE h;refine z01 k ?_;refine Q59 ?_;have ⟨O,D,h⟩:=bE h;refine tl .normal ⟨[(2,.ptr 2 0),(4,.ptr 4 0)],[(2,.box 219 [.d (di 0),.d (di 0),.d (di 0)]),(4,.box 219 [.d (di (({x0:=wi (4352+G),x1:=wi (4449+H),x2:=0}:bZ).x0)),.d (di (({x0:=wi (4352+G),x1:=wi (4449+H),x2:=0}:bZ).x1)),.d (di O)])]⟩ ?_ ?_;refine zX D (λD=>?_) (λD=>?_);refine Q8 ?_;have ⟨_,k,D⟩:=bE D;refine z01 k ?_;refine q3 ?_;refine q34 ?_;refine q75 zSC ?_;refine z42 ?_;exact eo D;refine zM ?_;exact eo D;refine Q0 ?_;refine jV ((k8 lr z4H rfl rfl rfl rfl).data rfl) ?_;refine q18 z4H ?_;refine zJ ?_;cases h;refine yB ?_;exact wR rfl rfl z4H rfl
theorem zP7 {D r} (h:zCU D=some r):zC Tryz.prog 168 [(di D)] [(zH eI r)]:=by refine co Tryz.func168 ?_;intro _ _ _ _;unfold zCU at h;refine Q53 ?_;have ⟨G,k,h⟩:=bE h;refine q6 (zWE k) ?_;refine yCX ?_;refine q18 z4H ?_;refine zJ ?_;refine zI (zQ (t:=3) lr rfl rfl rfl) ?_;refine yP<|Q66 ?_;refine q12 z4H ?_;refine q89 zSC ?_;refine jV (yJ0 (en:=cJ) (a:=G) (b:=({x0:=0,x1:=0,x2:=0}:bZ)) lr yTT rfl rfl) ?_;refine Q1 ?_;refine zX h (λh=>?_) (λh=>?_);refine Q2 ?_;refine q23 yE ?_;refine Q1 ?_;exact er h;refine Q0 ?_;refine yCZ zSC ?_;refine q7 O3 ?_;refine Q98 ?_;refine zX h (λh=>?_) (λh=>?_);refine Q0 ?_;refine yCZ zSC ?_;refine q7 O3 ?_;refine yCZ zSC ?_;refine q7 O3 ?_;refine q23 yE ?_;refine Q1 ?_;exact er h;refine Q46 ?_;refine yCZ zSC ?_;refine q7 O3 ?_;refine yCZ zSC ?_;refine q7 O3 ?_;refine yCZ zSC ?_;refine q7 O3 ?_;refine q23 yE ?_;refine Q1 ?_;exact er h
theorem zAQ {G:DV} {H:(List aI)} {a1:Int} {a2:aI->Int->Option (Int)} (T:∀x0 x1 y,a2 x0 x1=some y->FnC Tryz.prog G [(aC.dv x0),(di x1)] [(di y)]) {r:Int×Bool} (h:yQ H a1 a2=some r):zC Tryz.prog 169 [(zH aC H),(di a1),G] [(di r.1),(db r.2)]:=by
 refine co Tryz.func169 ?_;intro _ _ _ _;unfold yQ at h;refine Q0 ?_;refine z8D ?_;refine q4 S23 ?_;refine Q15 ?_;refine q1 ?_;refine Q90 ?_;have ⟨y1,k,h⟩:=bE h;refine tl (.exit 0) ⟨[(0,.d (zH aC H)),(1,.d (di a1)),(2,.d G),(8,.d (di (H.length:Int))),(9,.d (di y1))],[]⟩ ?_ ?_;refine zB (λx=>⟨[(0,.d (zH aC H)),(1,.d (di a1)),(2,.d G),(8,.d (di (H.length:Int))),(9,.d (di x.1)),(10,.d (di x.2))],[]⟩) k wc ?_
 rintro⟨v9,ad⟩ ac K
 replace K:z8 H a2 a1 v9 ad=some ac:=K;unfold z8 at K;refine Q75 ?_;refine zX K (λK=>?_) (λK=>?_);refine zM ?_;have ⟨y2,D,K⟩:=bE K;refine tl .normal ⟨[(0,.d (zH aC H)),(1,.d (di a1)),(2,.d G),(8,.d (di (H.length:Int))),(9,.d (di y2.1)),(10,.d (di y2.2))],[]⟩ ?_ ?_;refine z09 ?_;refine z8E ?_;refine Q15 ?_;refine Q12 ?_;have ⟨_,k,D⟩:=bE D;refine u5 S23 k ?_;refine z00 G60 k ?_;refine q0 ?_;have ⟨_,k,D⟩:=bE D;refine yCY (T _ _ _ k) ?_;refine Q6 ?_;refine zX D (λD=>?_) (λD=>?_);refine Q13 ?_;exact eo D;refine Q91 ?_;exact eo D;exact ew K;exact zD (ex K);refine Q2 ?_;refine Q12 ?_;refine q5 ?_;have ⟨_,k,h⟩:=bE h;refine q9 k ?_;refine q15 (.d G) ?_;refine q15 (.d (zH aC H)) ?_;refine q15 (.d (di y1)) ?_;have ⟨Z,O,h⟩:=bE h;refine sqt (.ip (aC.all H) (y1.toNat*aC.size)) rfl (λhb=>by subst hb;exact k6 (en:=aC) lr S23 rfl rfl O) ?_
 refine sqt (.d (aC.dv Z)) rfl (λhb=>by subst hb;exact zAN (en:=aC) (l:=H) (i:=y1) (v:=Z) (off:=0) lr G60 rfl O rfl rfl (by decide)) ?_
 refine q15 (.d (di a1)) ?_;have ⟨aa,Y,h⟩:=bE h;refine sqt (.d (di aa)) rfl (λhb=>by subst hb;exact zKP lr rfl rfl (T _ _ _ Y)) ?_
 refine z0Z (.d (db (decide (aa=0)))) ?_;refine q17 ?_;refine Q51 ?_;cases h;refine yB ?_;exact zHG rfl rfl
theorem zP8 {D a1 r} (h:uD D a1=some r):zC Tryz.prog 170 [(aC.dv D),(di a1)] [(di r)]:=by refine co Tryz.func170 ?_;intro _ _ _ _;unfold uD at h;refine Q33 ?_;refine Q35 ?_;refine z08 ?_;refine q0 ?_;have ⟨_,k,h⟩:=bE h;refine q6 (vM k) ?_;refine Q1 ?_;exact er h
theorem zLW {O a1 a2 r} (h:uW O a1 a2=some r):zC Tryz.prog 127 [(aY.dv O),(di a1),(db a2)] [(zH eI r.1),(db r.2)]:=by
 refine co Tryz.func127 ?_;intro _ _ _ _;unfold uW at h;refine Q33 ?_;refine z74 ?_;have ⟨_,k,h⟩:=bE h;refine q6 (zK9 k) ?_;refine Q86 ?_;refine zX h (λh=>?_) (λh=>?_);refine Q2 ?_;have ⟨_,k,h⟩:=bE h;refine q6 (zP7 k) ?_;refine Q51 ?_;cases h;refine yB ?_;exact zHG rfl rfl;refine Q46 ?_;refine z1B ?_;refine q0 ?_;have ⟨G,k,h⟩:=bE h;refine q6 (zAQ (λ_ _ _ q=> .inr ⟨_,rfl,zP8 q⟩) k) ?_;refine Q83 ?_;refine z74 ?_;refine q28 ?_;have ⟨_,k,h⟩:=bE h;refine q9 k ?_;refine q24 (.ip (aY.cells O) (0+1)) zV6 ?_;refine q26 (.d (zH aC O.aA)) O23 ?_;refine q42 (.d (di G.1)) ?_;have ⟨H,K,h⟩:=bE h;refine sqf (.ip (aC.all O.aA) (G.1.toNat*aC.size)) rfl (λhb=>by subst hb;exact k6 (en:=aC) lr S23 rfl rfl K) ?_
 refine yKU (.ip (aC.all O.aA) (G.1.toNat*aC.size+2)) zFT ?_;refine sqf (.d (ds H.bN)) rfl (λhb=>by subst hb;exact z6 (en:=aC) (l:=O.aA) (i:=G.1) (v:=H) (off:=2) lr O9 rfl K rfl) ?_
 refine sqf (.d (db (!(H.bN== [])))) rfl (λhb=>by subst hb;exact z6R (a:=H.bN) (b:=[]) lr rfl rfl) ?_
 have ⟨D,Y,h⟩:=bE h;refine sqf (.d (db D)) rfl (λhb=>by subst hb;exact(kE lr rfl).bool (oi Y)) ?_
 refine wE (x:= .d (db a2)) rfl rfl rfl lr lr rfl (λhb=>by obtain⟨hb,T⟩:=zR hb;obtain rfl:=gF hb;obtain rfl:D=true:=T;exact kE lr rfl) ?_
 refine wE (x:= .d (db (!a2))) rfl rfl rfl lr lr rfl (λhb=>by obtain⟨hb,T⟩:=zR hb;obtain rfl:=gF hb;obtain rfl:D=true:=T;exact zYV lr rfl) ?_
 refine q96 (.d (db (D&&(!a2)))) ?_;refine Q45 ?_;refine zX h (λh=>?_) (λh=>?_);refine Q0 ?_;refine Q51 ?_;refine zI (zGV (t:=6) eI.size lr rfl) ?_;cases h;refine yB ?_;exact zHG rfl rfl;refine Q46 ?_;refine z1B ?_;refine q0 ?_;have ⟨_,k,h⟩:=bE h;refine u5 S23 k ?_;refine q58 zH9 ?_;refine q99 O37 k ?_;refine Q51 ?_;cases h;refine yB ?_;exact zHG rfl rfl
theorem zNE:∀(n:Nat) {O:Int} {a1:Norm} {a2:(List (Int×Int))} {a3:Bool} {Z:Bool} {r:Int×Bool×Bool×(List (Int×Int))},yH n O a1 a2 a3 Z=some r->GC Tryz.prog 190 [.d (di O),.d (.pt (aY.cells a1)),.ptr 3002 0,.ptr 3003 0,.ptr 3004 0,.ptr 3005 0] [(3002,.box 103 [.row 3140]),(3003,.box 4 [.d (db a3)]),(3004,.box 147 [.clo 190 [.d (.pt (aY.cells a1)),.ptr 3002 0,.ptr 3003 0,.ptr 3004 0,.ptr 3005 0]]),(3005,.box 4 [.d (db Z)]),(3140,.map (wG kI eI a2))] [3002,3003,3004,3005,3140] [.d (di r.1)] [(3002,.box 103 [.row 3140]),(3003,.box 4 [.d (db r.2.1)]),(3004,.box 147 [.clo 190 [.d (.pt (aY.cells a1)),.ptr 3002 0,.ptr 3003 0,.ptr 3004 0,.ptr 3005 0]]),(3005,.box 4 [.d (db r.2.2.1)]),(3140,.map (wG kI eI r.2.2.2))]:=by
 intro n
 induction n with
 | zero=>intro O a1 a2 a3 Z r h;cases h
 | succ n ih=>
 intro O a1 a2 a3 Z r h;replace h:jK (yH n) O a1 a2 a3 Z=some r:=h;generalize yH n=ac at h ih;refine zD1 Tryz.func190 (by kernel_rfl) rfl lr lr λw0 I0 aj p0=>?_;unfold jK at h;refine Q3 ?_;refine Q0 ?_;refine q12 G28 ?_;refine q0 ?_;have ⟨D,ab,h⟩:=bE h;refine q6 (zLW ab) ?_;refine Q83 ?_;refine z74 ?_;refine q28 ?_;have ⟨_,aa,h⟩:=bE h;refine q9 aa ?_;refine q42 (.d (zH eI D.1)) ?_;refine q83 (.d (di (D.1.length:Int))) yE ?_;refine yCQ (.d (db (decide ((D.1.length:Int)=0)))) ?_;refine Q45 ?_;refine zX h (λh=>?_) (λh=>?_);refine Q3 ?_;cases h;refine yB ?_;exact⟨⟨_,_,rfl,rfl,rfl⟩,⟨rfl,rfl,rfl,rfl,rfl,trivial⟩⟩;refine Q74 ?_;refine q27 zFZ ?_;refine q0 ?_;refine jV (zZE (kv:=kI) (ev:=eI) (mp:=a2) (k:=O) (zero:=0) lr zBM K3 rfl rfl rfl (λ_ _=> .v _)) ?_;refine Q83 ?_;refine z8D ?_;refine zJ ?_;refine zX h (λh=>?_) (λh=>?_);refine Q0 ?_;refine q27 O4 ?_;have ⟨_,k,h⟩:=bE h;refine q9 k ?_;refine q42 (.d (di (mgetD a2 O 0))) ?_;refine yCQ (.d (db (decide ((mgetD a2 O 0)=(-1))))) ?_;refine q22 ?_;refine q66 O4 ?_;refine zJ<|Q2 ?_;refine yK6 ?_;refine Q1 ?_;cases h;refine yB ?_;exact⟨⟨_,_,rfl,rfl,rfl⟩,⟨rfl,rfl,rfl,rfl,rfl,trivial⟩⟩;refine Q46 ?_;refine q27 zFZ ?_;refine q0 ?_;refine yCT zBM K3 ?_;refine zJ<|Q43 ?_;refine Q63 ?_;have ⟨Y,k,h⟩:=bE h;refine tl (.exit 0) ⟨[(0,.d (di O)),(2,.ptr 3002 0),(3,.ptr 3003 0),(4,.ptr 3004 0),(5,.ptr 3005 0),(12,.d (di Y.1))],[(3002,.box 103 [.row 3140]),(3003,.box 4 [.d (db Y.2.1)]),(3004,.box 147 [.clo 190 [.d (.pt (aY.cells a1)),.ptr 3002 0,.ptr 3003 0,.ptr 3004 0,.ptr 3005 0]]),(3005,.box 4 [.d (db Y.2.2.1)]),(3140,.map (wG kI eI Y.2.2.2))]⟩ ?_ ?_;refine zB (λx=>⟨[(0,.d (di O)),(2,.ptr 3002 0),(3,.ptr 3003 0),(4,.ptr 3004 0),(5,.ptr 3005 0),(12,.d (di x.1)),(44,.d (zH eI D.1)),(45,.d (di (D.1.length:Int))),(46,.d (di x.2.1))],[(3002,.box 103 [.row 3140]),(3003,.box 4 [.d (db x.2.2.1)]),(3004,.box 147 [.clo 190 [.d (.pt (aY.cells a1)),.ptr 3002 0,.ptr 3003 0,.ptr 3004 0,.ptr 3005 0]]),(3005,.box 4 [.d (db x.2.2.2.1)]),(3140,.map (wG kI eI x.2.2.2.2))]⟩) k wc ?_
 rintro⟨ag,ah,H,K,T⟩ ad G
 replace G:jR D ac a1 ag ah H K T=some ad:=G;unfold jR at G;refine Q18 ?_;refine zX G (λG=>?_) (λG=>?_);refine Q32 ?_;have ⟨_,k,G⟩:=bE G;refine u5 yE k ?_;refine q36 O3 k ?_;refine Q1 ?_;refine Q8 ?_;refine q27 yO5 ?_;refine q0 ?_;have ⟨_,k,G⟩:=bE G;refine yC rfl (z33 [(3002,3002),(3003,3003),(3004,3004),(3005,3005),(3140,3140)] (ih k) lr (by decide) rfl ⟨rfl,rfl,rfl,rfl,rfl,rfl,trivial⟩ rfl rfl ⟨rfl,rfl,rfl,rfl,rfl,trivial⟩ rfl rfl rfl rfl) ?_;refine q3 ?_;refine yGD ?_;refine Q1 ?_;refine Q20 ?_;exact ew G;exact zD (ex G);refine Q0 ?_;refine q27 zFZ ?_;refine Q12 ?_;refine yCT zBM K3 ?_;refine Q54 ?_;refine q27 O4 ?_;have ⟨_,k,h⟩:=bE h;refine q9 k ?_;refine q42 (.d (di Y.1)) ?_;refine q59 (.d (db (decide (64<Y.1)))) ?_;refine q22 ?_;refine q66 O4 ?_;refine zJ<|Q40 ?_;cases h;refine yB ?_;exact⟨⟨_,_,rfl,rfl,rfl⟩,⟨rfl,rfl,rfl,rfl,rfl,trivial⟩⟩
set_option maxHeartbeats 8000000 in
theorem zPB {G r} (h:decompose_measure G=some r):zC Tryz.prog 156 [(aY.dv G)] [(db r.1),(db r.2)]:=by
 refine co Tryz.func156 ?_;intro _ _ _ _;unfold decompose_measure at h;refine Q33 ?_;refine yC rfl (kH (zs:=[(.bool false)]) lr (by kernel_rfl) rfl rfl) ?_;refine yC rfl (kH (zs:=[(.bool false)]) lr (by kernel_rfl) rfl rfl) ?_;refine Q54 ?_;refine z7O ?_;refine yC rfl (kH (zs:=[(.map none)]) lr (by kernel_rfl) rfl rfl) ?_;refine q92 zFZ ?_;refine Q54 ?_;refine yC rfl (kH (zs:=[.nilFunc]) lr (by kernel_rfl) rfl rfl) ?_;refine Q54 ?_;refine jV (zSB (cs:=[.d (.pt (aY.cells G)),.ptr 4 0,.ptr 2 0,.ptr 5 0,.ptr 3 0]) lr ⟨_,_,rfl,rfl,⟨_,_,rfl,rfl,⟨_,_,rfl,rfl,⟨_,_,rfl,rfl,⟨_,_,rfl,rfl,rfl⟩⟩⟩⟩⟩) ?_;refine yC rfl (zN1 yO5 rfl rfl lr rfl rfl rfl rfl) ?_;refine z07 ?_;refine z1B ?_;refine z79 ?_;have ⟨O,k,h⟩:=bE h;refine tl (.exit 0) ⟨[(2,.ptr 2 0),(3,.ptr 3 0)],[(2,.box 4 [.d (db O.1)]),(3,.box 4 [.d (db O.2)])]⟩ ?_ ?_;refine zB (λx=>⟨[(2,.ptr 2 0),(3,.ptr 3 0),(5,.ptr 5 0),(11,.d (zH aC G.aA)),(12,.d (di (G.aA.length:Int))),(13,.d (di x.1))],[(2,.box 4 [.d (db x.2.1)]),(3,.box 4 [.d (db x.2.2.1)]),(4,.box 103 [.row 8]),(5,.box 147 [.clo 190 [.d (.pt (aY.cells G)),.ptr 4 0,.ptr 2 0,.ptr 5 0,.ptr 3 0]]),(8,.map (wG kI eI x.2.2.2))]⟩) k wc ?_
 rintro⟨Y,H,K,Z⟩ T D
 replace D:k9 G Y H K Z=some T:=D;unfold k9 at D;refine Q18 ?_;refine zX D (λD=>?_) (λD=>?_);refine Q32 ?_;have ⟨_,k,D⟩:=bE D;refine u5 S23 k ?_;refine z00 G60 k ?_;refine z8A ?_;refine zI (zQ (t:=7) lr rfl rfl rfl) ?_;refine xH<|q27 yO5 ?_;refine z08 ?_;have ⟨_,k,D⟩:=bE D;refine yC rfl (zUN [(3002,4),(3003,2),(3004,5),(3005,3),(3140,8)] (zNE _ k) lr (by decide) rfl ⟨rfl,rfl,rfl,rfl,rfl,rfl,trivial⟩ rfl rfl ⟨rfl,rfl,rfl,rfl,rfl,trivial⟩ rfl rfl rfl (λ_=>rfl) rfl) ?_;refine zJ<|Q20 ?_;exact ew D;exact zD (ex D);refine yP ?_;refine tl .normal ⟨[(2,.ptr 2 0),(3,.ptr 3 0)],[(2,.box 4 [.d (db O.1)]),(3,.box 4 [.d (db O.2)])]⟩ ?_ ?_;refine zFH MX ?_;refine xn [0,1] ?_;refine q85 O4 ?_ ?_;refine xn [1,2] ?_;refine q85 O4 ?_ ?_;refine xn [2] ?_;refine yC0 O4 ?_;refine xn [3] ?_;refine yC0 O4 ?_;exact ae;refine yC0 O4 ?_;refine xn [1] ?_;refine q41 O4 ?_;refine xn [3] ?_;refine yC0 O4 ?_;exact ae;refine q41 O4 ?_;refine xn [0] ?_;refine q41 O4 ?_;refine xn [2] ?_;refine yC0 O4 ?_;refine xn [3] ?_;refine yC0 O4 ?_;exact ae;cases h;refine yB ?_;exact z63 rfl rfl O4 rfl rfl O4
theorem zK0 {H r} (h:zBT H=some r):zC Tryz.prog 109 [(aY.dv H)] [(di r)]:=by
 refine co Tryz.func109 ?_;intro _ _ _ _;unfold zBT at h;refine Q33 ?_;refine Q48 ?_;refine q2 zAY ?_;refine q7 O22 ?_;have ⟨_,k,h⟩:=bE h;refine q6 (zLV k) ?_;refine Q67 ?_;refine zX h (λh=>?_) (λh=>?_);refine Q40 ?_;exact er h;refine Q74 ?_;refine z1B ?_;have ⟨_,k,h⟩:=bE h;refine q6 (zT6 k) ?_;refine Q67 ?_;refine zX h (λh=>?_) (λh=>?_);refine Q40 ?_;exact er h;refine Q74 ?_;refine q2 yF1 ?_;refine q54 G26 ?_;have ⟨_,k,h⟩:=bE h;refine q6 (zX2 k) ?_;refine Q36 ?_;refine zX h (λh=>?_) (λh=>?_);refine Q3 ?_;exact er h;refine z4Z ?_;have ⟨y1,k,h⟩:=bE h;refine zP y1 (.exit 0) (λy1=>⟨[(1,.d (.pt (aY.cells H)))],[]⟩) .ret (λy1=>⟨[(2,.d (di y1))],[]⟩) ?_ ?_ ?_;refine zB (λx=>⟨[(1,.d (.pt (aY.cells H))),(5,.d (di x))],[]⟩) k wc ?_
 rintro v5 ag O
 replace O:uE H v5=some ag:=O;unfold uE at O;refine Q4 ?_;refine z1B ?_;refine q4 S23 ?_;refine Q6 ?_;refine zX O (λO=>?_) (λO=>?_);refine Q76 ?_;refine zT MX rfl ?_;refine q13 zV6 ?_;refine q19 O23 ?_;refine q8 ?_;have ⟨_,k,O⟩:=bE O;refine q29 S23 k ?_;refine q60 zLQ ?_;refine yGN O3 k ?_;refine q13 zV6 ?_;refine q19 O23 ?_;refine q8 ?_;refine z4R ?_;have ⟨_,k,O⟩:=bE O;refine q29 S23 k ?_;refine q60 zLQ ?_;refine yGN O3 k ?_;refine daa (zMY lr rfl rfl) ?_;refine xI ?_;refine zX O (λO=>?_) (λO=>?_);refine Q23 ?_;cases O;intro q;cases q;exact⟨rfl,wc⟩;refine Q38 ?_;exact ew O;refine zD ?_;cases O;intro q;cases q;exact⟨rfl,wc⟩
 rintro y1 rfl
 replace h:=eL h;refine Q31 ?_;refine z1B ?_;refine z79 ?_;have ⟨y2,k,h⟩:=bE h;refine zP y2 (.exit 2) (λy2=>⟨[(1,.d (.pt (aY.cells H)))],[]⟩) .ret (λy2=>⟨[(2,.d (di y2))],[]⟩) ?_ ?_ ?_;refine zB (λx=>⟨[(1,.d (.pt (aY.cells H))),(51,.d (zH aC H.aA)),(52,.d (di (H.aA.length:Int))),(53,.d (di x))],[]⟩) k wc ?_
 rintro ak ah K
 replace K:uF H ak=some ah:=K;unfold uF at K;refine Q18 ?_;refine zX K (λK=>?_) (λK=>?_);refine Q32 ?_;have ⟨G,k,K⟩:=bE K;refine u5 S23 k ?_;refine z00 G60 k ?_;refine z8A ?_;refine zI (zQ (t:=7) lr rfl rfl rfl) ?_;refine Q0 ?_;refine q2 zFT ?_;refine q7 O9 ?_;refine jV (zP1 (a:=G.bN) (b:=[]) lr rfl rfl) ?_;have ⟨_,k,K⟩:=bE K;refine q9 k ?_;refine q55 (.ip (aC.cells G) (0+1)) zH9 ?_;refine q62 (.d (zH eI G.To)) O37 ?_;refine q98 (.d (di (G.To.length:Int))) yE ?_;refine yGI (.d (db (!decide ((G.To.length:Int)=1)))) ?_;refine q17 ?_;have ⟨_,k,K⟩:=bE K;refine q9 k ?_;refine q55 (.ip (aC.cells G) (0+1)) zH9 ?_;refine q62 (.d (zH eI G.To)) O37 ?_;refine q98 (.d (di (G.To.length:Int))) yE ?_;refine yGI (.d (db (!decide ((G.To.length:Int)=2)))) ?_;refine Q39 ?_;refine zX K (λK=>?_) (λK=>?_);refine Q23 ?_;cases K;intro q;cases q;exact⟨rfl,wc⟩;refine Q41 ?_;exact ew K;refine zD ?_;cases K;intro q;cases q;exact⟨rfl,wc⟩
 rintro y2 rfl
 replace h:=eL h;refine Q3 ?_;refine zI (jZ (t:=8) 1008 3 eI.size lr lr rfl rfl) ?_;refine Q31 ?_;refine z1B ?_;refine z79 ?_;have ⟨Z,k,h⟩:=bE h;refine zP Z (.exit 4) (λZ=>⟨[(1,.d (.pt (aY.cells H))),(8,.row 1008)],[(1008,.row 3 eI.size false (eI.all Z))]⟩) .ret (λZ=>⟨[(2,.d (di Z))],[]⟩) ?_ ?_ ?_;refine zB (λx=>⟨[(1,.d (.pt (aY.cells H))),(8,.row 1008),(74,.d (zH aC H.aA)),(75,.d (di (H.aA.length:Int))),(76,.d (di x.1))],[(1008,.row 3 eI.size false (eI.all x.2))]⟩) k wc ?_
 rintro⟨ad,Y⟩ ai T
 replace T:kC H ad Y=some ai:=T;unfold kC at T;refine Q18 ?_;refine zX T (λT=>?_) (λT=>?_);refine Q5 ?_;have ⟨y4,D,T⟩:=bE T;refine zP y4 .normal (λy4=>⟨[(1,.d (.pt (aY.cells H))),(8,.row 1008),(74,.d (zH aC H.aA)),(75,.d (di (H.aA.length:Int))),(76,.d (di ad))],[(1008,.row 3 eI.size false (eI.all y4))]⟩) .ret (λy4=>⟨[(2,.d (di 11))],[]⟩) ?_ ?_ ?_;refine Q66 ?_;have ⟨aj,k,D⟩:=bE D;refine u5 S23 k ?_;refine z00 G60 k ?_;refine z8A ?_;refine zI (zQ (t:=10) lr rfl rfl rfl) ?_;refine Q31 ?_;refine z08 ?_;have ⟨_,k,D⟩:=bE D;refine q6 (zK9 k) ?_;refine Q37 ?_;refine zX D (λD=>?_) (λD=>?_);refine Q23 ?_;exact ep D;refine Q46 ?_;refine q2 zFT ?_;refine q7 O9 ?_;refine yCS ?_;refine zJ ?_;refine zX D (λD=>?_) (λD=>?_);refine Q26 ?_;refine z08 ?_;refine q23 yE ?_;have ⟨_,k,D⟩:=bE D;refine yC rfl (z7 (en:=eI) (l:=Y) (m:=[aj.aV]) lr yE rfl rfl rfl k (by decide) (by decide) rfl rfl) ?_;refine Q11 ?_;exact ep D;refine zM ?_;exact ep D
 rintro y4 rfl
 replace T:=eL T;refine Q20 ?_;exact ew T
 rintro y4 rfl
 replace T:=eR T;cases T;intro q;cases q;exact⟨rfl,wc⟩;refine zD ?_;cases T;intro q;cases q;exact⟨rfl,wc⟩
 rintro Z rfl
 replace h:=eL h;refine Q31 ?_;refine q2 zAY ?_;refine q7 O22 ?_;refine q10 ?_;have ⟨_,k,h⟩:=bE h;refine yC rfl (yEW lr rfl rfl (zT7 k)) ?_;refine q4 S24 ?_;refine Q59 ?_;refine zX h (λh=>?_) (λh=>?_);refine Q3 ?_;exact er h;refine Q46 ?_;refine q12 G28 ?_;have ⟨_,k,h⟩:=bE h;refine q6 (zPB k) ?_;refine Q83 ?_;refine q1 ?_;refine Q90 ?_;refine Q40 ?_;refine zX h (λh=>?_) (λh=>?_);refine Q3 ?_;exact er h;refine Q40 ?_;refine zX h (λh=>?_) (λh=>?_);refine Q3 ?_;exact er h;refine Q58 ?_;exact er h
 rintro Z rfl
 replace h:=eR h;exact es h
 rintro y2 rfl
 replace h:=eR h;exact es h
 rintro y1 rfl
 replace h:=eR h;exact es h
theorem zDJ {D} {a1} {r:bG} (h:uX D a1=some r):GC Tryz.prog 87 [.ptr 3000 0,.d (aY.dv a1)] [(3000,.box 139 [.d (zH bB D.c.aB),.d (zH aX D.c.aF),.d (di D.c.bJ),.d (di D.c.bA),.d (di D.c.bI),.row 3105,.d (di D.bT),.d (zH aR D.bQ),.d (di D.top)]),(3105,.map (wG zGX (eL aG) D.entries))] [3000,3105] [.ptr 3000 0] [(3000,.box 139 [.d (zH bB r.c.aB),.d (zH aX r.c.aF),.d (di r.c.bJ),.d (di r.c.bA),.d (di r.c.bI),.row 3105,.d (di r.bT),.d (zH aR r.bQ),.d (di r.top)]),(3105,.map (wG zGX (eL aG) r.entries))]:=by
 refine zD1 Tryz.func87 (by kernel_rfl) rfl lr lr λw0 I0 Z p0=>?_;unfold uX at h;refine Q33 ?_;refine Q48 ?_;refine q12 G28 ?_;have ⟨_,k,h⟩:=bE h;refine q6 (zK0 k) ?_;refine Q89 ?_;have ⟨O,G,h⟩:=bE h;refine tl .normal ⟨[(0,.ptr 3000 0)],[(3000,.box 139 [.d (zH bB D.c.aB),.d (zH aX D.c.aF),.d (di D.c.bJ),.d (di D.c.bA),.d (di D.c.bI),.row 3105,.d (di D.bT),.d (zH aR O),.d (di D.top)]),(3105,.map (wG zGX (eL aG) D.entries))]⟩ ?_ ?_;refine zX G (λG=>?_) (λG=>?_);refine xH<|z7Q ?_;refine q2 zAY ?_;refine q7 O22 ?_;refine yK9 ?_;refine q52 zP3 ?_;refine q66 O22 ?_;refine zJ ?_;exact eo G;refine zM ?_;exact eo G;refine Q31 ?_;refine z7Q ?_;refine yK9 ?_;refine q52 zP3 ?_;refine q27 O22 ?_;refine q4 S22 ?_;refine Q24 ?_;have ⟨y2,k,h⟩:=bE h;refine tl (.exit 0) ⟨[(0,.ptr 3000 0)],[(3000,.box 139 [.d (zH bB D.c.aB),.d (zH aX D.c.aF),.d (di D.c.bJ),.d (di D.c.bA),.d (di D.c.bI),.row 3105,.d (di D.bT),.d (zH aR O),.d (di y2)]),(3105,.map (wG zGX (eL aG) D.entries))]⟩ ?_ ?_;refine zB (λx=>⟨[(0,.ptr 3000 0),(18,.d (zH aR O)),(19,.d (di (O.length:Int))),(20,.d (di x.1))],[(3000,.box 139 [.d (zH bB D.c.aB),.d (zH aX D.c.aF),.d (di D.c.bJ),.d (di D.c.bA),.d (di D.c.bI),.row 3105,.d (di D.bT),.d (zH aR O),.d (di x.2)]),(3105,.map (wG zGX (eL aG) D.entries))]⟩) k wc ?_
 rintro⟨Y,H⟩ T K
 replace K:j8 O Y H=some T:=K;unfold j8 at K;refine Q18 ?_;refine zX K (λK=>?_) (λK=>?_);refine Q32 ?_;have ⟨_,k,K⟩:=bE K;refine u5 S22 k ?_;refine yK3 uT k ?_;refine yCX ?_;refine q18 uT ?_;refine zJ ?_;refine zI (zQ (t:=6) lr rfl rfl rfl) ?_;refine zED 10 MX rfl ?_;refine yGF ?_;refine yGF ?_;refine yGG ?_;refine z4Q z7E ?_;refine yK2 O3 ?_;refine q13 zIN ?_;refine q19 O3 ?_;refine daa (z9B lr rfl rfl) ?_;refine yGG ?_;refine z4Q z7E ?_;refine xI<|z42 ?_;refine Q20 ?_;exact ew K;exact zD (ex K);refine Q0 ?_;refine z7Q ?_;refine yGE ?_;refine zJ ?_;cases h;refine yB ?_;exact⟨⟨_,_,rfl,rfl,rfl⟩,⟨rfl,rfl,trivial⟩⟩
theorem zJY {D r} (h:zA7 D=some r):zC Tryz.prog 97 [(aY.dv D)] [(aY.dv r)]:=by refine co Tryz.func97 ?_;intro _ _ _ _;unfold zA7 at h;refine Q33 ?_;refine yLA ?_;refine z07 ?_;refine q12 G28 ?_;have ⟨_,k,h⟩:=bE h;refine q6 (zK0 k) ?_;refine Q37 ?_;refine zX h (λh=>?_) (λh=>?_);refine Q0 ?_;refine jV ((zFG lr B28 rfl rfl).nils (bs:=aY.cells ({aK:=[],aA:=[],aN:=(({Ranges:=[]}):Set)}:Norm)) (nlN (nlN (nlN nl0)))) ?_;refine q18 G28 ?_;refine zJ ?_;cases h;refine yB ?_;exact wR rfl rfl G28 rfl;refine Q46 ?_;refine q12 G28 ?_;refine q18 G28 ?_;refine zJ ?_;cases h;refine yB ?_;exact wR rfl rfl G28 rfl
theorem zGF:∀(n:Nat) {H:Int} {a1:(List (Int×(List Int)))} {a2:Norm} {a3:Bool} {r:(List Int)×(List (Int×(List Int)))},kU n H a1 a2 a3=some r->GC Tryz.prog 126 [.d (di H),.ptr 3001 0,.d (.pt (aY.cells a2)),.d (.pt [(db a3)]),.ptr 3004 0] [(3001,.box 158 [.row 3120]),(3004,.box 126 [.clo 126 [.ptr 3001 0,.d (.pt (aY.cells a2)),.d (.pt [(db a3)]),.ptr 3004 0]]),(3120,.map (wG kI (eL eI) a1))] [3001,3004,3120] [.d (zH eI r.1)] [(3001,.box 158 [.row 3120]),(3004,.box 126 [.clo 126 [.ptr 3001 0,.d (.pt (aY.cells a2)),.d (.pt [(db a3)]),.ptr 3004 0]]),(3120,.map (wG kI (eL eI) r.2))]:=by
 intro n
 induction n with
 | zero=>intro H a1 a2 a3 r h;cases h
 | succ n ih=>
 intro H a1 a2 a3 r h;replace h:vH (kU n) H a1 a2 a3=some r:=h;generalize kU n=T at h ih;refine zD1 Tryz.func126 (by kernel_rfl) rfl lr lr λw0 I0 ad p0=>?_;unfold vH at h;refine Q3 ?_;refine Q31 ?_;refine q27 yO6 ?_;refine q0 ?_;refine jV (zZE (kv:=kI) (ev:=(eL eI)) (mp:=a1) (k:=H) (zero:=[]) lr yRM K3 rfl rfl rfl (λ_ _=> .nil _ _ _)) ?_;refine Q83 ?_;refine z8D ?_;refine zJ ?_;refine zX h (λh=>?_) (λh=>?_);refine Q40 ?_;cases h;refine yB ?_;exact⟨⟨_,_,rfl,rfl,rfl⟩,⟨rfl,rfl,rfl,trivial⟩⟩;refine Q46 ?_;refine q12 G28 ?_;refine q0 ?_;refine q91 O4 ?_;have ⟨O,k,h⟩:=bE h;refine q6 (zLW k) ?_;refine Q83 ?_;refine z74 ?_;refine Q36 ?_;refine zX h (λh=>?_) (λh=>?_);refine Q2 ?_;refine q23 yE ?_;refine Q1 ?_;cases h;refine yB ?_;exact⟨⟨_,_,rfl,rfl,rfl⟩,⟨rfl,rfl,rfl,trivial⟩⟩;refine Q58 ?_;refine zI (jZ (t:=11) 1011 3 eI.size lr lr rfl rfl) ?_;refine Q4 ?_;refine Q63 ?_;have ⟨y1,k,h⟩:=bE h;refine tl (.exit 0) ⟨[(0,.d (di H)),(1,.ptr 3001 0),(4,.ptr 3004 0),(11,.row 1011)],[(1011,.row 3 eI.size false (eI.all y1.1)),(3001,.box 158 [.row 3120]),(3004,.box 126 [.clo 126 [.ptr 3001 0,.d (.pt (aY.cells a2)),.d (.pt [(db a3)]),.ptr 3004 0]]),(3120,.map (wG kI (eL eI) y1.2))]⟩ ?_ ?_;refine zB (λx=>⟨[(0,.d (di H)),(1,.ptr 3001 0),(4,.ptr 3004 0),(11,.row 1011),(33,.d (zH eI O.1)),(34,.d (di (O.1.length:Int))),(35,.d (di x.1))],[(1011,.row 3 eI.size false (eI.all x.2.1)),(3001,.box 158 [.row 3120]),(3004,.box 126 [.clo 126 [.ptr 3001 0,.d (.pt (aY.cells a2)),.d (.pt [(db a3)]),.ptr 3004 0]]),(3120,.map (wG kI (eL eI) x.2.2))]⟩) k wc ?_
 rintro⟨aa,G,K⟩ Y D
 replace D:jL O T a2 a3 aa G K=some Y:=D;unfold jL at D;refine Q18 ?_;refine zX D (λD=>?_) (λD=>?_);refine Q32 ?_;have ⟨_,k,D⟩:=bE D;refine u5 yE k ?_;refine q36 O3 k ?_;refine Q1 ?_;refine Q26 ?_;refine q27 yO4 ?_;refine q0 ?_;have ⟨Z,k,D⟩:=bE D;refine yC rfl (z33 [(3001,3001),(3004,3004),(3120,3120)] (ih k) lr (by decide) rfl ⟨rfl,rfl,rfl,rfl,rfl,trivial⟩ rfl rfl ⟨rfl,rfl,rfl,trivial⟩ rfl rfl rfl rfl) ?_;have ⟨_,k,D⟩:=bE D;refine yC rfl (z7 (en:=eI) (l:=G) (m:=Z.1) lr yE rfl rfl rfl k (by decide) (by decide) rfl rfl) ?_;refine Q11 ?_;refine Q20 ?_;exact ew D;exact zD (ex D);refine Q0 ?_;refine q27 yO6 ?_;refine q0 ?_;refine q10 ?_;refine zEN (zBC (t:=47) lr rfl rfl) ?_ (by simp);refine yCT yRM K3 ?_;refine zJ<|Q52 ?_;refine zI (zBC (t:=6) lr rfl rfl) ?_;cases h;refine yB ?_;exact⟨⟨_,_,rfl,rfl,rfl⟩,⟨rfl,rfl,rfl,trivial⟩⟩
theorem zIB {k} {a1} {r:Unit} (h:zDG k a1=some r):GCA Tryz.prog 98 [.d (aY.dv k),.d (db a1)] [] [] (.clo 126 [.ptr 5 0,.d (.pt (aY.cells k)),.d (.pt [(db a1)]),.ptr 6 0]) [(5,.box 158 [.row 7]),(6,.box 126 [.clo 126 [.ptr 5 0,.d (.pt (aY.cells k)),.d (.pt [(db a1)]),.ptr 6 0]]),(7,.map (wG kI (eL eI) []))]:=by refine yE4 Tryz.func98 (by kernel_rfl) rfl lr lr rfl λw0 G D H=>?_;unfold zDG at h;refine Q33 ?_;refine q70 ?_;refine Q35 ?_;refine z7O ?_;refine yC rfl (kH (zs:=[(.map none)]) lr (by kernel_rfl) rfl rfl) ?_;refine q92 yO6 ?_;refine Q54 ?_;refine yC rfl (kH (zs:=[.nilFunc]) lr (by kernel_rfl) rfl rfl) ?_;refine Q54 ?_;refine jV (zSB (cs:=[.ptr 5 0,.d (.pt (aY.cells k)),.d (.pt [(db a1)]),.ptr 6 0]) lr ⟨_,_,rfl,rfl,⟨_,_,rfl,rfl,⟨_,_,rfl,rfl,⟨_,_,rfl,rfl,rfl⟩⟩⟩⟩) ?_;refine yC rfl (zN1 yO4 rfl rfl lr rfl rfl rfl rfl) ?_;refine Q54 ?_;refine q27 yO4 ?_;refine yGO ?_;refine zJ ?_;cases h;refine yB ?_;exact⟨rfl,⟨rfl,rfl,rfl,trivial⟩⟩
theorem zML {D r:(List Int)} (h:zB3 D=some r):GC Tryz.prog 66 [.d (zH eI D)] [] [] [.row 5] [(5,.row 3 eI.size false (eI.all r))]:=by
 unfold zB3 at h;cases D with
 | nil=>
  refine yFJ (by decide) λB c=>?_;refine zD1 Tryz.func66 (by kernel_rfl) rfl lr lr λw0 H G K=>?_;refine Q43 ?_;refine jV (yB9 lr Tryz.underlying37 rfl) ?_;refine zJ ?_;refine zJH rfl ⟨λk=>?_,λk=>?_⟩;obtain⟨rfl,_⟩:=zQZ h;refine Q3 ?_;refine zI (jZ (t:=2) 5 3 eI.size lr lr rfl rfl) ?_;refine yB ?_;exact⟨⟨_,_,rfl,rfl,rfl⟩,rfl,trivial⟩;refine zM ?_;refine Q0 ?_;refine z7U yE ?_;refine q0 ?_;refine zEN (z0Q (t:=6) eI.size lr rfl) ?_ (by simp);refine yC rfl (z7 (en:=eI) (l:=[]) (m:=[]) lr yE rfl rfl rfl h (by decide) (by decide) rfl rfl) ?_;refine Q11 ?_;refine yB ?_;exact⟨⟨_,_,rfl,rfl,rfl⟩,rfl,trivial⟩
 | cons x l=>
  refine zD1 Tryz.func66 (by kernel_rfl) rfl lr lr λw0 H G K=>?_;refine Q43 ?_;refine jV (yJ6 lr Tryz.underlying37 rfl (yOR (by decide))) ?_;refine zJ ?_;refine zJH rfl ⟨λk=>(by cases k),λk=>?_⟩;refine Q46 ?_;refine z7U yE ?_;refine q0 ?_;refine yC rfl (z7 (en:=eI) (l:=[]) (m:=x::l) lr yE rfl rfl rfl h (by decide) (by decide) rfl rfl) ?_;refine Q11 ?_;refine yB ?_;exact⟨⟨_,_,rfl,rfl,rfl⟩,rfl,trivial⟩
theorem zRE {D a1 a2 r} (h:vT D a1 a2=some r):zC Tryz.prog 131 [(di D),(di a1),(.pt [(zH aR a2)])] [(di r)]:=by refine co Tryz.func131 ?_;intro _ _ _ _;unfold vT at h;refine Q3 ?_;refine yP ?_;refine zT MX rfl ?_;refine yGP O22 ?_;refine q8 ?_;have ⟨_,k,h⟩:=bE h;refine q20 (zHC k) ?_;refine yGP O22 ?_;refine q8 ?_;have ⟨_,k,h⟩:=bE h;refine q20 (zHC k) ?_;have ⟨_,k,h⟩:=bE h;refine q20 (vM k) ?_;refine Q44 ?_;exact er h
set_option maxHeartbeats 8000000 in
theorem zBO {aa:DV} {a0:(List Int)} {a1:Int} {a2:Int} {a3:Int->Int->Option (Int)} (am:∀x0 x1 y,a3 x0 x1=some y->FnC Tryz.prog aa [(di x0),(di x1)] [(di y)]) {r:(List Int)} (h:kV a0 a1 a2 a3=some r):GC Tryz.prog 196 [.row 3000,.d (di a1),.d (di a2),.d aa] [(3000,.win 3 eI.size 0 (eI.all a0))] [3000] [] [(3000,.win 3 eI.size 0 (eI.all r))]:=by
 refine zD1 Tryz.func196 (by kernel_rfl) rfl lr lr λw0 I0 aq p0=>?_;unfold kV at h;refine Q2 ?_;refine Q10 ?_;refine yT ?_;have ⟨y1,k,h⟩:=bE h;refine tl (.exit 0) ⟨[(0,.row 3000)],[(3000,.win 3 eI.size 0 (eI.all y1))]⟩ ?_ ?_;refine zB (λx=>⟨[(0,.row 3000),(1,.d (di a1)),(2,.d (di a2)),(3,.d aa),(8,.d (di x.1))],[(3000,.win 3 eI.size 0 (eI.all x.2))]⟩) k wc ?_
 rintro⟨v8,O⟩ an p1
 replace p1:zZ a2 a1 a3 v8 O=some an:=p1;unfold zZ at p1;refine Q75 ?_;refine zX p1 (λp1=>?_) (λp1=>?_);refine Q9 ?_;refine Q40 ?_;refine yT ?_;have ⟨y2,k,p1⟩:=bE p1;refine tl (.exit 2) ⟨[(0,.row 3000),(1,.d (di a1)),(2,.d (di a2)),(3,.d aa),(8,.d (di v8))],[(3000,.win 3 eI.size 0 (eI.all y2))]⟩ ?_ ?_;refine zB (λx=>⟨[(0,.row 3000),(1,.d (di a1)),(2,.d (di a2)),(3,.d aa),(8,.d (di v8)),(9,.d (di x.1))],[(3000,.win 3 eI.size 0 (eI.all x.2))]⟩) k wc ?_
 rintro⟨v9,O⟩ ao Y
 replace Y:yA a1 a3 v9 O=some ao:=Y;unfold yA at Y;refine yP<|yP ?_;refine zT MX rfl ?_;refine Q25 ?_;refine z7P ?_;have ⟨_,k,Y⟩:=bE Y;refine q47 k ?_;refine q48 (.d aa) ?_;refine yGK (.row 3000) ?_;refine q48 (.d (di v9)) ?_;have ⟨ai,ad,Y⟩:=bE Y;refine dat (.wp 3000 (v9.toNat*eI.size)) rfl (λhb=>by subst hb;exact zHP (en:=eI) (l:=O) lr yE rfl rfl rfl ad) ?_
 refine dat (.d (di ai)) rfl (λhb=>by subst hb;exact zMF (en:=eI) (l:=O) (i:=v9) (v:=ai) lr O3 rfl rfl ad rfl) ?_
 refine yGK (.row 3000) ?_;refine q48 (.d (di v9)) ?_;refine yCU (.d (di (wi (v9-1)))) ?_;have ⟨aj,ag,Y⟩:=bE Y;refine dat (.wp 3000 ((wi (v9-1)).toNat*eI.size)) rfl (λhb=>by subst hb;exact zHP (en:=eI) (l:=O) lr yE rfl rfl rfl ag) ?_
 refine dat (.d (di aj)) rfl (λhb=>by subst hb;exact zMF (en:=eI) (l:=O) (i:=(wi (v9-1))) (v:=aj) lr O3 rfl rfl ag rfl) ?_
 have ⟨ak,ah,Y⟩:=bE Y;refine dat (.d (di ak)) rfl (λhb=>by subst hb;exact zKP lr rfl rfl (am _ _ _ ah)) ?_
 refine dat (.d (db (decide (ak<0)))) rfl (λhb=>by subst hb;exact zQT lr rfl rfl) ?_
 refine Q95 ?_;refine zX Y (λY=>?_) (λY=>?_);refine Q9 ?_;have ⟨_,k,Y⟩:=bE Y;have ⟨_,T,Y⟩:=bE Y;have ⟨_,H,Y⟩:=bE Y;have ⟨_,D,Y⟩:=bE Y;have ⟨_,K,Y⟩:=bE Y;have ⟨Z,G,Y⟩:=bE Y;refine tl .normal ⟨[(0,.row 3000),(1,.d (di a1)),(2,.d (di a2)),(3,.d aa),(8,.d (di v8)),(9,.d (di v9))],[(3000,.win 3 eI.size 0 (eI.all Z))]⟩ ?_ ?_;refine zFH MX ?_;refine z78 ?_;refine xm 2 ?_;refine xm 3 ?_;refine zMH (i:=4) rfl lr rfl rfl rfl rfl rfl rfl ?_;refine xm 5 ?_;refine xm 6 ?_;refine zMH (i:=7) rfl lr rfl rfl rfl rfl rfl rfl ?_;refine xm 10 ?_;refine xm 11 ?_;refine xn [8,12] ?_;refine z4S yE k ?_ ?_;refine xn [9,12] ?_;refine q86 O3 k ?_ ?_;refine xn [12] ?_;refine q21 yE T ?_;refine xn [13] ?_;refine q38 O3 T ?_;refine xn [14] ?_;refine q21 yE H ?_;refine xn [15] ?_;refine q25 O3 H D ?_;refine xn [16] ?_;refine q21 yE K ?_;refine xn [17] ?_;refine q25 O3 K G ?_;exact ae;refine q21 yE T ?_;refine xn [9,13] ?_;refine q86 O3 k ?_ ?_;refine xn [13] ?_;refine q38 O3 T ?_;refine xn [14] ?_;refine q21 yE H ?_;refine xn [15] ?_;refine q25 O3 H D ?_;refine xn [16] ?_;refine q21 yE K ?_;refine xn [17] ?_;refine q25 O3 K G ?_;exact ae;refine q38 O3 T ?_;refine xn [9] ?_;refine q38 O3 k ?_;refine xn [14] ?_;refine q21 yE H ?_;refine xn [15] ?_;refine q25 O3 H D ?_;refine xn [16] ?_;refine q21 yE K ?_;refine xn [17] ?_;refine q25 O3 K G ?_;exact ae;refine q21 yE T ?_;refine xn [8,13] ?_;refine z4S yE k ?_ ?_;refine xn [9,13] ?_;refine q86 O3 k ?_ ?_;refine xn [13] ?_;refine q38 O3 T ?_;refine xn [14] ?_;refine q21 yE H ?_;refine xn [15] ?_;refine q25 O3 H D ?_;refine xn [16] ?_;refine q21 yE K ?_;refine xn [17] ?_;refine q25 O3 K G ?_;exact ae;refine q38 O3 T ?_;refine xn [9] ?_;refine q38 O3 k ?_;refine xn [14] ?_;refine q21 yE H ?_;refine xn [15] ?_;refine q25 O3 H D ?_;refine xn [16] ?_;refine q21 yE K ?_;refine xn [17] ?_;refine q25 O3 K G ?_;exact ae;refine q38 O3 T ?_;refine xn [8] ?_;refine q21 yE k ?_;refine xn [9] ?_;refine q38 O3 k ?_;refine xn [14] ?_;refine q21 yE H ?_;refine xn [15] ?_;refine q25 O3 H D ?_;refine xn [16] ?_;refine q21 yE K ?_;refine xn [17] ?_;refine q25 O3 K G ?_;exact ae;refine Q8 ?_;refine Q77 ?_;exact ew Y;exact zD (ex Y);refine Q13 ?_;exact ew p1;exact zD (ex p1);cases h;exact⟨rfl,⟨rfl,trivial⟩⟩
set_option maxHeartbeats 8000000 in
theorem u3 {aa:DV} {a0:(List Int)} {a1:Int} {a2:Int} {a3:Int} {a4:Int->Int->Option (Int)} (ai:∀x0 x1 y,a4 x0 x1=some y->FnC Tryz.prog aa [(di x0),(di x1)] [(di y)]) {r:(List Int)} (h:kY a0 a1 a2 a3 a4=some r):GC Tryz.prog 216 [.row 3000,.d (di a1),.d (di a2),.d (di a3),.d aa] [(3000,.win 3 eI.size 0 (eI.all a0))] [3000] [] [(3000,.win 3 eI.size 0 (eI.all r))]:=by
 refine zD1 Tryz.func216 (by kernel_rfl) rfl lr lr λw0 I0 ah p0=>?_;unfold kY at h;refine Q22 ?_;have ⟨y1,k,h⟩:=bE h;refine tl (.exit 0) ⟨[(0,.row 3000)],[(3000,.win 3 eI.size 0 (eI.all y1))]⟩ ?_ ?_;refine zB (λx=>⟨[(0,.row 3000),(1,.d (di a1)),(2,.d (di a2)),(3,.d (di a3)),(10,.d (di x.1))],[(3000,.win 3 eI.size 0 (eI.all x.2))]⟩) k wc ?_
 rintro⟨ab,Z⟩ ac T
 replace T:kF a3 a2 a1 ab Z=some ac:=T;unfold kF at T;refine Q75 ?_;refine zX T (λT=>?_) (λT=>?_);refine Q9 ?_;have ⟨_,k,T⟩:=bE T;have ⟨_,O,T⟩:=bE T;have ⟨_,H,T⟩:=bE T;have ⟨_,D,T⟩:=bE T;have ⟨_,K,T⟩:=bE T;have ⟨Y,G,T⟩:=bE T;refine tl .normal ⟨[(0,.row 3000),(1,.d (di a1)),(2,.d (di a2)),(3,.d (di a3)),(10,.d (di ab))],[(3000,.win 3 eI.size 0 (eI.all Y))]⟩ ?_ ?_;refine zFH MX ?_;refine z78 ?_;refine xm 2 ?_;refine zOT (i:=3) rfl lr rfl rfl rfl rfl rfl rfl ?_;refine xm 4 ?_;refine xm 5 ?_;refine xm 6 ?_;refine zOT (i:=7) rfl lr rfl rfl rfl rfl rfl rfl ?_;refine xm 8 ?_;refine xm 9 ?_;refine xm 10 ?_;refine zOT (i:=11) rfl lr rfl rfl rfl rfl rfl rfl ?_;refine xm 14 ?_;refine xm 15 ?_;refine xm 16 ?_;refine zOT (i:=17) rfl lr rfl rfl rfl rfl rfl rfl ?_;refine xn [12,18] ?_;refine z4S yE k ?_ ?_;refine xn [13,18] ?_;refine q86 O3 k ?_ ?_;refine xn [18] ?_;refine q21 yE O ?_;refine xn [19] ?_;refine q38 O3 O ?_;refine xn [20] ?_;refine q21 yE H ?_;refine xn [21] ?_;refine q25 O3 H D ?_;refine xn [22] ?_;refine q21 yE K ?_;refine xn [23] ?_;refine q25 O3 K G ?_;exact ae;refine q21 yE O ?_;refine xn [13,19] ?_;refine q86 O3 k ?_ ?_;refine xn [19] ?_;refine q38 O3 O ?_;refine xn [20] ?_;refine q21 yE H ?_;refine xn [21] ?_;refine q25 O3 H D ?_;refine xn [22] ?_;refine q21 yE K ?_;refine xn [23] ?_;refine q25 O3 K G ?_;exact ae;refine q38 O3 O ?_;refine xn [13] ?_;refine q38 O3 k ?_;refine xn [20] ?_;refine q21 yE H ?_;refine xn [21] ?_;refine q25 O3 H D ?_;refine xn [22] ?_;refine q21 yE K ?_;refine xn [23] ?_;refine q25 O3 K G ?_;exact ae;refine q21 yE O ?_;refine xn [12,19] ?_;refine z4S yE k ?_ ?_;refine xn [13,19] ?_;refine q86 O3 k ?_ ?_;refine xn [19] ?_;refine q38 O3 O ?_;refine xn [20] ?_;refine q21 yE H ?_;refine xn [21] ?_;refine q25 O3 H D ?_;refine xn [22] ?_;refine q21 yE K ?_;refine xn [23] ?_;refine q25 O3 K G ?_;exact ae;refine q38 O3 O ?_;refine xn [13] ?_;refine q38 O3 k ?_;refine xn [20] ?_;refine q21 yE H ?_;refine xn [21] ?_;refine q25 O3 H D ?_;refine xn [22] ?_;refine q21 yE K ?_;refine xn [23] ?_;refine q25 O3 K G ?_;exact ae;refine q38 O3 O ?_;refine xn [12] ?_;refine q21 yE k ?_;refine xn [13] ?_;refine q38 O3 k ?_;refine xn [20] ?_;refine q21 yE H ?_;refine xn [21] ?_;refine q25 O3 H D ?_;refine xn [22] ?_;refine q21 yE K ?_;refine xn [23] ?_;refine q25 O3 K G ?_;exact ae;refine Q13 ?_;exact ew T;exact zD (ex T);cases h;exact⟨rfl,⟨rfl,trivial⟩⟩
theorem zJZ {G:DV} {a0:(List Int)} {a1:Int} {a2:Int} {a3:Int} {T:Int->Int->Option (Int)} (K:∀x0 x1 y,T x0 x1=some y->FnC Tryz.prog G [(di x0),(di x1)] [(di y)]) {r:(List Int)} (h:xQ a0 a1 a2 a3 T=some r):GC Tryz.prog 211 [.row 3000,.d (di a1),.d (di a2),.d (di a3),.d G] [(3000,.win 3 eI.size 0 (eI.all a0))] [3000] [] [(3000,.win 3 eI.size 0 (eI.all r))]:=by
 refine zD1 Tryz.func211 (by kernel_rfl) rfl lr lr λw0 I0 ag p0=>?_;unfold xQ at h;refine Q27 ?_;refine q34 ?_;refine Q69 ?_;refine q34 ?_;refine Q90 ?_;have ⟨y1,k,h⟩:=bE h;refine tl (.exit 0) ⟨[(0,.row 3000),(2,.d (di a2)),(4,.d G),(10,.d (di y1.1))],[(3000,.win 3 eI.size 0 (eI.all y1.2))]⟩ ?_ ?_;refine zB (λx=>⟨[(0,.row 3000),(2,.d (di a2)),(4,.d G),(10,.d (di x.1)),(11,.d (di x.2.1))],[(3000,.win 3 eI.size 0 (eI.all x.2.2))]⟩) k wc ?_
 rintro⟨Z,aa,O⟩ Y H
 replace H:yV a2 T Z aa O=some Y:=H;unfold yV at H;refine Q14 ?_;refine Q37 ?_;refine zX H (λH=>?_) (λH=>?_);refine zM ?_;have ⟨y2,D,H⟩:=bE H;refine tl .normal ⟨[(0,.row 3000),(2,.d (di a2)),(4,.d G),(10,.d (di y2.1)),(11,.d (di y2.2.1))],[(3000,.win 3 eI.size 0 (eI.all y2.2.2))]⟩ ?_ ?_;refine z09 ?_;refine Q59 ?_;refine zX D (λD=>?_) (λD=>?_);refine zXT ?_;refine q34 ?_;refine Q62 ?_;have ⟨_,k,D⟩:=bE D;refine yC rfl (zEO [(3000,3000)] (u3 K k) lr (by decide) ⟨rfl,rfl,rfl,rfl,rfl,trivial⟩ rfl rfl ⟨rfl,trivial⟩ rfl rfl rfl rfl) ?_;refine zJ<|Q84 ?_;refine Q77 ?_;exact eo D;refine zXT ?_;refine q34 ?_;refine Q12 ?_;refine q3 ?_;refine q0 ?_;refine q34 ?_;refine Q12 ?_;have ⟨_,k,D⟩:=bE D;refine yC rfl (zEO [(3000,3000)] (u3 K k) lr (by decide) ⟨rfl,rfl,rfl,rfl,rfl,trivial⟩ rfl rfl ⟨rfl,trivial⟩ rfl rfl rfl rfl) ?_;refine zJ<|Q84 ?_;refine Q77 ?_;exact eo D;exact ew H;exact zD (ex H);refine Q71 ?_;refine q34 ?_;refine Q62 ?_;have ⟨_,k,h⟩:=bE h;refine yC rfl (zEO [(3000,3000)] (u3 K k) lr (by decide) ⟨rfl,rfl,rfl,rfl,rfl,trivial⟩ rfl rfl ⟨rfl,trivial⟩ rfl rfl rfl rfl) ?_;refine zJ ?_;cases h;exact⟨rfl,⟨rfl,trivial⟩⟩
set_option maxHeartbeats 8000000 in
theorem zDQ:∀(n:Nat) {ab:DV} {a0:(List Int)} {a1:Int} {a2:Int} {a3:Int} {a4:Int->Int->Option (Int)} (ap:∀x0 x1 y,a4 x0 x1=some y->FnC Tryz.prog ab [(di x0),(di x1)] [(di y)]) {r:(List Int)} (h:kR n a0 a1 a2 a3 a4=some r),GC Tryz.prog 197 [.row 3000,.d (di a1),.d (di a2),.d (di a3),.d ab] [(3000,.win 3 eI.size 0 (eI.all a0))] [3000] [] [(3000,.win 3 eI.size 0 (eI.all r))]:=by
 intro n
 induction n with
 | zero=>intro ab a0 a1 a2 a3 a4 ap r h;cases h
 | succ n ih=>
 intro ab a0 a1 a2 a3 a4 ap r h;replace h:yS (kR n) a0 a1 a2 a3 a4=some r:=h;generalize kR n=bz at h ih;refine zD1 Tryz.func197 (by kernel_rfl) rfl lr lr λw0 I0 bx p0=>?_;unfold yS at h;refine Q14 ?_;refine q34 ?_;refine Q89 ?_;refine zX h (λh=>?_) (λh=>?_);refine Q2 ?_;refine Q15 ?_;refine Q90 ?_;have ⟨y1,k,h⟩:=bE h;refine tl (.exit 0) ⟨[(0,.row 3000),(1,.d (di a1)),(10,.d (di y1))],[(3000,.win 3 eI.size 0 (eI.all a0))]⟩ ?_ ?_;refine zB (λx=>⟨[(0,.row 3000),(1,.d (di a1)),(4,.d ab),(10,.d (di x.1)),(11,.d (di x.2))],[(3000,.win 3 eI.size 0 (eI.all a0))]⟩) k wc ?_
 rintro⟨bk,bl⟩ bf p1
 replace p1:kL a0 a1 a4 bk bl=some bf:=p1;unfold kL at p1;refine Q75 ?_;refine zX p1 (λp1=>?_) (λp1=>?_);refine zM ?_;have ⟨y2,ah,p1⟩:=bE p1;refine tl .normal ⟨[(0,.row 3000),(1,.d (di a1)),(4,.d ab),(10,.d (di y2.1)),(11,.d (di y2.2))],[(3000,.win 3 eI.size 0 (eI.all a0))]⟩ ?_ ?_;refine z09 ?_;refine z8E ?_;refine Q16 ?_;refine zT MX rfl ?_;refine q8 ?_;refine Q97 ?_;have ⟨_,k,ah⟩:=bE ah;refine yC1 yE k ?_;refine yC2 O3 k ?_;refine Q97 ?_;have ⟨_,k,ah⟩:=bE ah;refine yC1 yE k ?_;refine yC2 O3 k ?_;have ⟨_,k,ah⟩:=bE ah;refine daa (zKP lr rfl rfl (ap _ _ _ k)) ?_;refine z7L ?_;refine xI ?_;refine zX ah (λah=>?_) (λah=>?_);refine Q13 ?_;exact eo ah;refine Q91 ?_;exact eo ah;exact ew p1;exact zD (ex p1);refine Q4 ?_;refine Q1 ?_;refine yT ?_;have ⟨y3,k,h⟩:=bE h;refine tl (.exit 2) ⟨[(0,.row 3000)],[(3000,.win 3 eI.size 0 (eI.all y3))]⟩ ?_ ?_;refine zB (λx=>⟨[(0,.row 3000),(10,.d (di y1)),(13,.d (di x.1))],[(3000,.win 3 eI.size 0 (eI.all x.2))]⟩) k wc ?_
 rintro⟨ba,aq⟩ bg p3
 replace p3:kM y1 ba aq=some bg:=p3;unfold kM at p3;refine Q14 ?_;refine q34 ?_;refine Q6 ?_;refine zX p3 (λp3=>?_) (λp3=>?_);refine Q9 ?_;have ⟨_,k,p3⟩:=bE p3;have ⟨_,ac,p3⟩:=bE p3;have ⟨_,Z,p3⟩:=bE p3;have ⟨_,D,p3⟩:=bE p3;have ⟨_,aa,p3⟩:=bE p3;have ⟨am,G,p3⟩:=bE p3;refine tl .normal ⟨[(0,.row 3000),(10,.d (di y1)),(13,.d (di ba))],[(3000,.win 3 eI.size 0 (eI.all am))]⟩ ?_ ?_;refine zFH MX ?_;refine z78 ?_;refine xm 2 ?_;refine xm 3 ?_;refine zOT (i:=4) rfl lr rfl rfl rfl rfl rfl rfl ?_;refine xm 5 ?_;refine xm 6 ?_;refine zOT (i:=7) rfl lr rfl rfl rfl rfl rfl rfl ?_;refine xm 10 ?_;refine xm 11 ?_;refine xn [8,12] ?_;refine z4S yE k ?_ ?_;refine xn [9,12] ?_;refine q86 O3 k ?_ ?_;refine xn [12] ?_;refine q21 yE ac ?_;refine xn [13] ?_;refine q38 O3 ac ?_;refine xn [14] ?_;refine q21 yE Z ?_;refine xn [15] ?_;refine q25 O3 Z D ?_;refine xn [16] ?_;refine q21 yE aa ?_;refine xn [17] ?_;refine q25 O3 aa G ?_;exact ae;refine q21 yE ac ?_;refine xn [9,13] ?_;refine q86 O3 k ?_ ?_;refine xn [13] ?_;refine q38 O3 ac ?_;refine xn [14] ?_;refine q21 yE Z ?_;refine xn [15] ?_;refine q25 O3 Z D ?_;refine xn [16] ?_;refine q21 yE aa ?_;refine xn [17] ?_;refine q25 O3 aa G ?_;exact ae;refine q38 O3 ac ?_;refine xn [9] ?_;refine q38 O3 k ?_;refine xn [14] ?_;refine q21 yE Z ?_;refine xn [15] ?_;refine q25 O3 Z D ?_;refine xn [16] ?_;refine q21 yE aa ?_;refine xn [17] ?_;refine q25 O3 aa G ?_;exact ae;refine q21 yE ac ?_;refine xn [8,13] ?_;refine z4S yE k ?_ ?_;refine xn [9,13] ?_;refine q86 O3 k ?_ ?_;refine xn [13] ?_;refine q38 O3 ac ?_;refine xn [14] ?_;refine q21 yE Z ?_;refine xn [15] ?_;refine q25 O3 Z D ?_;refine xn [16] ?_;refine q21 yE aa ?_;refine xn [17] ?_;refine q25 O3 aa G ?_;exact ae;refine q38 O3 ac ?_;refine xn [9] ?_;refine q38 O3 k ?_;refine xn [14] ?_;refine q21 yE Z ?_;refine xn [15] ?_;refine q25 O3 Z D ?_;refine xn [16] ?_;refine q21 yE aa ?_;refine xn [17] ?_;refine q25 O3 aa G ?_;exact ae;refine q38 O3 ac ?_;refine xn [8] ?_;refine q21 yE k ?_;refine xn [9] ?_;refine q38 O3 k ?_;refine xn [14] ?_;refine q21 yE Z ?_;refine xn [15] ?_;refine q25 O3 Z D ?_;refine xn [16] ?_;refine q21 yE aa ?_;refine xn [17] ?_;refine q25 O3 aa G ?_;exact ae;refine Q13 ?_;exact ew p3;exact zD (ex p3);cases h;refine yB ?_;exact⟨rfl,⟨rfl,trivial⟩⟩;refine zM<|Q14 ?_;refine q34 ?_;refine Q89 ?_;refine zX h (λh=>?_) (λh=>?_);refine Q2 ?_;refine Q15 ?_;refine Q90 ?_;have ⟨y4,k,h⟩:=bE h;refine tl (.exit 4) ⟨[(0,.row 3000),(2,.d (di a2)),(14,.d (di y4))],[(3000,.win 3 eI.size 0 (eI.all a0))]⟩ ?_ ?_;refine zB (λx=>⟨[(0,.row 3000),(2,.d (di a2)),(4,.d ab),(14,.d (di x.1)),(15,.d (di x.2))],[(3000,.win 3 eI.size 0 (eI.all a0))]⟩) k wc ?_
 rintro⟨bm,bn⟩ bh p4
 replace p4:kN a0 a2 a4 bm bn=some bh:=p4;unfold kN at p4;refine Q75 ?_;refine zX p4 (λp4=>?_) (λp4=>?_);refine zM ?_;have ⟨y5,ai,p4⟩:=bE p4;refine tl .normal ⟨[(0,.row 3000),(2,.d (di a2)),(4,.d ab),(14,.d (di y5.1)),(15,.d (di y5.2))],[(3000,.win 3 eI.size 0 (eI.all a0))]⟩ ?_ ?_;refine z09 ?_;refine z8E ?_;refine Q16 ?_;refine zT MX rfl ?_;refine q8 ?_;refine Q97 ?_;have ⟨_,k,ai⟩:=bE ai;refine yC1 yE k ?_;refine yC2 O3 k ?_;refine Q97 ?_;have ⟨_,k,ai⟩:=bE ai;refine yC1 yE k ?_;refine yC2 O3 k ?_;have ⟨_,k,ai⟩:=bE ai;refine daa (zKP lr rfl rfl (ap _ _ _ k)) ?_;refine z7L ?_;refine yGQ ?_;refine xI ?_;refine zX ai (λai=>?_) (λai=>?_);refine Q13 ?_;exact eo ai;refine Q91 ?_;exact eo ai;exact ew p4;exact zD (ex p4);refine Q4 ?_;refine Q1 ?_;refine yT ?_;have ⟨y6,k,h⟩:=bE h;refine tl (.exit 6) ⟨[(0,.row 3000)],[(3000,.win 3 eI.size 0 (eI.all y6))]⟩ ?_ ?_;refine zB (λx=>⟨[(0,.row 3000),(14,.d (di y4)),(17,.d (di x.1))],[(3000,.win 3 eI.size 0 (eI.all x.2))]⟩) k wc ?_
 rintro⟨bb,aq⟩ bi p6
 replace p6:kO y4 bb aq=some bi:=p6;unfold kO at p6;refine Q14 ?_;refine Q59 ?_;refine zX p6 (λp6=>?_) (λp6=>?_);refine Q9 ?_;have ⟨_,k,p6⟩:=bE p6;have ⟨_,Y,p6⟩:=bE p6;have ⟨_,O,p6⟩:=bE p6;have ⟨_,H,p6⟩:=bE p6;have ⟨_,T,p6⟩:=bE p6;have ⟨an,K,p6⟩:=bE p6;refine tl .normal ⟨[(0,.row 3000),(14,.d (di y4)),(17,.d (di bb))],[(3000,.win 3 eI.size 0 (eI.all an))]⟩ ?_ ?_;refine zFH MX ?_;refine z78 ?_;refine xm 2 ?_;refine xm 3 ?_;refine zMH (i:=4) rfl lr rfl rfl rfl rfl rfl rfl ?_;refine xm 5 ?_;refine xm 6 ?_;refine zMH (i:=7) rfl lr rfl rfl rfl rfl rfl rfl ?_;refine xm 10 ?_;refine xm 11 ?_;refine xn [8,12] ?_;refine z4S yE k ?_ ?_;refine xn [9,12] ?_;refine q86 O3 k ?_ ?_;refine xn [12] ?_;refine q21 yE Y ?_;refine xn [13] ?_;refine q38 O3 Y ?_;refine xn [14] ?_;refine q21 yE O ?_;refine xn [15] ?_;refine q25 O3 O H ?_;refine xn [16] ?_;refine q21 yE T ?_;refine xn [17] ?_;refine q25 O3 T K ?_;exact ae;refine q21 yE Y ?_;refine xn [9,13] ?_;refine q86 O3 k ?_ ?_;refine xn [13] ?_;refine q38 O3 Y ?_;refine xn [14] ?_;refine q21 yE O ?_;refine xn [15] ?_;refine q25 O3 O H ?_;refine xn [16] ?_;refine q21 yE T ?_;refine xn [17] ?_;refine q25 O3 T K ?_;exact ae;refine q38 O3 Y ?_;refine xn [9] ?_;refine q38 O3 k ?_;refine xn [14] ?_;refine q21 yE O ?_;refine xn [15] ?_;refine q25 O3 O H ?_;refine xn [16] ?_;refine q21 yE T ?_;refine xn [17] ?_;refine q25 O3 T K ?_;exact ae;refine q21 yE Y ?_;refine xn [8,13] ?_;refine z4S yE k ?_ ?_;refine xn [9,13] ?_;refine q86 O3 k ?_ ?_;refine xn [13] ?_;refine q38 O3 Y ?_;refine xn [14] ?_;refine q21 yE O ?_;refine xn [15] ?_;refine q25 O3 O H ?_;refine xn [16] ?_;refine q21 yE T ?_;refine xn [17] ?_;refine q25 O3 T K ?_;exact ae;refine q38 O3 Y ?_;refine xn [9] ?_;refine q38 O3 k ?_;refine xn [14] ?_;refine q21 yE O ?_;refine xn [15] ?_;refine q25 O3 O H ?_;refine xn [16] ?_;refine q21 yE T ?_;refine xn [17] ?_;refine q25 O3 T K ?_;exact ae;refine q38 O3 Y ?_;refine xn [8] ?_;refine q21 yE k ?_;refine xn [9] ?_;refine q38 O3 k ?_;refine xn [14] ?_;refine q21 yE O ?_;refine xn [15] ?_;refine q25 O3 O H ?_;refine xn [16] ?_;refine q21 yE T ?_;refine xn [17] ?_;refine q25 O3 T K ?_;exact ae;refine Q8 ?_;refine Q77 ?_;exact ew p6;exact zD (ex p6);cases h;refine yB ?_;exact⟨rfl,⟨rfl,trivial⟩⟩;refine zM<|Q27 ?_;refine z8E ?_;refine Q69 ?_;refine Q10 ?_;refine Q0 ?_;refine Q51 ?_;refine Q14 ?_;refine Q59 ?_;have ⟨y7,ar,h⟩:=bE h;refine tl .normal ⟨[(0,.row 3000),(1,.d (di a1)),(2,.d (di a2)),(3,.d (di a3)),(4,.d ab),(18,.d (di (wi ((wu (wi (a1+a3)))/2 ^ 1)))),(19,.d (di (wi ((wi ((wu (wi (a1+a3)))/2 ^ 1))+a2)))),(20,.d (di y7.1)),(21,.d (di y7.2))],[(3000,.win 3 eI.size 0 (eI.all a0))]⟩ ?_ ?_;refine zX ar (λar=>?_) (λar=>?_);refine Q27 ?_;refine Q77 ?_;refine Q91 ?_;exact eo ar;refine Q40 ?_;refine Q91 ?_;exact eo ar;refine Q2 ?_;refine q34 ?_;refine Q90 ?_;have ⟨y8,k,h⟩:=bE h;refine tl (.exit 8) ⟨[(0,.row 3000),(1,.d (di a1)),(2,.d (di a2)),(3,.d (di a3)),(4,.d ab),(18,.d (di (wi ((wu (wi (a1+a3)))/2 ^ 1)))),(19,.d (di (wi ((wi ((wu (wi (a1+a3)))/2 ^ 1))+a2)))),(20,.d (di y8))],[(3000,.win 3 eI.size 0 (eI.all a0))]⟩ ?_ ?_;refine zB (λx=>⟨[(0,.row 3000),(1,.d (di a1)),(2,.d (di a2)),(3,.d (di a3)),(4,.d ab),(18,.d (di (wi ((wu (wi (a1+a3)))/2 ^ 1)))),(19,.d (di (wi ((wi ((wu (wi (a1+a3)))/2 ^ 1))+a2)))),(20,.d (di x.1)),(21,.d (di x.2)),(22,.d (di (wi ((wi ((wi ((wu (wi (a1+a3)))/2 ^ 1))+a2))-1))))],[(3000,.win 3 eI.size 0 (eI.all a0))]⟩) k wc ?_
 rintro⟨bo,bp⟩ bj p8
 replace p8:kP a0 a1 a3 a2 a4 bo bp=some bj:=p8;unfold kP at p8;refine Q75 ?_;refine zX p8 (λp8=>?_) (λp8=>?_);refine zM ?_;have ⟨y9,aj,p8⟩:=bE p8;refine tl .normal ⟨[(0,.row 3000),(1,.d (di a1)),(2,.d (di a2)),(3,.d (di a3)),(4,.d ab),(18,.d (di (wi ((wu (wi (a1+a3)))/2 ^ 1)))),(19,.d (di (wi ((wi ((wu (wi (a1+a3)))/2 ^ 1))+a2)))),(20,.d (di y9.1)),(21,.d (di y9.2)),(22,.d (di (wi ((wi ((wi ((wu (wi (a1+a3)))/2 ^ 1))+a2))-1))))],[(3000,.win 3 eI.size 0 (eI.all a0))]⟩ ?_ ?_;refine z09 ?_;refine z8E ?_;refine Q16 ?_;refine zT MX rfl ?_;refine q8 ?_;refine q74 ?_;refine Q25 ?_;refine z4R ?_;have ⟨_,k,aj⟩:=bE aj;refine yC1 yE k ?_;refine yC2 O3 k ?_;refine Q97 ?_;have ⟨_,k,aj⟩:=bE aj;refine yC1 yE k ?_;refine yC2 O3 k ?_;have ⟨_,k,aj⟩:=bE aj;refine daa (zKP lr rfl rfl (ap _ _ _ k)) ?_;refine z7L ?_;refine yGQ ?_;refine xI ?_;refine zX aj (λaj=>?_) (λaj=>?_);refine Q13 ?_;exact eo aj;refine Q91 ?_;exact eo aj;exact ew p8;exact zD (ex p8);refine Q27 ?_;refine Q77 ?_;refine Q14 ?_;refine q5 ?_;have ⟨_,k,h⟩:=bE h;refine q9 k ?_;refine q15 (.d (di a2)) ?_;refine q15 (.d (di (wi ((wi ((wi ((wu (wi (a1+a3)))/2 ^ 1))+a2))-y8)))) ?_;refine q82 (.d (db (decide (a2<(wi ((wi ((wi ((wu (wi (a1+a3)))/2 ^ 1))+a2))-y8)))))) ?_;refine Q39 ?_;have ⟨bq,ad,h⟩:=bE h;refine tl .normal ⟨[(0,.row 3000),(1,.d (di a1)),(3,.d (di a3)),(4,.d ab),(18,.d (di (wi ((wu (wi (a1+a3)))/2 ^ 1)))),(20,.d (di y8)),(24,.d (di (wi ((wi ((wi ((wu (wi (a1+a3)))/2 ^ 1))+a2))-y8))))],[(3000,.win 3 eI.size 0 (eI.all bq))]⟩ ?_ ?_;refine zX ad (λad=>?_) (λad=>?_);refine Q71 ?_;refine Q12 ?_;have ⟨_,k,ad⟩:=bE ad;refine yC rfl (zEO [(3000,3000)] (zJZ ap k) lr (by decide) ⟨rfl,rfl,rfl,rfl,rfl,trivial⟩ rfl rfl ⟨rfl,trivial⟩ rfl rfl rfl rfl) ?_;refine zJ ?_;exact eo ad;refine zM ?_;exact eo ad;refine Q14 ?_;refine q5 ?_;have ⟨_,k,h⟩:=bE h;refine q9 k ?_;refine q15 (.d (di y8)) ?_;refine q15 (.d (di (wi ((wu (wi (a1+a3)))/2 ^ 1)))) ?_;refine q82 (.d (db (decide (y8<(wi ((wu (wi (a1+a3)))/2 ^ 1)))))) ?_;refine Q39 ?_;have ⟨br,ag,h⟩:=bE h;refine tl .normal ⟨[(0,.row 3000),(3,.d (di a3)),(4,.d ab),(18,.d (di (wi ((wu (wi (a1+a3)))/2 ^ 1)))),(24,.d (di (wi ((wi ((wi ((wu (wi (a1+a3)))/2 ^ 1))+a2))-y8))))],[(3000,.win 3 eI.size 0 (eI.all br))]⟩ ?_ ?_;refine zX ag (λag=>?_) (λag=>?_);refine Q71 ?_;refine Q12 ?_;have ⟨_,k,ag⟩:=bE ag;refine yC rfl (zEO [(3000,3000)] (ih ap k) lr (by decide) ⟨rfl,rfl,rfl,rfl,rfl,trivial⟩ rfl rfl ⟨rfl,trivial⟩ rfl rfl rfl rfl) ?_;refine zJ ?_;exact eo ag;refine zM ?_;exact eo ag;refine Q27 ?_;refine q5 ?_;have ⟨_,k,h⟩:=bE h;refine q9 k ?_;refine q15 (.d (di (wi ((wi ((wi ((wu (wi (a1+a3)))/2 ^ 1))+a2))-y8)))) ?_;refine q15 (.d (di a3)) ?_;refine q82 (.d (db (decide ((wi ((wi ((wi ((wu (wi (a1+a3)))/2 ^ 1))+a2))-y8))<a3)))) ?_;refine Q39 ?_;refine zX h (λh=>?_) (λh=>?_);refine Q71 ?_;refine Q12 ?_;have ⟨_,k,h⟩:=bE h;refine yC rfl (zEO [(3000,3000)] (ih ap k) lr (by decide) ⟨rfl,rfl,rfl,rfl,rfl,trivial⟩ rfl rfl ⟨rfl,trivial⟩ rfl rfl rfl rfl) ?_;refine zJ ?_;cases h;exact⟨rfl,⟨rfl,trivial⟩⟩;refine zM ?_;cases h;exact⟨rfl,⟨rfl,trivial⟩⟩
theorem zJ0 {G:DV} {a0:(List Int)} {a1:Int} {a2:Int->Int->Option (Int)} (Y:∀x0 x1 y,a2 x0 x1=some y->FnC Tryz.prog G [(di x0),(di x1)] [(di y)]) {r:(List Int)} (h:uL a0 a1 a2=some r):GC Tryz.prog 172 [.row 3000,.d (di a1),.d G] [(3000,.win 3 eI.size 0 (eI.all a0))] [3000] [] [(3000,.win 3 eI.size 0 (eI.all r))]:=by
 refine zD1 Tryz.func172 (by kernel_rfl) rfl lr lr λw0 I0 ak p0=>?_;unfold uL at h;refine Q53 ?_;refine q1 ?_;refine Q90 ?_;have ⟨y1,k,h⟩:=bE h;refine tl (.exit 0) ⟨[(0,.row 3000),(1,.d (di a1)),(2,.d G),(6,.d (di 20)),(7,.d (di y1.1))],[(3000,.win 3 eI.size 0 (eI.all y1.2))]⟩ ?_ ?_;refine zB (λx=>⟨[(0,.row 3000),(1,.d (di a1)),(2,.d G),(6,.d (di 20)),(7,.d (di x.1)),(8,.d (di x.2.1))],[(3000,.win 3 eI.size 0 (eI.all x.2.2))]⟩) k wc ?_
 rintro⟨v7,v8,D⟩ aa O
 replace O:yL a1 a2 v7 v8 D=some aa:=O;unfold yL at O;refine Q14 ?_;refine z72 ?_;refine zX O (λO=>?_) (λO=>?_);refine zM<|yT<|z8B ?_;have ⟨_,k,O⟩:=bE O;refine yC rfl (zEO [(3000,3000)] (zBO Y k) lr (by decide) ⟨rfl,rfl,rfl,rfl,trivial⟩ rfl rfl ⟨rfl,trivial⟩ rfl rfl rfl rfl) ?_;refine zJ<|Q40 ?_;refine Q84 ?_;refine Q10 ?_;exact ew O;exact zD (ex O);refine z8B ?_;have ⟨_,k,h⟩:=bE h;refine yC rfl (zEO [(3000,3000)] (zBO Y k) lr (by decide) ⟨rfl,rfl,rfl,rfl,trivial⟩ rfl rfl ⟨rfl,trivial⟩ rfl rfl rfl rfl) ?_;refine zJ<|yT ?_;have ⟨y2,k,h⟩:=bE h;refine tl (.exit 2) ⟨[(0,.row 3000)],[(3000,.win 3 eI.size 0 (eI.all y2))]⟩ ?_ ?_;refine zB (λx=>⟨[(0,.row 3000),(1,.d (di a1)),(2,.d G),(6,.d (di x.1))],[(3000,.win 3 eI.size 0 (eI.all x.2))]⟩) k wc ?_
 rintro⟨Z,D⟩ ab K
 replace K:yW a1 a2 Z D=some ab:=K;unfold yW at K;refine Q75 ?_;refine zX K (λK=>?_) (λK=>?_);refine zM<|Q65 ?_;refine jV (yE6 lr rfl rfl) ?_;refine q1 ?_;refine Q90 ?_;have ⟨y3,k,K⟩:=bE K;refine tl (.exit 4) ⟨[(0,.row 3000),(1,.d (di a1)),(2,.d G),(6,.d (di Z)),(7,.d (di y3.1))],[(3000,.win 3 eI.size 0 (eI.all y3.2))]⟩ ?_ ?_;refine zB (λx=>⟨[(0,.row 3000),(1,.d (di a1)),(2,.d G),(6,.d (di Z)),(7,.d (di x.1)),(8,.d (di x.2.1))],[(3000,.win 3 eI.size 0 (eI.all x.2.2))]⟩) k wc ?_
 rintro⟨v7,v8,D⟩ ac T
 replace T:yN a1 Z a2 v7 v8 D=some ac:=T;unfold yN at T;refine Q14 ?_;refine z72 ?_;refine zX T (λT=>?_) (λT=>?_);refine zM<|yT<|z8B ?_;refine q3 ?_;refine Q12 ?_;have ⟨_,k,T⟩:=bE T;refine yC rfl (zEO [(3000,3000)] (zDQ _ Y k) lr (by decide) ⟨rfl,rfl,rfl,rfl,rfl,trivial⟩ rfl rfl ⟨rfl,trivial⟩ rfl rfl rfl rfl) ?_;refine zJ<|Q40 ?_;refine Q84 ?_;refine jV (yE6 lr rfl rfl) ?_;refine Q10 ?_;exact ew T;exact zD (ex T);refine Q14 ?_;refine Q10 ?_;refine Q27 ?_;refine Q6 ?_;have ⟨y4,H,K⟩:=bE K;refine tl .normal ⟨[(0,.row 3000),(1,.d (di a1)),(2,.d G),(6,.d (di Z))],[(3000,.win 3 eI.size 0 (eI.all y4))]⟩ ?_ ?_;refine zX H (λH=>?_) (λH=>?_);refine Q71 ?_;refine Q12 ?_;have ⟨_,k,H⟩:=bE H;refine yC rfl (zEO [(3000,3000)] (zDQ _ Y k) lr (by decide) ⟨rfl,rfl,rfl,rfl,rfl,trivial⟩ rfl rfl ⟨rfl,trivial⟩ rfl rfl rfl rfl) ?_;refine zJ ?_;exact eo H;refine zM ?_;exact eo H;refine Q8 ?_;refine jV (yE6 lr rfl rfl) ?_;refine Q1 ?_;exact ew K;exact zD (ex K);cases h;exact⟨rfl,⟨rfl,trivial⟩⟩
theorem zGO {D:DV} {H:(List Int)} {a1:Int->Int->Option (Int)} (G:∀x0 x1 y,a1 x0 x1=some y->FnC Tryz.prog D [(di x0),(di x1)] [(di y)]) {r:(List Int)} (h:jA H a1=some r):GC Tryz.prog 130 [.row 3000,.d D] [(3000,.win 3 eI.size 0 (eI.all H))] [3000] [] [(3000,.win 3 eI.size 0 (eI.all r))]:=by refine zD1 Tryz.func130 (by kernel_rfl) rfl lr lr λw0 O K T=>?_;unfold jA at h;refine Q26 ?_;refine q10 ?_;refine yLB yE ?_;refine q0 ?_;have ⟨_,k,h⟩:=bE h;refine yC rfl (zEO [(3000,3000)] (zJ0 G k) lr (by decide) ⟨rfl,rfl,rfl,trivial⟩ rfl rfl ⟨rfl,trivial⟩ rfl rfl rfl rfl) ?_;refine zJ ?_;cases h;exact⟨rfl,⟨rfl,trivial⟩⟩
theorem zM7 {a0:List bL} {a1 r:List Int} (h:zCD a0 a1=some r):GC Tryz.prog 99 [.d (zH aR a0),.d (zH eI a1)] [] [] [.row 100] [(100,.row 3 eI.size false (eI.all r))]:=by
 unfold zCD at h;have ⟨t8,Y,G⟩:=bE h;clear h;have ⟨Z,K,h⟩:=bE G;clear G;have ⟨am,O,G⟩:=bE h;clear h;refine zD1 Tryz.func99 (by kernel_rfl) rfl lr lr λw0 I0 ag p0=>?_;refine Q0 ?_;refine yC rfl (z9C lr rfl rfl rfl) ?_;refine Q35 ?_;refine q27 O22 ?_;refine q6 (zKY Y) ?_;refine q66 O22 ?_;refine zJ ?_;refine zI (zQ (t:=2) lr rfl rfl rfl) ?_;refine Q2 ?_;refine yC rfl (zCL [(5,100)] (zML K) lr (by decide) ⟨rfl,trivial⟩ rfl rfl trivial rfl rfl rfl (λ_=>rfl) rfl) ?_;refine z7S ?_;refine q92 O37 ?_;refine z07 ?_;refine q91 O22 ?_;refine q0 ?_;refine q6 zM6 ?_;refine zJ<|yT ?_;refine zY4 [(5,.ptr 5 0),(2,.d (.pt [zH aR t8])),(4,.d (.v (.slice none 0 0)))] [5] (λk=>[(5,.box 37 [.row 100]),(100,.row 3 eI.size false (eI.all (outK (λp=>jA p (λx0 x1=>vT x0 x1 t8)) Range.Lo Range.Hi Z (xZ (λc=>jE t8 c==some 0) a1 0 (-1)) k)))]) rfl (zKZ O) rfl (λ_ _ _ _ h=>h) ?hk ?hT rfl (λ_=>rfl) ?hbx (λ_ _=>rfl) ?hl ?hpn ?rd ?hK
 case hk=>exact⟨rfl,rfl,rfl,trivial⟩
 case hT=>exact⟨rfl,rfl,trivial⟩
 case hbx=>intro k id hi;simp at hi;subst hi;exact λ(h:Blk.box _ _=Blk.none)=>by cases h
 case hl=>intro x T;obtain⟨y,_,rfl⟩:=eK.1 T;rfl
 case hpn=>intro p hp;simp at hp;subst hp;exact lr
 case rd=>
  intro w1 Iall X C0 an ac l1 D ak al ai k x T;rw[dX] at T;obtain⟨v,hv,rfl⟩:=fc.1 T;have H:=yCE G hv;obtain⟨q0,q1,q2⟩:=yFQ H;refine xH<|Q68 ?_;refine yT<|xH<|q27 O37 ?_;refine q52 zN4 ?_;refine q27 O3 ?_;refine q52 zKV ?_;refine q27 O3 ?_;refine jV (z34 (en:=eI) lr yE rfl rfl rfl rfl q0 q1 q2) ?_;refine yK8 ?_;refine yC rfl (yOT (en:=eI) lr rfl rfl rfl H yS8 (λm m' hm=>zGO (λ_ _ _ q=> .inl ⟨_,_,rfl,zRE q⟩) hm) rfl) ?_;refine zJ ?_;exact⟨rfl,rfl,trivial⟩
 case hK=>
  rw[e7,yFP G];refine Q0 ?_;refine q27 O37 ?_;refine Q11 ?_;refine yB ?_;exact⟨⟨_,_,rfl,rfl,rfl⟩,rfl,trivial⟩
theorem zSL {Z a1 a2 r} (h:vI Z a1 a2=some r):zC Tryz.prog 70 [(aY.dv Z),(zH eI a1),(db a2)] [(zH eI r)]:=by
 refine co Tryz.func70 ?_;intro _ _ _ _;unfold vI at h;refine Q0 ?_;refine z8G ?_;refine jV ((k8 lr G28 rfl rfl rfl rfl).data rfl) ?_;have ⟨D,k,h⟩:=bE h;refine q6 (zJY k) ?_;refine q18 G28 ?_;refine Q54 ?_;refine jV ((k8 lr G28 rfl rfl rfl rfl).data rfl) ?_;refine q0 ?_;have ⟨_,k,h⟩:=bE h;refine yC rfl (z0S [(5,2515),(6,3015),(7,3515)] (zIB k) lr (by decide) ⟨rfl,rfl,trivial⟩ rfl rfl trivial rfl rfl rfl (λ_=>rfl) rfl) ?_;refine yGO ?_;refine zJ<|Q3 ?_;refine zI (jZ (t:=8) 1008 3 eI.size lr lr rfl rfl) ?_;refine Q4 ?_;refine Q63 ?_;have ⟨y1,k,h⟩:=bE h;refine tl (.exit 0) ⟨[(3,.ptr 3 0),(8,.row 1008)],[(3,.box 28 [.d (zH aR D.aK),.d (zH aC D.aA),.d (zH aE D.aN.Ranges)]),(1008,.row 3 eI.size false (eI.all y1))]⟩ ?_ ?_;refine zB (λx=>⟨[(3,.ptr 3 0),(7,.clo 126 [.ptr 2515 0,.d (.pt (aY.cells ({aK:=D.aK,aA:=D.aA,aN:=({Ranges:=D.aN.Ranges}:Set)}:Norm))),.d (.pt [(db a2)]),.ptr 3015 0]),(8,.row 1008),(16,.d (zH eI a1)),(17,.d (di (a1.length:Int))),(18,.d (di x.1))],[(3,.box 28 [.d (zH aR D.aK),.d (zH aC D.aA),.d (zH aE D.aN.Ranges)]),(1008,.row 3 eI.size false (eI.all x.2.1)),(2515,.box 158 [.row 3515]),(3015,.box 126 [.clo 126 [.ptr 2515 0,.d (.pt (aY.cells ({aK:=D.aK,aA:=D.aA,aN:=({Ranges:=D.aN.Ranges}:Set)}:Norm))),.d (.pt [(db a2)]),.ptr 3015 0]]),(3515,.map (wG kI (eL eI) x.2.2))]⟩) k wc ?_
 rintro⟨Y,H,K⟩ O G
 replace G:xW a1 D a2 Y H K=some O:=G;unfold xW at G;refine Q18 ?_;refine zX G (λG=>?_) (λG=>?_);refine Q32 ?_;have ⟨_,k,G⟩:=bE G;refine u5 yE k ?_;refine q36 O3 k ?_;refine Q1 ?_;refine Q26 ?_;refine jV (zFN lr rfl) ?_;refine q0 ?_;have ⟨T,k,G⟩:=bE G;refine yC rfl (zUN [(3001,2515),(3004,3015),(3120,3515)] (zGF _ k) lr (by decide) rfl ⟨rfl,rfl,rfl,rfl,rfl,trivial⟩ rfl rfl ⟨rfl,rfl,rfl,trivial⟩ rfl rfl rfl (λ_=>rfl) rfl) ?_;have ⟨_,k,G⟩:=bE G;refine yC rfl (z7 (en:=eI) (l:=H) (m:=T.1) lr yE rfl rfl rfl k (by decide) (by decide) rfl rfl) ?_;refine Q11 ?_;refine Q20 ?_;exact ew G;exact zD (ex G);refine Q0 ?_;refine q52 zAY ?_;refine q27 O22 ?_;refine q10 ?_;refine zEN (zBC (t:=30) lr rfl rfl) ?_ (by simp);have ⟨_,k,h⟩:=bE h;refine yC rfl (zCL [(100,2531)] (zM7 k) lr (by decide) ⟨rfl,rfl,trivial⟩ rfl rfl trivial rfl rfl rfl (λ_=>rfl) rfl) ?_;refine Q11 ?_;exact er h
theorem zSM {Z} {a1} {a2} {r:(List Int)} (h:vI Z a1 a2=some r):GC Tryz.prog 70 [.d (aY.dv Z),.d (zH eI a1),.d (db a2)] [] [] [.row 2531] [(2531,.row 3 eI.size false (eI.all r))]:=by
 refine zD1 Tryz.func70 (by kernel_rfl) rfl lr lr λw0 I0 aa p0=>?_;unfold vI at h;refine Q0 ?_;refine z8G ?_;refine jV ((k8 lr G28 rfl rfl rfl rfl).data rfl) ?_;have ⟨D,k,h⟩:=bE h;refine q6 (zJY k) ?_;refine q18 G28 ?_;refine Q54 ?_;refine jV ((k8 lr G28 rfl rfl rfl rfl).data rfl) ?_;refine q0 ?_;have ⟨_,k,h⟩:=bE h;refine yC rfl (z0S [(5,2515),(6,3015),(7,3515)] (zIB k) lr (by decide) ⟨rfl,rfl,trivial⟩ rfl rfl trivial rfl rfl rfl (λ_=>rfl) rfl) ?_;refine yGO ?_;refine zJ<|Q3 ?_;refine zI (jZ (t:=8) 1008 3 eI.size lr lr rfl rfl) ?_;refine Q4 ?_;refine Q63 ?_;have ⟨y1,k,h⟩:=bE h;refine tl (.exit 0) ⟨[(3,.ptr 3 0),(8,.row 1008)],[(3,.box 28 [.d (zH aR D.aK),.d (zH aC D.aA),.d (zH aE D.aN.Ranges)]),(1008,.row 3 eI.size false (eI.all y1))]⟩ ?_ ?_;refine zB (λx=>⟨[(3,.ptr 3 0),(7,.clo 126 [.ptr 2515 0,.d (.pt (aY.cells ({aK:=D.aK,aA:=D.aA,aN:=({Ranges:=D.aN.Ranges}:Set)}:Norm))),.d (.pt [(db a2)]),.ptr 3015 0]),(8,.row 1008),(16,.d (zH eI a1)),(17,.d (di (a1.length:Int))),(18,.d (di x.1))],[(3,.box 28 [.d (zH aR D.aK),.d (zH aC D.aA),.d (zH aE D.aN.Ranges)]),(1008,.row 3 eI.size false (eI.all x.2.1)),(2515,.box 158 [.row 3515]),(3015,.box 126 [.clo 126 [.ptr 2515 0,.d (.pt (aY.cells ({aK:=D.aK,aA:=D.aA,aN:=({Ranges:=D.aN.Ranges}:Set)}:Norm))),.d (.pt [(db a2)]),.ptr 3015 0]]),(3515,.map (wG kI (eL eI) x.2.2))]⟩) k wc ?_
 rintro⟨Y,H,K⟩ O G
 replace G:xW a1 D a2 Y H K=some O:=G;unfold xW at G;refine Q18 ?_;refine zX G (λG=>?_) (λG=>?_);refine Q32 ?_;have ⟨_,k,G⟩:=bE G;refine u5 yE k ?_;refine q36 O3 k ?_;refine Q1 ?_;refine Q26 ?_;refine jV (zFN lr rfl) ?_;refine q0 ?_;have ⟨T,k,G⟩:=bE G;refine yC rfl (zUN [(3001,2515),(3004,3015),(3120,3515)] (zGF _ k) lr (by decide) rfl ⟨rfl,rfl,rfl,rfl,rfl,trivial⟩ rfl rfl ⟨rfl,rfl,rfl,trivial⟩ rfl rfl rfl (λ_=>rfl) rfl) ?_;have ⟨_,k,G⟩:=bE G;refine yC rfl (z7 (en:=eI) (l:=H) (m:=T.1) lr yE rfl rfl rfl k (by decide) (by decide) rfl rfl) ?_;refine Q11 ?_;refine Q20 ?_;exact ew G;exact zD (ex G);refine Q0 ?_;refine q52 zAY ?_;refine q27 O22 ?_;refine q10 ?_;refine zEN (zBC (t:=30) lr rfl rfl) ?_ (by simp);have ⟨_,k,h⟩:=bE h;refine yC rfl (zCL [(100,2531)] (zM7 k) lr (by decide) ⟨rfl,rfl,trivial⟩ rfl rfl trivial rfl rfl rfl (λ_=>rfl) rfl) ?_;refine Q11 ?_;cases h;refine yB ?_;exact⟨⟨_,_,rfl,rfl,rfl⟩,⟨rfl,trivial⟩⟩
theorem zDK {D a1 r} (h:xB D a1=some r):zC Tryz.prog 110 [(.pt (a8.cells D)),(zH eI a1)] [(zH aG r.1),(db r.2)]:=by
 refine co Tryz.func110 ?_;intro _ _ _ _;unfold xB at h;refine Q0 ?_;refine z74 ?_;refine q4 yE ?_;refine q40 ?_;have ⟨_,G,h⟩:=bE h;refine q9 G ?_;refine q42 (.d (zH eI a1)) ?_;refine q83 (.d (di (a1.length:Int))) yE ?_;refine q42 (.d (.pt (a8.cells D))) ?_;refine sqf (.d (.pt (a8.cells D))) rfl (λhb=>by subst hb;exact zHO lr rfl) ?_
 refine q24 (.ip (a8.cells D) (0+6)) z0X ?_;refine q26 (.d (di D.bT)) O3 ?_;refine q59 (.d (db (decide (D.bT<(a1.length:Int))))) ?_;refine Q45 ?_;refine zX h (λh=>?_) (λh=>?_);refine Q0 ?_;refine Q51 ?_;refine zI (zGV (t:=4) aG.size lr rfl) ?_;cases h;refine yB ?_;exact zHG rfl rfl;refine Q5 ?_;refine zT MX rfl ?_;refine z1C ?_;refine q13 yF0 ?_;refine q19 yRP ?_;refine q8 ?_;have ⟨K,H,h⟩:=bE h;refine q20 (zKX H) ?_;refine daa (z6W (kv:=zGX) (ev:=(eL aG)) (mp:=D.entries) (k:=K) (zero:=[]) lr yRL yRR rfl rfl (yJ3 rfl) (λ_ _=> .nil _ _ _)) ?_;refine daa (zL9 lr rfl) ?_;refine yC3 ?_;refine yC3 ?_;refine q37 ?_;refine Q44 ?_;refine Q27 ?_;refine Q51 ?_;cases h;refine yB ?_;exact zHG rfl rfl
theorem zJ1 {D a1 r} (h:xR D a1=some r):zC Tryz.prog 111 [(.pt (a8.cells D)),(di a1)] [(zH aG r)]:=by refine co Tryz.func111 ?_;intro _ _ _ _;unfold xR at h;refine Q43 ?_;have ⟨_,k,h⟩:=bE h;refine q6 (zD4 k) ?_;refine Q36 ?_;refine zX h (λh=>?_) (λh=>?_);refine Q3 ?_;refine zI (zGV (t:=4) aG.size lr rfl) ?_;exact er h;refine Q5 ?_;refine zT MX rfl ?_;refine z1C ?_;refine q13 z7D ?_;refine q60 zPO ?_;refine q19 O3 ?_;refine q8 ?_;have ⟨_,k,h⟩:=bE h;refine daa (yM9 lr rfl rfl k) ?_;refine z4T ?_;refine z1C ?_;refine q13 z7D ?_;refine q60 z9R ?_;refine q19 O3 ?_;refine z1C ?_;refine q13 z7D ?_;refine q60 z9S ?_;refine q19 O3 ?_;refine daa (zFG lr B82 rfl rfl) ?_;refine q8 ?_;have ⟨_,k,h⟩:=bE h;refine daa (yNA lr rfl rfl k) ?_;refine z4T ?_;refine daa (zFG lr B82 rfl rfl) ?_;refine yGJ S79 ?_;refine Q44 ?_;exact er h
theorem zKI {D a1 a2 r} (h:w7 D a1 a2=some r):zC Tryz.prog 159 [(di D),(.pt [(.pt (a8.cells a1))]),(.pt [(di a2)])] [(db r)]:=by refine co Tryz.func159 ?_;intro _ _ _ _;unfold w7 at h;refine Q3 ?_;refine yP ?_;refine zT MX rfl ?_;refine yGP yF3 ?_;refine q81 ?_;refine q13 zP3 ?_;refine q19 O22 ?_;refine q8 ?_;have ⟨G,k,h⟩:=bE h;refine q29 S22 k ?_;refine q60 zHA ?_;refine daa (z6 (en:=aR) (l:=a1.bQ) (i:=D) (v:=G) (off:=1) lr O3 rfl k rfl) ?_;refine yGP O3 ?_;refine daa (zNO lr rfl rfl) ?_;refine Q44 ?_;exact er h
theorem zX3 {H:DV} {T:Int} {a1:Int->Option (Bool)} (K:∀x0 y,a1 x0=some y->FnC Tryz.prog H [(di x0)] [(db y)]) {r:Int} (h:zKT T a1=some r):zC Tryz.prog 158 [(di T),H] [(di r)]:=by
 refine co Tryz.func158 ?_;intro _ _ _ _;unfold zKT at h;refine Q53 ?_;refine q1 ?_;refine Q90 ?_;have ⟨y1,k,h⟩:=bE h;refine tl (.exit 0) ⟨[(5,.d (di y1))],[]⟩ ?_ ?_;refine zB (λx=>⟨[(1,.d H),(5,.d (di x.1)),(6,.d (di x.2))],[]⟩) k wc ?_
 rintro⟨Z,v6⟩ O G
 replace G:zCV a1 Z v6=some O:=G;unfold zCV at G;refine Q75 ?_;refine zX G (λG=>?_) (λG=>?_);refine zM ?_;have ⟨Y,D,G⟩:=bE G;refine tl .normal ⟨[(1,.d H),(5,.d (di Y.1)),(6,.d (di Y.2))],[]⟩ ?_ ?_;refine z09 ?_;refine z8E ?_;refine Q69 ?_;have ⟨_,k,D⟩:=bE D;refine yCY (K _ _ k) ?_;refine Q36 ?_;refine zX D (λD=>?_) (λD=>?_);refine Q13 ?_;exact eo D;refine Q91 ?_;exact eo D;exact ew G;exact zD (ex G);refine Q40 ?_;exact er h
theorem zLX {G a1 r} (h:vW G a1=some r):zC Tryz.prog 112 [(.pt (a8.cells G)),(di a1)] [(di r)]:=by
 refine co Tryz.func112 ?_;intro _ _ _ _;unfold vW at h;refine Q94 ?_;refine q70 ?_;refine Q35 ?_;refine q91 yF3 ?_;refine yGR ?_;refine q2 zP3 ?_;refine q7 O22 ?_;refine q4 S22 ?_;refine yK8 ?_;have ⟨D,k,h⟩:=bE h;refine q6 (zX3 (λ_ _ q=> .inl ⟨_,_,rfl,zKI q⟩) k) ?_;refine Q16 ?_;refine yP ?_;refine zT MX rfl ?_;refine q8 ?_;refine yGP yF3 ?_;refine q81 ?_;refine q13 zP3 ?_;refine q19 O22 ?_;refine yGB S22 ?_;refine z7L ?_;have ⟨_,k,h⟩:=bE h;refine q47 k ?_;refine dat (.d (.pt (a8.cells G))) rfl (λhb=>by subst hb;exact zOO lr yF3 rfl) ?_
 refine dat (.d (.pt (a8.cells G))) rfl (λhb=>by subst hb;exact zHO lr rfl) ?_
 refine z4N (.ip (a8.cells G) (0+7)) zP3 ?_;refine z4O (.d (zH aR G.bQ)) O22 ?_;refine q48 (.d (di D)) ?_;have ⟨K,H,h⟩:=bE h;refine dat (.ip (aR.all G.bQ) (D.toNat*aR.size)) rfl (λhb=>by subst hb;exact k6 (en:=aR) lr S22 rfl rfl H) ?_
 refine z4P (.ip (aR.all G.bQ) (D.toNat*aR.size+0)) zG9 ?_;refine dat (.d (di K.Lo)) rfl (λhb=>by subst hb;exact z6 (en:=aR) (l:=G.bQ) (i:=D) (v:=K) (off:=0) lr O3 rfl H rfl) ?_
 refine dat (.d (di a1)) rfl (λhb=>by subst hb;exact zOO lr O3 rfl) ?_
 refine dat (.d (db (decide (K.Lo<=a1)))) rfl (λhb=>by subst hb;exact zLH lr rfl rfl) ?_
 refine Q95 ?_;refine zX h (λh=>?_) (λh=>?_);refine Q0 ?_;refine q91 yF3 ?_;refine yGR ?_;refine q2 zP3 ?_;refine q7 O22 ?_;refine q0 ?_;have ⟨O,k,h⟩:=bE h;refine u5 S22 k ?_;refine q58 zIN ?_;refine jV (z6 (en:=aR) (l:=G.bQ) (i:=D) (v:=O) (off:=2) lr O3 rfl k rfl) ?_;refine Q1 ?_;exact er h;refine Q58 ?_;exact er h
end Go.Proofs.YtjnpmmedmedokaaGreatDoor.Walk


/- Each function of the program answers as its plain counterpart does, where that answers. Conditions: none. -/
import Derived.Test.YtjnpmmedmedokaaGreatDoorMir
import Derived.Test.YtjnpmmedmedokaaGreatDoorLa3
import Derived.Test.YtjnpmmedmedokaaGreatDoorProg
import Derived.Test.YtjnpmmedmedokaaGreatDoorLa4
import Derived.Test.YtjnpmmedmedokaaGreatDoorSh1
import Derived.Shelf.Sort.Plain
import Derived.Shelf.Slices.In.SortNone
import Derived.Shelf.Slices.CompactI
import Derived.Shelf.Spec.SlicesGrow
set_option linter.unusedSimpArgs false
set_option linter.unusedVariables false
set_option linter.unnecessarySimpa false
namespace Go.Proofs.YtjnpmmedmedokaaGreatDoor.Walk
open Go.AV Go.M Go.RowKit Go.Proofs
theorem zXE:ArTy Tryz.prog 122 4 1 37 [(.slice none 0 0),(.slice none 0 0),(.slice none 0 0),(.slice none 0 0)]:=ArTy.of Tryz.underlying122 (by kernel_rfl) (by decide) (by kernel_rfl) rfl
theorem zLI:ArTy Tryz.prog 125 4 1 3 [(.int IntKind.i64 (0)),(.int IntKind.i64 (0)),(.int IntKind.i64 (0)),(.int IntKind.i64 (0))]:=ArTy.of Tryz.underlying125 (by kernel_rfl) (by decide) (by kernel_rfl) rfl
theorem yJ5:ArTy Tryz.prog 141 9 1 3 [(.int IntKind.i64 (0)),(.int IntKind.i64 (0)),(.int IntKind.i64 (0)),(.int IntKind.i64 (0)),(.int IntKind.i64 (0)),(.int IntKind.i64 (0)),(.int IntKind.i64 (0)),(.int IntKind.i64 (0)),(.int IntKind.i64 (0))]:=ArTy.of Tryz.underlying141 (by kernel_rfl) (by decide) (by kernel_rfl) rfl
theorem yS0:ArTy Tryz.prog 210 4 2 43 [(.int IntKind.i64 (0)),(.int IntKind.i64 (0)),(.int IntKind.i64 (0)),(.int IntKind.i64 (0)),(.int IntKind.i64 (0)),(.int IntKind.i64 (0)),(.int IntKind.i64 (0)),(.int IntKind.i64 (0))]:=ArTy.of Tryz.underlying210 (by kernel_rfl) (by decide) (by kernel_rfl) rfl
theorem zSC:ArTy Tryz.prog 219 3 1 3 [(.int IntKind.i64 (0)),(.int IntKind.i64 (0)),(.int IntKind.i64 (0))]:=ArTy.of Tryz.underlying219 (by kernel_rfl) (by decide) (by kernel_rfl) rfl
theorem yS1:StTy Tryz.prog 105 [(0,3),(3,5),(8,4),(12,1),(13,1),(14,1),(15,1),(16,1),(17,1)] [(.slice none 0 0),(.slice none 0 0),(.slice none 0 0),(.slice none 0 0),(.slice none 0 0),(.int IntKind.i64 (0)),(.int IntKind.i64 (0)),(.int IntKind.i64 (0)),(.int IntKind.i64 (0)),(.int IntKind.i64 (0)),(.bool false),(.bool false),(.slice none 0 0),(.slice none 0 0),(.slice none 0 0),(.slice none 0 0),(.map none),(.map none)]:=fx Tryz.underlying105
theorem yS2:StTy Tryz.prog 139 [(0,5),(5,1),(6,1),(7,1),(8,1)] [(.slice none 0 0),(.slice none 0 0),(.int IntKind.i64 (0)),(.int IntKind.i64 (0)),(.int IntKind.i64 (0)),(.map none),(.int IntKind.i64 (0)),(.slice none 0 0),(.int IntKind.i64 (0))]:=fx Tryz.underlying139
theorem yS3:StTy Tryz.prog 214 [(0,1),(1,1)] [(.int IntKind.i64 (0)),(.string ⟨#[]⟩)]:=fx Tryz.underlying214
theorem B26:StTy Tryz.prog 26 [(0,1)] [(.slice none 0 0)]:=fx Tryz.underlying26
theorem B28:StTy Tryz.prog 28 [(0,1),(1,1),(2,1)] [(.slice none 0 0),(.slice none 0 0),(.slice none 0 0)]:=fx Tryz.underlying28
theorem B32:StTy Tryz.prog 32 [(0,1),(1,1),(2,1),(3,1),(4,1)] [(.slice none 0 0),(.slice none 0 0),(.int IntKind.i64 (0)),(.int IntKind.i64 (0)),(.int IntKind.i64 (0))]:=fx Tryz.underlying32
theorem B34:StTy Tryz.prog 34 [(0,1),(1,1),(2,1),(3,1)] [(.int IntKind.i64 (0)),(.int IntKind.i64 (0)),(.bool false),(.bool false)]:=fx Tryz.underlying34
theorem B43:StTy Tryz.prog 43 [(0,1),(1,1)] [(.int IntKind.i64 (0)),(.int IntKind.i64 (0))]:=fx Tryz.underlying43
theorem B82:StTy Tryz.prog 82 [(0,1),(1,1),(2,1),(3,1)] [(.int IntKind.i64 (0)),(.int IntKind.i64 (0)),(.int IntKind.i64 (0)),(.bool false)]:=fx Tryz.underlying82
theorem B91:StTy Tryz.prog 91 [(0,1),(1,1)] [(.slice none 0 0),(.slice none 0 0)]:=fx Tryz.underlying91
theorem zSD:AggTy Tryz.prog 125 4:=fx Tryz.underlying125
theorem yJ6:AggTy Tryz.prog 141 9:=fx Tryz.underlying141
theorem uS:AggTy Tryz.prog 144 3:=fx Tryz.underlying144
theorem z33:AggTy Tryz.prog 206 3:=fx Tryz.underlying206
theorem yS9:AggTy Tryz.prog 210 8:=fx Tryz.underlying210
theorem yQ5:AggTy Tryz.prog 214 2:=fx Tryz.underlying214
theorem z34:AggTy Tryz.prog 219 3:=fx Tryz.underlying219
theorem G26:AggTy Tryz.prog 26 1:=fx Tryz.underlying26
theorem G28:AggTy Tryz.prog 28 3:=fx Tryz.underlying28
theorem G32:AggTy Tryz.prog 32 5:=fx Tryz.underlying32
theorem G34:AggTy Tryz.prog 34 4:=fx Tryz.underlying34
theorem G43:AggTy Tryz.prog 43 2:=fx Tryz.underlying43
theorem G47:AggTy Tryz.prog 47 15:=fx Tryz.underlying47
theorem G60:AggTy Tryz.prog 60 3:=fx Tryz.underlying60
theorem G82:AggTy Tryz.prog 82 4:=fx Tryz.underlying82
theorem G91:AggTy Tryz.prog 91 2:=fx Tryz.underlying91
theorem K3:KeyTy Tryz.prog 3 kI:=yOA Tryz.underlying3
theorem K9:KeyTy Tryz.prog 9 kS:=yOB Tryz.underlying9
theorem yOL:FldTy Tryz.prog 105 0 0 3 28:=fx Tryz.underlying105
theorem yOM:FldTy Tryz.prog 105 1 3 5 32:=fx Tryz.underlying105
theorem yON:FldTy Tryz.prog 105 2 8 4 34:=fx Tryz.underlying105
theorem yOO:FldTy Tryz.prog 105 3 12 1 37:=fx Tryz.underlying105
theorem yFM:FldTy Tryz.prog 105 4 13 1 96:=fx Tryz.underlying105
theorem yFN:FldTy Tryz.prog 105 5 14 1 79:=fx Tryz.underlying105
theorem yFO:FldTy Tryz.prog 105 6 15 1 37:=fx Tryz.underlying105
theorem zII:FldTy Tryz.prog 105 7 16 1 103:=fx Tryz.underlying105
theorem zIJ:FldTy Tryz.prog 105 8 17 1 103:=fx Tryz.underlying105
theorem z6Y:FldTy Tryz.prog 139 0 0 5 32:=fx Tryz.underlying139
theorem yFP:FldTy Tryz.prog 139 1 5 1 137:=fx Tryz.underlying139
theorem z0Q:FldTy Tryz.prog 139 2 6 1 3:=fx Tryz.underlying139
theorem zP0:FldTy Tryz.prog 139 3 7 1 22:=fx Tryz.underlying139
theorem z6Z:FldTy Tryz.prog 139 4 8 1 3:=fx Tryz.underlying139
theorem zG6:FldTy Tryz.prog 144 0 0 1 3:=fx Tryz.underlying144
theorem zG7:FldTy Tryz.prog 144 1 1 1 3:=fx Tryz.underlying144
theorem zIK:FldTy Tryz.prog 144 2 2 1 3:=fx Tryz.underlying144
theorem zSE:FldTy Tryz.prog 206 0 0 1 9:=fx Tryz.underlying206
theorem zSF:FldTy Tryz.prog 206 1 1 1 3:=fx Tryz.underlying206
theorem zSG:FldTy Tryz.prog 206 2 2 1 3:=fx Tryz.underlying206
theorem zLJ:FldTy Tryz.prog 26 0 0 1 24:=fx Tryz.underlying26
theorem zAW:FldTy Tryz.prog 28 0 0 1 22:=fx Tryz.underlying28
theorem zV0:FldTy Tryz.prog 28 1 1 1 23:=fx Tryz.underlying28
theorem yFQ:FldTy Tryz.prog 28 2 2 1 26:=fx Tryz.underlying28
theorem z36:FldTy Tryz.prog 32 0 0 1 29:=fx Tryz.underlying32
theorem zV1:FldTy Tryz.prog 32 1 1 1 30:=fx Tryz.underlying32
theorem zPK:FldTy Tryz.prog 32 2 2 1 3:=fx Tryz.underlying32
theorem z9C:FldTy Tryz.prog 32 3 3 1 3:=fx Tryz.underlying32
theorem z9D:FldTy Tryz.prog 32 4 4 1 3:=fx Tryz.underlying32
theorem zKP:FldTy Tryz.prog 34 0 0 1 3:=fx Tryz.underlying34
theorem zZB:FldTy Tryz.prog 34 1 1 1 3:=fx Tryz.underlying34
theorem yFR:FldTy Tryz.prog 34 2 2 1 4:=fx Tryz.underlying34
theorem z9E:FldTy Tryz.prog 34 3 3 1 4:=fx Tryz.underlying34
theorem zN4:FldTy Tryz.prog 43 0 0 1 3:=fx Tryz.underlying43
theorem zKQ:FldTy Tryz.prog 43 1 1 1 3:=fx Tryz.underlying43
theorem yFS:FldTy Tryz.prog 47 0 0 3 28:=fx Tryz.underlying47
theorem z9F:FldTy Tryz.prog 47 1 3 5 32:=fx Tryz.underlying47
theorem z9G:FldTy Tryz.prog 47 2 8 4 34:=fx Tryz.underlying47
theorem yFT:FldTy Tryz.prog 47 3 12 1 37:=fx Tryz.underlying47
theorem zV2:FldTy Tryz.prog 47 4 13 1 37:=fx Tryz.underlying47
theorem zZC:FldTy Tryz.prog 47 5 14 1 37:=fx Tryz.underlying47
theorem zLK:FldTy Tryz.prog 60 0 0 1 3:=fx Tryz.underlying60
theorem zH4:FldTy Tryz.prog 60 1 1 1 37:=fx Tryz.underlying60
theorem zFO:FldTy Tryz.prog 60 2 2 1 9:=fx Tryz.underlying60
theorem z37:FldTy Tryz.prog 82 0 0 1 3:=fx Tryz.underlying82
theorem zQ2:FldTy Tryz.prog 82 1 1 1 3:=fx Tryz.underlying82
theorem zQ3:FldTy Tryz.prog 82 2 2 1 3:=fx Tryz.underlying82
theorem zZD:FldTy Tryz.prog 82 3 3 1 4:=fx Tryz.underlying82
theorem zJL:FldTy Tryz.prog 91 0 0 1 37:=fx Tryz.underlying91
theorem zN5:FldTy Tryz.prog 91 1 1 1 79:=fx Tryz.underlying91
theorem zBI:MapTy Tryz.prog 103 3 3 (.int IntKind.i64 (0)):=MapTy.of Tryz.underlying103 (by kernel_rfl)
theorem yQ6:MapTy Tryz.prog 137 141 79 (.slice none 0 0):=MapTy.of Tryz.underlying137 (by kernel_rfl)
theorem yQ7:MapTy Tryz.prog 158 3 37 (.slice none 0 0):=MapTy.of Tryz.underlying158 (by kernel_rfl)
theorem yQ8:MapTy Tryz.prog 208 9 4 (.bool false):=MapTy.of Tryz.underlying208 (by kernel_rfl)
theorem yQ9:MapTy Tryz.prog 212 214 4 (.bool false):=MapTy.of Tryz.underlying212 (by kernel_rfl)
theorem zFS:OneTy Tryz.prog 103:=fx Tryz.underlying103
theorem yFU:OneTy Tryz.prog 110:=fx Tryz.underlying110
theorem yOP:OneTy Tryz.prog 126:=fx Tryz.underlying126
theorem yRA:OneTy Tryz.prog 137:=fx Tryz.underlying137
theorem yOQ:OneTy Tryz.prog 147:=fx Tryz.underlying147
theorem yOR:OneTy Tryz.prog 158:=fx Tryz.underlying158
theorem O22:OneTy Tryz.prog 22:=fx Tryz.underlying22
theorem O23:OneTy Tryz.prog 23:=fx Tryz.underlying23
theorem O24:OneTy Tryz.prog 24:=fx Tryz.underlying24
theorem O29:OneTy Tryz.prog 29:=fx Tryz.underlying29
theorem O3:OneTy Tryz.prog 3:=fx Tryz.underlying3
theorem O30:OneTy Tryz.prog 30:=fx Tryz.underlying30
theorem O37:OneTy Tryz.prog 37:=fx Tryz.underlying37
theorem O4:OneTy Tryz.prog 4:=fx Tryz.underlying4
theorem O70:OneTy Tryz.prog 70:=fx Tryz.underlying70
theorem O79:OneTy Tryz.prog 79:=fx Tryz.underlying79
theorem O9:OneTy Tryz.prog 9:=fx Tryz.underlying9
theorem O96:OneTy Tryz.prog 96:=fx Tryz.underlying96
theorem yFV:SlTy Tryz.prog 108 79 1 24 (.slice none 0 0):=fx Tryz.underlying108
theorem zXG:SlTy Tryz.prog 128 125 4 32 (.agg #[(.int IntKind.i64 (0)),(.int IntKind.i64 (0)),(.int IntKind.i64 (0)),(.int IntKind.i64 (0))]):=fx Tryz.underlying128
theorem yJ7:SlTy Tryz.prog 151 4 1 1 (.bool false):=fx Tryz.underlying151
theorem S22:SlTy Tryz.prog 22 144 3 24 (.agg #[(.int IntKind.i64 (0)),(.int IntKind.i64 (0)),(.int IntKind.i64 (0))]):=fx Tryz.underlying22
theorem S23:SlTy Tryz.prog 23 60 3 48 (.agg #[(.int IntKind.i64 (0)),(.slice none 0 0),(.string ⟨#[]⟩)]):=fx Tryz.underlying23
theorem S24:SlTy Tryz.prog 24 43 2 16 (.agg #[(.int IntKind.i64 (0)),(.int IntKind.i64 (0))]):=fx Tryz.underlying24
theorem S29:SlTy Tryz.prog 29 91 2 48 (.agg #[(.slice none 0 0),(.slice none 0 0)]):=fx Tryz.underlying29
theorem S30:SlTy Tryz.prog 30 206 3 32 (.agg #[(.string ⟨#[]⟩),(.int IntKind.i64 (0)),(.int IntKind.i64 (0))]):=fx Tryz.underlying30
theorem yD:SlTy Tryz.prog 37 3 1 8 (.int IntKind.i64 (0)):=fx Tryz.underlying37
theorem S79:SlTy Tryz.prog 79 82 4 32 (.agg #[(.int IntKind.i64 (0)),(.int IntKind.i64 (0)),(.int IntKind.i64 (0)),(.bool false)]):=fx Tryz.underlying79
theorem S96:SlTy Tryz.prog 96 37 1 24 (.slice none 0 0):=fx Tryz.underlying96
theorem Z0:zAQ Tryz.prog 0=some [.int .i64 4352,.int .i64 4370,.int .i64 4449,.int .i64 4469,.int .i64 4520,.int .i64 4546,.int .i64 44032,.int .i64 55203]:=by kernel_rfl
theorem yTB:EqTy Tryz.prog 125 bS:=EqTy.ofA (vals:=λ(x:bC)=>[.int IntKind.i64 x.x0,.int IntKind.i64 x.x1,.int IntKind.i64 x.x2,.int IntKind.i64 x.x3]) (cs:=λ(a b:bC)=>[decide (a.x0=b.x0),decide (a.x1=b.x1),decide (a.x2=b.x2),decide (a.x3=b.x3)]) zLI O3 (by kernel_rfl) (λ_=>rfl) (λa b w=>(Pw.cons ⟨_,_,rfl,rfl,Go.AV.run_equalIn_int Tryz.underlying3 _ _ _ _⟩ (Pw.cons ⟨_,_,rfl,rfl,Go.AV.run_equalIn_int Tryz.underlying3 _ _ _ _⟩ (Pw.cons ⟨_,_,rfl,rfl,Go.AV.run_equalIn_int Tryz.underlying3 _ _ _ _⟩ (Pw.cons ⟨_,_,rfl,rfl,Go.AV.run_equalIn_int Tryz.underlying3 _ _ _ _⟩ Pw.nil))))) (λa b=>by cases a;cases b;simp)
theorem yTC:EqTy Tryz.prog 141 cL:=EqTy.ofA (vals:=λ(x:bV)=>[.int IntKind.i64 x.x0,.int IntKind.i64 x.x1,.int IntKind.i64 x.x2,.int IntKind.i64 x.x3,.int IntKind.i64 x.x4,.int IntKind.i64 x.x5,.int IntKind.i64 x.x6,.int IntKind.i64 x.x7,.int IntKind.i64 x.x8]) (cs:=λ(a b:bV)=>[decide (a.x0=b.x0),decide (a.x1=b.x1),decide (a.x2=b.x2),decide (a.x3=b.x3),decide (a.x4=b.x4),decide (a.x5=b.x5),decide (a.x6=b.x6),decide (a.x7=b.x7),decide (a.x8=b.x8)]) yJ5 O3 (by kernel_rfl) (λ_=>rfl) (λa b w=>(Pw.cons ⟨_,_,rfl,rfl,Go.AV.run_equalIn_int Tryz.underlying3 _ _ _ _⟩ (Pw.cons ⟨_,_,rfl,rfl,Go.AV.run_equalIn_int Tryz.underlying3 _ _ _ _⟩ (Pw.cons ⟨_,_,rfl,rfl,Go.AV.run_equalIn_int Tryz.underlying3 _ _ _ _⟩ (Pw.cons ⟨_,_,rfl,rfl,Go.AV.run_equalIn_int Tryz.underlying3 _ _ _ _⟩ (Pw.cons ⟨_,_,rfl,rfl,Go.AV.run_equalIn_int Tryz.underlying3 _ _ _ _⟩ (Pw.cons ⟨_,_,rfl,rfl,Go.AV.run_equalIn_int Tryz.underlying3 _ _ _ _⟩ (Pw.cons ⟨_,_,rfl,rfl,Go.AV.run_equalIn_int Tryz.underlying3 _ _ _ _⟩ (Pw.cons ⟨_,_,rfl,rfl,Go.AV.run_equalIn_int Tryz.underlying3 _ _ _ _⟩ (Pw.cons ⟨_,_,rfl,rfl,Go.AV.run_equalIn_int Tryz.underlying3 _ _ _ _⟩ Pw.nil)))))))))) (λa b=>by cases a;cases b;simp)
set_option maxRecDepth 10000 in
theorem yTD:EqTy Tryz.prog 214 cG:=EqTy.of (vals:=λ(x:bN)=>[.int IntKind.i64 x.cH,.string ⟨x.cM.toArray⟩]) (cs:=λ(a b:bN)=>[decide (a.cH=b.cH),decide (a.cM=b.cM)]) Tryz.underlying214 (by kernel_rfl) (by kernel_rfl) (λ_=>rfl) (λa b w=>(zOM (d:=9998) rfl O3 (yJN (d:=9998) rfl O9 z0F Tryz.underlying9 rfl rfl) Tryz.underlying3 rfl rfl)) (λa b=>by cases a;cases b;simp)
theorem yTE:EqTy Tryz.prog 219 cK:=EqTy.ofA (vals:=λ(x:b0)=>[.int IntKind.i64 x.x0,.int IntKind.i64 x.x1,.int IntKind.i64 x.x2]) (cs:=λ(a b:b0)=>[decide (a.x0=b.x0),decide (a.x1=b.x1),decide (a.x2=b.x2)]) zSC O3 (by kernel_rfl) (λ_=>rfl) (λa b w=>(Pw.cons ⟨_,_,rfl,rfl,Go.AV.run_equalIn_int Tryz.underlying3 _ _ _ _⟩ (Pw.cons ⟨_,_,rfl,rfl,Go.AV.run_equalIn_int Tryz.underlying3 _ _ _ _⟩ (Pw.cons ⟨_,_,rfl,rfl,Go.AV.run_equalIn_int Tryz.underlying3 _ _ _ _⟩ Pw.nil)))) (λa b=>by cases a;cases b;simp)
set_option maxRecDepth 10000 in
theorem E43:EqTy Tryz.prog 43 aF:=EqTy.of (vals:=λ(x:Range)=>[.int IntKind.i64 x.Lo,.int IntKind.i64 x.Hi]) (cs:=λ(a b:Range)=>[decide (a.Lo=b.Lo),decide (a.Hi=b.Hi)]) Tryz.underlying43 (by kernel_rfl) (by kernel_rfl) (λ_=>rfl) (λa b w=>(zOM (d:=9998) rfl O3 (zOM (d:=9998) rfl O3 z0F Tryz.underlying3 rfl rfl) Tryz.underlying3 rfl rfl)) (λa b=>by cases a;cases b;simp)
set_option maxRecDepth 10000 in
theorem E82:EqTy Tryz.prog 82 aG:=EqTy.of (vals:=λ(x:aP)=>[.int IntKind.i64 x.aS,.int IntKind.i64 x.aL,.int IntKind.i64 x.aO,.bool x.aD]) (cs:=λ(a b:aP)=>[decide (a.aS=b.aS),decide (a.aL=b.aL),decide (a.aO=b.aO),decide (a.aD=b.aD)]) Tryz.underlying82 (by kernel_rfl) (by kernel_rfl) (λ_=>rfl) (λa b w=>(zOM (d:=9998) rfl O3 (zOM (d:=9998) rfl O3 (zOM (d:=9998) rfl O3 (yE3 (d:=9998) rfl O4 z0F Tryz.underlying4 rfl rfl) Tryz.underlying3 rfl rfl) Tryz.underlying3 rfl rfl) Tryz.underlying3 rfl rfl)) (λa b=>by cases a;cases b;simp)
theorem yRC:KeyTy Tryz.prog 141 zGT:=yE7 (vals:=λ(x:bV)=>[.int IntKind.i64 x.x0,.int IntKind.i64 x.x1,.int IntKind.i64 x.x2,.int IntKind.i64 x.x3,.int IntKind.i64 x.x4,.int IntKind.i64 x.x5,.int IntKind.i64 x.x6,.int IntKind.i64 x.x7,.int IntKind.i64 x.x8]) Tryz.underlying141 yTC (λ_=>rfl) (λ_=>rfl) (λ_=>rfl) (λ_=>by simp[Instr.sameBits,zVP]) (λa b w=>yB2 yJ5 O3 Tryz.underlying3 rfl rfl b w)
theorem yRD:KeyTy Tryz.prog 214 zIR:=yE7 (vals:=λ(x:bN)=>[.int IntKind.i64 x.cH,.string ⟨x.cM.toArray⟩]) Tryz.underlying214 yTD (λ_=>rfl) (λ_=>rfl) (λ_=>rfl) (λ_=>by simp[Instr.sameBits,zVP]) (λa b w=>z6R Tryz.underlying214 (List.forall_mem_cons.2 ⟨⟨O3,⟨_,Tryz.underlying3,rfl⟩,lq rfl⟩,(List.forall_mem_cons.2 ⟨⟨O9,⟨_,Tryz.underlying9,rfl⟩,lq rfl⟩,(λ_ h=>by cases h)⟩)⟩) b w)
theorem MX:Tryz.prog.follows .mixedOrders=true:=by kernel_rfl
section
variable {P:Program} {r:Option Nat} {E:Env} {S S':AState} {ops:Array Oper} {o:Oper} {rest:List Oper} {J:AState->Prop} {d j t:Nat} {x:AV} {b:Bool} {G H I F0 F1 F2 F3 F4 F5 F6 F7:Prop}
theorem q0 (k:H) (h:H->G:=by exact λk=>jT (kE lr rfl) k):G:=h k
theorem q1 (k:H) (h:H->G:=by exact λk=>jT (zPV lr rfl) k):G:=h k
theorem q2 (f0:F0) (k:H) (h:F0->H->G:=by exact λf0 k=>jT (uB lr f0 rfl) k):G:=h f0 k
theorem q3 (k:H) (h:H->G:=by exact λk=>jT (zY1 lr rfl rfl) k):G:=h k
theorem q4 (f0:F0) (k:H) (h:F0->H->G:=by exact λf0 k=>jT (z3G lr f0 rfl) k):G:=h f0 k
theorem q5 (k:H) (h:H->G:=by exact λk=>jT (zQO lr rfl rfl) k):G:=h k
theorem q6 (f0:F0) (k:H) (h:F0->H->G:=by exact λf0 k=>jT (jS lr rfl f0) k):G:=h f0 k
theorem q7 (f0:F0) (k:H) (h:F0->H->G:=by exact λf0 k=>jT (w6 lr f0 rfl rfl) k):G:=h f0 k
theorem q8 (k:H) (h:H->G:=by exact λk=>daa (kE lr rfl) k):G:=h k
theorem q9 (f0:F0) (k:H) (h:F0->H->G:=by exact λf0 k=>jT ((kE lr rfl).bool (g8 f0)) k):G:=h f0 k
theorem q10 (k:H) (h:H->G:=by exact λk=>jT (zI7 lr rfl) k):G:=h k
theorem q11 (f0:F0) (f1:F1) (k:H) (h:F0->F1->H->G:=by exact λf0 f1 k=>jT (k4 lr f0 rfl rfl f1) k):G:=h f0 f1 k
theorem q12 (f0:F0) (k:H) (h:F0->H->G:=by exact λf0 k=>jT (zLD lr f0 rfl rfl) k):G:=h f0 k
theorem q13 (f0:F0) (k:H) (h:F0->H->G:=by exact λf0 k=>daa (uB lr f0 rfl) k):G:=h f0 k
theorem q14 (f0:F0) (k:H) (h:F0->H->G:=by exact λf0 k=>xd rfl (zQX f0 rfl rfl rfl rfl rfl rfl) k):G:=h f0 k
theorem q15 (x:AV) (k:Sq P r E ops rest (S.put d (.cond (gd true b) x)) J) (ha:GdO o ops S E j t d b true:=by exact rfl) (h:b=true->AOp P r E S o d x:=by exact λhb=>by subst hb;exact kE lr rfl):Sq P r E ops (o::rest) S J:=sqt x ha h k
theorem q16 (k:H) (h:H->G:=by exact λk=>jT (zZ8 lr rfl) k):G:=h k
theorem q17 (k:H) (h:H->G:=by exact λk=>jT (zGO lr rfl rfl) k):G:=h k
theorem q18 (f0:F0) (k:H) (h:F0->H->G:=by exact λf0 k=>yE rfl (zQX f0 rfl rfl rfl rfl rfl rfl) k):G:=h f0 k
theorem q19 (f0:F0) (k:H) (h:F0->H->G:=by exact λf0 k=>daa (w6 lr f0 rfl rfl) k):G:=h f0 k
theorem q20 (f0:F0) (k:H) (h:F0->H->G:=by exact λf0 k=>daa (jS lr rfl f0) k):G:=h f0 k
theorem q21 (f0:F0) (f1:F1) (k:H) (h:F0->F1->H->G:=by exact λf0 f1 k=>xc rfl (zHL lr f0 rfl rfl rfl f1) k):G:=h f0 f1 k
theorem q22 (k:H) (h:H->G:=by exact λk=>jT (zR1 lr rfl rfl) k):G:=h k
theorem q23 (f0:F0) (k:H) (h:F0->H->G:=by exact λf0 k=>jT (yEP lr f0 rfl rfl rfl rfl (by decide) rfl) k):G:=h f0 k
theorem q24 (x:AV) (f0:F0) (k:Sq P r E ops rest (S.put d (.cond (gd false b) x)) J) (ha:GdO o ops S E j t d b false:=by exact rfl) (h:F0->b=false->AOp P r E S o d x:=by exact λf0 hb=>by subst hb;exact uB lr f0 rfl):Sq P r E ops (o::rest) S J:=sqf x ha (h f0) k
theorem q25 (f0:F0) (f1:F1) (f2:F2) (k:H) (h:F0->F1->F2->H->G:=by exact λf0 f1 f2 k=>xd rfl (z3S f0 rfl rfl rfl f1 f2 rfl rfl rfl rfl) k):G:=h f0 f1 f2 k
theorem q26 (x:AV) (f0:F0) (k:Sq P r E ops rest (S.put d (.cond (gd false b) x)) J) (ha:GdO o ops S E j t d b false:=by exact rfl) (h:F0->b=false->AOp P r E S o d x:=by exact λf0 hb=>by subst hb;exact w6 lr f0 rfl rfl):Sq P r E ops (o::rest) S J:=sqf x ha (h f0) k
theorem q27 (f0:F0) (k:H) (h:F0->H->G:=by exact λf0 k=>jT (zGP lr f0 rfl rfl rfl) k):G:=h f0 k
theorem q28 (k:H) (h:H->G:=by exact λk=>jT (zYL lr rfl) k):G:=h k
theorem q29 (f0:F0) (f1:F1) (k:H) (h:F0->F1->H->G:=by exact λf0 f1 k=>daa (k4 lr f0 rfl rfl f1) k):G:=h f0 f1 k
theorem q30 (k:H) (h:H->G:=by exact λk=>jT (zS8 lr rfl rfl) k):G:=h k
theorem q31 (k:H) (h:H->G:=by exact λk=>xc rfl (zPV lr rfl) k):G:=h k
theorem q32 (k:H) (h:H->G:=by exact λk=>jT (zY2 (size:=3) lr rfl rfl) k):G:=h k
theorem q33 (f0:F0) (k:H) (h:F0->H->G:=by exact λf0 k=>daa (zLD lr f0 rfl rfl) k):G:=h f0 k
theorem q34 (k:H) (h:H->G:=by exact λk=>jT (zTA lr rfl rfl) k):G:=h k
theorem q35 (f0:F0) (k:H) (h:F0->H->G:=by exact λf0 k=>xc rfl (jS lr rfl f0) k):G:=h f0 k
theorem q36 (f0:F0) (f1:F1) (k:H) (h:F0->F1->H->G:=by exact λf0 f1 k=>jT (z6 (en:=eI) (off:=0) lr f0 rfl f1 rfl) k):G:=h f0 f1 k
theorem q37 (k:H) (h:H->G:=by exact λk=>daa (zPV lr rfl) k):G:=h k
theorem q38 (f0:F0) (f1:F1) (k:H) (h:F0->F1->H->G:=by exact λf0 f1 k=>xc rfl (zMA lr f0 rfl rfl f1 rfl) k):G:=h f0 f1 k
theorem q39 (k:H) (h:H->G:=by exact λk=>jT (zNJ lr rfl rfl) k):G:=h k
theorem q40 (k:H) (h:H->G:=by exact λk=>jT (zMT lr rfl rfl) k):G:=h k
theorem q41 (f0:F0) (k:H) (h:F0->H->G:=by exact λf0 k=>xc rfl (zGP lr f0 rfl rfl rfl) k):G:=h f0 k
theorem q42 (x:AV) (k:Sq P r E ops rest (S.put d (.cond (gd false b) x)) J) (ha:GdO o ops S E j t d b false:=by exact rfl) (h:b=false->AOp P r E S o d x:=by exact λhb=>by subst hb;exact kE lr rfl):Sq P r E ops (o::rest) S J:=sqf x ha h k
theorem q43 (f0:F0) (f1:F1) (k:H) (h:F0->F1->H->G:=by exact λf0 f1 k=>xc rfl (zFY lr f0 rfl rfl rfl f1) k):G:=h f0 f1 k
theorem q44 (k:H) (h:H->G:=by exact λk=>jT (zY2 (size:=5) lr rfl rfl) k):G:=h k
theorem q45 (x:AV) (k:DA P r E ops rest (S.put d (.cond (gd false b) x)) J) (ha:GdO o ops S E j t d b false:=by exact rfl) (h:b=false->AOp P r E S o d x:=by exact λhb=>by subst hb;exact kE lr rfl):DA P r E ops (o::rest) S J:=daf x ha h k
theorem q46 (f0:F0) (k:H) (h:F0->H->G:=by exact λf0 k=>daa (zL2 lr f0 rfl rfl rfl) k):G:=h f0 k
theorem q47 (f0:F0) (k:H) (h:F0->H->G:=by exact λf0 k=>daa ((kE lr rfl).bool (g8 f0)) k):G:=h f0 k
theorem q48 (x:AV) (k:DA P r E ops rest (S.put d (.cond (gd true b) x)) J) (ha:GdO o ops S E j t d b true:=by exact rfl) (h:b=true->AOp P r E S o d x:=by exact λhb=>by subst hb;exact kE lr rfl):DA P r E ops (o::rest) S J:=dat x ha h k
theorem q49 (f0:F0) (k:H) (h:F0->H->G:=by exact λf0 k=>jT (zFC lr f0 rfl rfl) k):G:=h f0 k
theorem q50 (k:H) (h:H->G:=by exact λk=>xd rfl (kH (zs:=[(.int IntKind.i64 (0)),(.int IntKind.i64 (0)),(.int IntKind.i64 (0))]) lr (by kernel_rfl) rfl rfl) k):G:=h k
theorem q51 (k:H) (h:H->G:=by exact λk=>jT (zYM lr rfl rfl) k):G:=h k
theorem q52 (f0:F0) (k:H) (h:F0->H->G:=by exact λf0 k=>jT (zAF lr f0 rfl) k):G:=h f0 k
theorem q53 (k:H) (h:H->G:=by exact λk=>jT (zQP lr rfl rfl) k):G:=h k
theorem q54 (f0:F0) (k:H) (h:F0->H->G:=by exact λf0 k=>jT (zL2 lr f0 rfl rfl rfl) k):G:=h f0 k
theorem q55 (x:AV) (f0:F0) (k:Sq P r E ops rest (S.put d (.cond (gd true b) x)) J) (ha:GdO o ops S E j t d b true:=by exact rfl) (h:F0->b=true->AOp P r E S o d x:=by exact λf0 hb=>by subst hb;exact uB lr f0 rfl):Sq P r E ops (o::rest) S J:=sqt x ha (h f0) k
theorem q56 (f0:F0) (f1:F1) (k:H) (m:I) (h:F0->F1->H->I->G:=by exact λf0 f1 k m=>xa rfl (zAL (en:=aR) (off:=0) lr f0 rfl f1 rfl rfl (by decide)) k m):G:=h f0 f1 k m
theorem q57 (k:H) (h:H->G:=by exact λk=>xd rfl (kH (zs:=[(.slice none 0 0),(.slice none 0 0),(.int IntKind.i64 (0)),(.int IntKind.i64 (0)),(.int IntKind.i64 (0))]) lr (by kernel_rfl) rfl rfl) k):G:=h k
theorem q58 (f0:F0) (k:H) (h:F0->H->G:=by exact λf0 k=>jT (wS lr f0 rfl) k):G:=h f0 k
theorem q59 (x:AV) (k:Sq P r E ops rest (S.put d (.cond (gd false b) x)) J) (ha:GdO o ops S E j t d b false:=by exact rfl) (h:b=false->AOp P r E S o d x:=by exact λhb=>by subst hb;exact zQP lr rfl rfl):Sq P r E ops (o::rest) S J:=sqf x ha h k
theorem q60 (f0:F0) (k:H) (h:F0->H->G:=by exact λf0 k=>daa (wS lr f0 rfl) k):G:=h f0 k
theorem q61 (f0:F0) (f1:F1) (k:H) (m:I) (h:F0->F1->H->I->G:=by exact λf0 f1 k m=>xa rfl (z81 lr f0 f1 rfl rfl) k m):G:=h f0 f1 k m
theorem q62 (x:AV) (f0:F0) (k:Sq P r E ops rest (S.put d (.cond (gd true b) x)) J) (ha:GdO o ops S E j t d b true:=by exact rfl) (h:F0->b=true->AOp P r E S o d x:=by exact λf0 hb=>by subst hb;exact w6 lr f0 rfl rfl):Sq P r E ops (o::rest) S J:=sqt x ha (h f0) k
theorem q63 (x:AV) (k:Sq P r E ops rest (S.put d (.cond (gd true b) x)) J) (ha:GdO o ops S E j t d b true:=by exact rfl) (h:b=true->AOp P r E S o d x:=by exact λhb=>by subst hb;exact zKE lr rfl rfl):Sq P r E ops (o::rest) S J:=sqt x ha h k
theorem q64 (k:H) (h:H->G:=by exact λk=>yE rfl (kH (zs:=[(.int IntKind.i64 (0)),(.int IntKind.i64 (0))]) lr (by kernel_rfl) rfl rfl) k):G:=h k
theorem q65 (k:H) (h:H->G:=by exact λk=>jT (zY2 (size:=4) lr rfl rfl) k):G:=h k
theorem q66 (f0:F0) (k:H) (h:F0->H->G:=by exact λf0 k=>yE rfl (zK1 f0 rfl rfl lr rfl rfl rfl) k):G:=h f0 k
theorem q67 (k:H) (h:H->G:=by exact λk=>jT (zKE lr rfl rfl) k):G:=h k
theorem q68 (f0:F0) (f1:F1) (k:H) (h:F0->F1->H->G:=by exact λf0 f1 k=>jT (yN7 lr f0 f1 rfl) k):G:=h f0 f1 k
theorem q69 (k:H) (h:H->G:=by exact λk=>daa (zGO lr rfl rfl) k):G:=h k
theorem q70 (k:H) (h:H->G:=by exact λk=>jT (zY2 (size:=1) lr rfl rfl) k):G:=h k
theorem q71 (f0:F0) (k:H) (h:F0->H->G:=by exact λf0 k=>xc rfl (zLD lr f0 rfl rfl) k):G:=h f0 k
theorem q72 (x:AV) (f0:F0) (k:DA P r E ops rest (S.put d (.cond (gd true b) x)) J) (ha:GdO o ops S E j t d b true:=by exact rfl) (h:F0->b=true->AOp P r E S o d x:=by exact λf0 hb=>by subst hb;exact zLD lr f0 rfl rfl):DA P r E ops (o::rest) S J:=dat x ha (h f0) k
theorem q73 (f0:F0) (f1:F1) (k:H) (h:F0->F1->H->G:=by exact λf0 f1 k=>daa (z6 (en:=eI) (off:=0) lr f0 rfl f1 rfl) k):G:=h f0 f1 k
theorem q74 (k:H) (h:H->G:=by exact λk=>daa (zI7 lr rfl) k):G:=h k
theorem q75 (f0:F0) (k:H) (h:F0->H->G:=by exact λf0 k=>jT (zTT lr f0 rfl rfl (by decide)) k):G:=h f0 k
theorem q76 (f0:F0) (f1:F1) (k:H) (h:F0->F1->H->G:=by exact λf0 f1 k=>xc rfl (z81 lr f0 f1 rfl rfl) k):G:=h f0 f1 k
theorem q77 (f0:F0) (f1:F1) (k:H) (h:F0->F1->H->G:=by exact λf0 f1 k=>xc rfl (zAL (en:=aR) (off:=0) lr f0 rfl f1 rfl rfl (by decide)) k):G:=h f0 f1 k
theorem q78 (f0:F0) (k:H) (h:F0->H->G:=by exact λf0 k=>xc rfl (zAF lr f0 rfl) k):G:=h f0 k
theorem q79 (x:AV) (f0:F0) (k:Sq P r E ops rest (S.put d (.cond (gd true b) x)) J) (ha:GdO o ops S E j t d b true:=by exact rfl) (h:F0->b=true->AOp P r E S o d x:=by exact λf0 hb=>by subst hb;exact zLD lr f0 rfl rfl):Sq P r E ops (o::rest) S J:=sqt x ha (h f0) k
theorem q80 (k:H) (h:H->G:=by exact λk=>jT (zL4 lr rfl) k):G:=h k
theorem q81 (k:H) (h:H->G:=by exact λk=>daa (zHK lr rfl) k):G:=h k
theorem q82 (x:AV) (k:Sq P r E ops rest (S.put d (.cond (gd true b) x)) J) (ha:GdO o ops S E j t d b true:=by exact rfl) (h:b=true->AOp P r E S o d x:=by exact λhb=>by subst hb;exact zQO lr rfl rfl):Sq P r E ops (o::rest) S J:=sqt x ha h k
theorem q83 (x:AV) (f0:F0) (k:Sq P r E ops rest (S.put d (.cond (gd false b) x)) J) (ha:GdO o ops S E j t d b false:=by exact rfl) (h:F0->b=false->AOp P r E S o d x:=by exact λf0 hb=>by subst hb;exact z3G lr f0 rfl):Sq P r E ops (o::rest) S J:=sqf x ha (h f0) k
theorem q84 (f0:F0) (f1:F1) (k:H) (h:F0->F1->H->G:=by exact λf0 f1 k=>xd rfl (yFG f0 rfl rfl rfl rfl f1 rfl) k):G:=h f0 f1 k
theorem q85 (f0:F0) (k:H) (m:I) (h:F0->H->I->G:=by exact λf0 k m=>xa rfl (zGP lr f0 rfl rfl rfl) k m):G:=h f0 k m
theorem q86 (f0:F0) (f1:F1) (k:H) (m:I) (h:F0->F1->H->I->G:=by exact λf0 f1 k m=>xa rfl (zMA lr f0 rfl rfl f1 rfl) k m):G:=h f0 f1 k m
theorem q87 (f0:F0) (k:H) (m:I) (h:F0->H->I->G:=by exact λf0 k m=>xa rfl (jS lr rfl f0) k m):G:=h f0 k m
theorem q88 (x:AV) (k:Sq P r E ops rest (S.put d (.cond (gd true b) x)) J) (ha:GdO o ops S E j t d b true:=by exact rfl) (h:b=true->AOp P r E S o d x:=by exact λhb=>by subst hb;exact zYL lr rfl):Sq P r E ops (o::rest) S J:=sqt x ha h k
theorem q89 (f0:F0) (k:H) (h:F0->H->G:=by exact λf0 k=>jT (yE5 lr f0 rfl rfl) k):G:=h f0 k
theorem q90 (f0:F0) (f1:F1) (k:H) (h:F0->F1->H->G:=by exact λf0 f1 k=>jT (zFY lr f0 rfl rfl rfl f1) k):G:=h f0 f1 k
theorem q91 (f0:F0) (k:H) (h:F0->H->G:=by exact λf0 k=>jT (zOK lr f0 rfl) k):G:=h f0 k
theorem q92 (f0:F0) (k:H) (h:F0->H->G:=by exact λf0 k=>yE rfl (zTR f0 rfl rfl lr rfl rfl rfl) k):G:=h f0 k
theorem q93 (k:H) (h:H->G:=by exact λk=>daa (zR1 lr rfl rfl) k):G:=h k
theorem q94 (x:AV) (f0:F0) (k:DA P r E ops rest (S.put d (.cond (gd false b) x)) J) (ha:GdO o ops S E j t d b false:=by exact rfl) (h:F0->b=false->AOp P r E S o d x:=by exact λf0 hb=>by subst hb;exact wS lr f0 rfl):DA P r E ops (o::rest) S J:=daf x ha (h f0) k
theorem q95 (k:H) (h:H->G:=by exact λk=>jT (yQO lr rfl rfl (by decide)) k):G:=h k
theorem q96 (x:AV) (k:Sq P r E ops rest (S.put d (.cond (gd false b) x)) J) (ha:GdO o ops S E j t d b false:=by exact rfl) (h:b=false->AOp P r E S o d x:=by exact λhb=>by subst hb;exact zGO lr rfl rfl):Sq P r E ops (o::rest) S J:=sqf x ha h k
theorem q97 (k:H) (h:H->G:=by exact λk=>yE rfl (yBL lr rfl rfl) k):G:=h k
theorem q98 (x:AV) (f0:F0) (k:Sq P r E ops rest (S.put d (.cond (gd true b) x)) J) (ha:GdO o ops S E j t d b true:=by exact rfl) (h:F0->b=true->AOp P r E S o d x:=by exact λf0 hb=>by subst hb;exact z3G lr f0 rfl):Sq P r E ops (o::rest) S J:=sqt x ha (h f0) k
theorem q99 (f0:F0) (f1:F1) (k:H) (h:F0->F1->H->G:=by exact λf0 f1 k=>jT (z6 (en:=aC) (off:=1) lr f0 rfl f1 rfl) k):G:=h f0 f1 k
theorem yTL (k:H) (h:H->G:=by exact λk=>jT (zY2 (size:=15) lr rfl rfl) k):G:=h k
theorem z0R (x:AV) (k:Sq P r E ops rest (S.put d (.cond (gd true b) x)) J) (ha:GdO o ops S E j t d b true:=by exact rfl) (h:b=true->AOp P r E S o d x:=by exact λhb=>by subst hb;exact zMT lr rfl rfl):Sq P r E ops (o::rest) S J:=sqt x ha h k
theorem z64 (x:AV) (k:Sq P r E ops rest (S.put d (.cond (gd false b) x)) J) (ha:GdO o ops S E j t d b false:=by exact rfl) (h:b=false->AOp P r E S o d x:=by exact λhb=>by subst hb;exact zYL lr rfl):Sq P r E ops (o::rest) S J:=sqf x ha h k
theorem z0S (f0:F0) (f1:F1) (k:H) (h:F0->F1->H->G:=by exact λf0 f1 k=>jT (zAL (en:=aC) (off:=0) lr f0 rfl f1 rfl rfl (by decide)) k):G:=h f0 f1 k
theorem yCD (f0:F0) (f1:F1) (k:H) (h:F0->F1->H->G:=by exact λf0 f1 k=>jT (zAL (en:=aF) (off:=0) lr f0 rfl f1 rfl rfl (by decide)) k):G:=h f0 f1 k
theorem z0T (f0:F0) (k:H) (h:F0->H->G:=by exact λf0 k=>jT (yM0 lr rfl rfl f0) k):G:=h f0 k
theorem z39 (x:AV) (f0:F0) (k:DA P r E ops rest (S.put d (.cond (gd true b) x)) J) (ha:GdO o ops S E j t d b true:=by exact rfl) (h:F0->b=true->AOp P r E S o d x:=by exact λf0 hb=>by subst hb;exact uB lr f0 rfl):DA P r E ops (o::rest) S J:=dat x ha (h f0) k
theorem z4A (x:AV) (f0:F0) (k:DA P r E ops rest (S.put d (.cond (gd true b) x)) J) (ha:GdO o ops S E j t d b true:=by exact rfl) (h:F0->b=true->AOp P r E S o d x:=by exact λf0 hb=>by subst hb;exact w6 lr f0 rfl rfl):DA P r E ops (o::rest) S J:=dat x ha (h f0) k
theorem z4B (x:AV) (f0:F0) (k:DA P r E ops rest (S.put d (.cond (gd true b) x)) J) (ha:GdO o ops S E j t d b true:=by exact rfl) (h:F0->b=true->AOp P r E S o d x:=by exact λf0 hb=>by subst hb;exact wS lr f0 rfl):DA P r E ops (o::rest) S J:=dat x ha (h f0) k
theorem z4C (f0:F0) (k:H) (h:F0->H->G:=by exact λf0 k=>daa (zAF lr f0 rfl) k):G:=h f0 k
theorem z4D (k:H) (h:H->G:=by exact λk=>daa (zTA lr rfl rfl) k):G:=h k
theorem z4E (f0:F0) (f1:F1) (k:H) (m:I) (h:F0->F1->H->I->G:=by exact λf0 f1 k m=>xa rfl (zHL lr f0 rfl rfl rfl f1) k m):G:=h f0 f1 k m
theorem z65 (k:H) (h:H->G:=by exact λk=>daa (zQO lr rfl rfl) k):G:=h k
theorem z4F (k:H) (h:H->G:=by exact λk=>daa (zY1 lr rfl rfl) k):G:=h k
theorem z4G (f0:F0) (k:H) (m:I) (h:F0->H->I->G:=by exact λf0 k m=>xa rfl (zLD lr f0 rfl rfl) k m):G:=h f0 k m
theorem z66 (f0:F0) (f1:F1) (k:H) (h:F0->F1->H->G:=by exact λf0 f1 k=>jT (z6 (en:=(eL eI)) (off:=0) lr f0 rfl f1 rfl) k):G:=h f0 f1 k
theorem z67 (x:AV) (k:Sq P r E ops rest (S.put d (.cond (gd false b) x)) J) (ha:GdO o ops S E j t d b false:=by exact rfl) (h:b=false->AOp P r E S o d x:=by exact λhb=>by subst hb;exact zNJ lr rfl rfl):Sq P r E ops (o::rest) S J:=sqf x ha h k
theorem yCE (x:AV) (k:Sq P r E ops rest (S.put d (.cond (gd false b) x)) J) (ha:GdO o ops S E j t d b false:=by exact rfl) (h:b=false->AOp P r E S o d x:=by exact λhb=>by subst hb;exact zMT lr rfl rfl):Sq P r E ops (o::rest) S J:=sqf x ha h k
theorem z68 (k:H) (h:H->G:=by exact λk=>yE rfl (yBR lr rfl) k):G:=h k
theorem z69 (k:H) (h:H->G:=by exact λk=>daa (zQP lr rfl rfl) k):G:=h k
theorem z7A (k:H) (h:H->G:=by exact λk=>jT (zVH lr rfl) k):G:=h k
theorem yTM (k:H) (h:H->G:=by exact λk=>yE rfl (kH (zs:=[(.int IntKind.i64 (0)),(.slice none 0 0),(.string ⟨#[]⟩)]) lr (by kernel_rfl) rfl rfl) k):G:=h k
theorem yCF (f0:F0) (k:H) (h:F0->H->G:=by exact λf0 k=>jT (yN9 lr f0 rfl rfl) k):G:=h f0 k
theorem z7B (k:H) (h:H->G:=by exact λk=>yE rfl (kH (zs:=[(.slice none 0 0)]) lr (by kernel_rfl) rfl rfl) k):G:=h k
theorem z7C (f0:F0) (k:H) (h:F0->H->G:=by exact λf0 k=>jT (yMZ lr rfl rfl f0) k):G:=h f0 k
theorem z7D (f0:F0) (k:H) (h:F0->H->G:=by exact λf0 k=>yE rfl (zTQ lr f0 rfl rfl rfl rfl (by decide) rfl) k):G:=h f0 k
theorem z7E (k:H) (h:H->G:=by exact λk=>jT (z6K lr rfl rfl) k):G:=h k
theorem yCG (k:H) (h:H->G:=by exact λk=>yE rfl (kH (zs:=[(.slice none 0 0),(.slice none 0 0)]) lr (by kernel_rfl) rfl rfl) k):G:=h k
theorem yCH (k:H) (h:H->G:=by exact λk=>jT (z6H lr rfl rfl) k):G:=h k
theorem yCI (f0:F0) (f1:F1) (k:H) (h:F0->F1->H->G:=by exact λf0 f1 k=>yE rfl (z3I f0 f1 rfl rfl rfl rfl rfl rfl) k):G:=h f0 f1 k
theorem yCJ (x:AV) (k:DA P r E ops rest (S.put d (.cond (gd true b) x)) J) (ha:GdO o ops S E j t d b true:=by exact rfl) (h:b=true->AOp P r E S o d x:=by exact λhb=>by subst hb;exact zTA lr rfl rfl):DA P r E ops (o::rest) S J:=dat x ha h k
theorem yF3 (k:H) (h:H->G:=by exact λk=>jT (zY2 (size:=2) lr rfl rfl) k):G:=h k
theorem yF4 (f0:F0) (f1:F1) (k:H) (h:F0->F1->H->G:=by exact λf0 f1 k=>jT (zAL (en:=aG) (off:=0) lr f0 rfl f1 rfl rfl (by decide)) k):G:=h f0 f1 k
theorem yF5 (f0:F0) (k:H) (h:F0->H->G:=by exact λf0 k=>daa (z3G lr f0 rfl) k):G:=h f0 k
theorem yCK (k:H) (h:H->G:=by exact λk=>yE rfl (kH (zs:=[(.int IntKind.i64 (0)),(.int IntKind.i64 (0)),(.int IntKind.i64 (0))]) lr (by kernel_rfl) rfl rfl) k):G:=h k
theorem yCL (f0:F0) (k:H) (h:F0->H->G:=by exact λf0 k=>jT (zKI lr rfl rfl f0) k):G:=h f0 k
theorem yCM (f0:F0) (k:H) (h:F0->H->G:=by exact λf0 k=>jT (yBT lr f0 rfl rfl (by decide)) k):G:=h f0 k
theorem yCN (f0:F0) (k:H) (h:F0->H->G:=by exact λf0 k=>xd rfl (zK1 f0 rfl rfl lr rfl rfl rfl) k):G:=h f0 k
theorem yCO (f0:F0) (f1:F1) (k:H) (h:F0->F1->H->G:=by exact λf0 f1 k=>daa (zHL lr f0 rfl rfl rfl f1) k):G:=h f0 f1 k
theorem yCP (f0:F0) (f1:F1) (k:H) (h:F0->F1->H->G:=by exact λf0 f1 k=>daa (zMA lr f0 rfl rfl f1 rfl) k):G:=h f0 f1 k
theorem yCQ (k:H) (h:H->G:=by exact λk=>daa (zYM lr rfl rfl) k):G:=h k
theorem yCR (f0:F0) (k:H) (m:I) (h:F0->H->I->G:=by exact λf0 k m=>xa rfl (zAF lr f0 rfl) k m):G:=h f0 k m
theorem yCS (x:AV) (f0:F0) (k:Sq P r E ops rest (S.put d (.cond (gd true b) x)) J) (ha:GdO o ops S E j t d b true:=by exact rfl) (h:F0->b=true->AOp P r E S o d x:=by exact λf0 hb=>by subst hb;exact yEP lr f0 rfl rfl rfl rfl (by decide) rfl):Sq P r E ops (o::rest) S J:=sqt x ha (h f0) k
theorem yCT (x:AV) (f0:F0) (k:Sq P r E ops rest (S.put d (.cond (gd true b) x)) J) (ha:GdO o ops S E j t d b true:=by exact rfl) (h:F0->b=true->AOp P r E S o d x:=by exact λf0 hb=>by subst hb;exact wS lr f0 rfl):Sq P r E ops (o::rest) S J:=sqt x ha (h f0) k
theorem yOV (x:AV) (k:Sq P r E ops rest (S.put d (.cond (gd false b) x)) J) (ha:GdO o ops S E j t d b false:=by exact rfl) (h:b=false->AOp P r E S o d x:=by exact λhb=>by subst hb;exact zQO lr rfl rfl):Sq P r E ops (o::rest) S J:=sqf x ha h k
theorem yKB (k:H) (h:H->G:=by exact λk=>yE rfl (kH (zs:=[(.int IntKind.i64 (0)),(.int IntKind.i64 (0)),(.int IntKind.i64 (0)),(.bool false)]) lr (by kernel_rfl) rfl rfl) k):G:=h k
theorem yF6 (k:H) (h:H->G:=by exact λk=>jT (yQS lr rfl rfl) k):G:=h k
theorem yF7 (k:H) (h:H->G:=by exact λk=>jT (zIO lr rfl) k):G:=h k
theorem yF8 (k:H) (h:H->G:=by exact λk=>daa (zVH lr rfl) k):G:=h k
theorem yF9 (k:H) (h:H->G:=by exact λk=>daa (zIY lr rfl) k):G:=h k
theorem yGA (k:H) (m:I) (h:H->I->G:=by exact λk m=>xb rfl (kH (zs:=[(.int IntKind.i64 (0)),(.int IntKind.i64 (0)),(.int IntKind.i64 (0))]) lr (by kernel_rfl) rfl rfl) k m):G:=h k m
theorem yGB (x:AV) (k:Sq P r E ops rest (S.put d (.cond (gd true b) x)) J) (ha:GdO o ops S E j t d b true:=by exact rfl) (h:b=true->AOp P r E S o d x:=by exact λhb=>by subst hb;exact zS8 lr rfl rfl):Sq P r E ops (o::rest) S J:=sqt x ha h k
theorem yGC (f0:F0) (k:H) (h:F0->H->G:=by exact λf0 k=>daa (yEP lr f0 rfl rfl rfl rfl (by decide) rfl) k):G:=h f0 k
theorem yGD (x:AV) (k:DA P r E ops rest (S.put d (.cond (gd true b) x)) J) (ha:GdO o ops S E j t d b true:=by exact rfl) (h:b=true->AOp P r E S o d x:=by exact λhb=>by subst hb;exact zI7 lr rfl):DA P r E ops (o::rest) S J:=dat x ha h k
theorem yKC (f0:F0) (f1:F1) (k:H) (h:F0->F1->H->G:=by exact λf0 f1 k=>daa (zFY lr f0 rfl rfl rfl f1) k):G:=h f0 f1 k
theorem yKD (f0:F0) (k:H) (h:F0->H->G:=by exact λf0 k=>daa (z84 lr f0 rfl rfl) k):G:=h f0 k
theorem yGE (f0:F0) (f1:F1) (k:H) (h:F0->F1->H->G:=by exact λf0 f1 k=>daa (z6 (en:=aC) (off:=0) lr f0 rfl f1 rfl) k):G:=h f0 f1 k
theorem yGF (k:H) (h:H->G:=by exact λk=>jT (zKF lr rfl) k):G:=h k
theorem yGG (f0:F0) (k:H) (h:F0->H->G:=by exact λf0 k=>daa (zOK lr f0 rfl) k):G:=h f0 k
theorem yGH (k:H) (h:H->G:=by exact λk=>daa (zYL lr rfl) k):G:=h k
theorem yGI (k:H) (h:H->G:=by exact λk=>jT (zHK lr rfl) k):G:=h k
theorem yKE (f0:F0) (f1:F1) (k:H) (h:F0->F1->H->G:=by exact λf0 f1 k=>daa (z0C lr f0 rfl rfl rfl f1) k):G:=h f0 f1 k
theorem yGJ (k:H) (h:H->G:=by exact λk=>xc rfl (zIY lr rfl) k):G:=h k
theorem yKF (f0:F0) (f1:F1) (k:H) (h:F0->F1->H->G:=by exact λf0 f1 k=>jT (zVN lr f0 rfl rfl f1) k):G:=h f0 f1 k
theorem yKG (x:AV) (f0:F0) (k:Sq P r E ops rest (S.put d (.cond (gd true b) x)) J) (ha:GdO o ops S E j t d b true:=by exact rfl) (h:F0->b=true->AOp P r E S o d x:=by exact λf0 hb=>by subst hb;exact zFC lr f0 rfl rfl):Sq P r E ops (o::rest) S J:=sqt x ha (h f0) k
theorem yKH (x:AV) (f0:F0) (k:Sq P r E ops rest (S.put d (.cond (gd false b) x)) J) (ha:GdO o ops S E j t d b false:=by exact rfl) (h:F0->b=false->AOp P r E S o d x:=by exact λf0 hb=>by subst hb;exact wS lr f0 rfl):Sq P r E ops (o::rest) S J:=sqf x ha (h f0) k
theorem yKI (x:AV) (f0:F0) (k:Sq P r E ops rest (S.put d (.cond (gd true b) x)) J) (ha:GdO o ops S E j t d b true:=by exact rfl) (h:F0->b=true->AOp P r E S o d x:=by exact λf0 hb=>by subst hb;exact zL2 lr f0 rfl rfl rfl):Sq P r E ops (o::rest) S J:=sqt x ha (h f0) k
theorem yKJ (k:H) (h:H->G:=by exact λk=>yE rfl (kH (zs:=[(.slice none 0 0),(.slice none 0 0),(.int IntKind.i64 (0)),(.int IntKind.i64 (0)),(.int IntKind.i64 (0))]) lr (by kernel_rfl) rfl rfl) k):G:=h k
theorem yKK (f0:F0) (f1:F1) (k:H) (h:F0->F1->H->G:=by exact λf0 f1 k=>jT (yEZ lr f0 rfl rfl f1) k):G:=h f0 f1 k
theorem yKL (f0:F0) (k:H) (h:F0->H->G:=by exact λf0 k=>jT (zVM lr f0 rfl) k):G:=h f0 k
theorem yKM (f0:F0) (f1:F1) (k:H) (h:F0->F1->H->G:=by exact λf0 f1 k=>jT (zAL (en:=aY) (off:=0) lr f0 rfl f1 rfl rfl (by decide)) k):G:=h f0 f1 k
theorem yKN (k:H) (h:H->G:=by exact λk=>yE rfl (kH (zs:=[(.string ⟨#[]⟩),(.int IntKind.i64 (0)),(.int IntKind.i64 (0))]) lr (by kernel_rfl) rfl rfl) k):G:=h k
theorem yKO (x:AV) (k:Sq P r E ops rest (S.put d (.cond (gd true b) x)) J) (ha:GdO o ops S E j t d b true:=by exact rfl) (h:b=true->AOp P r E S o d x:=by exact λhb=>by subst hb;exact zR1 lr rfl rfl):Sq P r E ops (o::rest) S J:=sqt x ha h k
theorem yKP (k:H) (h:H->G:=by exact λk=>daa (zS8 lr rfl rfl) k):G:=h k
theorem yKQ (f0:F0) (k:H) (h:F0->H->G:=by exact λf0 k=>daa (zGP lr f0 rfl rfl rfl) k):G:=h f0 k
theorem yKR (f0:F0) (f1:F1) (k:H) (h:F0->F1->H->G:=by exact λf0 f1 k=>jT (zAL (en:=aR) (off:=0) lr f0 rfl f1 rfl rfl (by decide)) k):G:=h f0 f1 k
theorem yKS (f0:F0) (f1:F1) (k:H) (h:F0->F1->H->G:=by exact λf0 f1 k=>daa (zAL (en:=aC) (off:=0) lr f0 rfl f1 rfl rfl (by decide)) k):G:=h f0 f1 k
theorem yKT (f0:F0) (f1:F1) (k:H) (m:I) (h:F0->F1->H->I->G:=by exact λf0 f1 k m=>xa rfl (zFY lr f0 rfl rfl rfl f1) k m):G:=h f0 f1 k m
theorem yKU (k:H) (h:H->G:=by exact λk=>jT (z8X lr rfl rfl) k):G:=h k
theorem yKV (f0:F0) (f1:F1) (k:H) (h:F0->F1->H->G:=by exact λf0 f1 k=>daa (zAL (en:=aF) (off:=0) lr f0 rfl f1 rfl rfl (by decide)) k):G:=h f0 f1 k
theorem yKW (k:H) (h:H->G:=by exact λk=>jT (z6B lr rfl) k):G:=h k
theorem yKX (k:H) (h:H->G:=by exact λk=>jT (zIY lr rfl) k):G:=h k
theorem yKY (k:H) (h:H->G:=by exact λk=>yE rfl (kH (zs:=[(.slice none 0 0),(.slice none 0 0),(.slice none 0 0)]) lr (by kernel_rfl) rfl rfl) k):G:=h k
theorem yKZ (f0:F0) (k:H) (h:F0->H->G:=by exact λf0 k=>jT (yOC lr f0 rfl rfl) k):G:=h f0 k
theorem yK0 (f0:F0) (f1:F1) (k:H) (h:F0->F1->H->G:=by exact λf0 f1 k=>daa (zVO lr f0 rfl rfl f1) k):G:=h f0 f1 k
theorem yOW (f0:F0) (f1:F1) (k:H) (h:F0->F1->H->G:=by exact λf0 f1 k=>daa (zVN lr f0 rfl rfl f1) k):G:=h f0 f1 k
theorem yK1 (x:AV) (f0:F0) (k:DA P r E ops rest (S.put d (.cond (gd false b) x)) J) (ha:GdO o ops S E j t d b false:=by exact rfl) (h:F0->b=false->AOp P r E S o d x:=by exact λf0 hb=>by subst hb;exact uB lr f0 rfl):DA P r E ops (o::rest) S J:=daf x ha (h f0) k
theorem yK2 (x:AV) (f0:F0) (k:DA P r E ops rest (S.put d (.cond (gd false b) x)) J) (ha:GdO o ops S E j t d b false:=by exact rfl) (h:F0->b=false->AOp P r E S o d x:=by exact λf0 hb=>by subst hb;exact w6 lr f0 rfl rfl):DA P r E ops (o::rest) S J:=daf x ha (h f0) k
theorem yK3 (f0:F0) (f1:F1) (f2:F2) (k:H) (h:F0->F1->F2->H->G:=by exact λf0 f1 f2 k=>jT (yFJ lr f0 rfl f1 f2 rfl rfl) k):G:=h f0 f1 f2 k
end
section
variable {G H:Prop}
theorem Q0 (k:H) (h:H->G:=by intro k;refine yS ?_;exact xW k):G:=h k
theorem Q1 (k:H) (h:H->G:=by intro k;refine q1 ?_;exact zK k):G:=h k
theorem Q2 (k:H) (h:H->G:=by intro k;refine Q0 ?_;exact q0 k):G:=h k
theorem Q3 (k:H) (h:H->G:=by intro k;refine Q0 ?_;exact Q1 k):G:=h k
theorem Q4 (k:H) (h:H->G:=by intro k;refine yS ?_;exact Q2 k):G:=h k
theorem Q5 (k:H) (h:H->G:=by intro k;refine zO ?_;exact yS k):G:=h k
theorem Q6 (k:H) (h:H->G:=by intro k;refine q5 ?_;exact zK k):G:=h k
theorem Q7 (k:H) (h:H->G:=by intro k;refine q0 ?_;exact zK k):G:=h k
theorem Q8 (k:H) (h:H->G:=by intro k;refine xW ?_;exact q0 k):G:=h k
theorem Q9 (k:H) (h:H->G:=by intro k;refine Q5 ?_;exact yW k):G:=h k
theorem Q10 (k:H) (h:H->G:=by intro k;refine q3 ?_;exact Q1 k):G:=h k
theorem Q11 (k:H) (h:H->G:=by intro k;refine q16 ?_;exact zK k):G:=h k
theorem Q12 (k:H) (h:H->G:=by intro k;refine q0 ?_;exact q0 k):G:=h k
theorem Q13 (k:H) (h:H->G:=by intro k;refine Q8 ?_;exact Q10 k):G:=h k
theorem Q14 (k:H) (h:H->G:=by intro k;refine Q4 ?_;exact q0 k):G:=h k
theorem Q15 (k:H) (h:H->G:=by intro k;refine Q1 ?_;exact Q2 k):G:=h k
theorem Q16 (k:H) (h:H->G:=by intro k;refine Q1 ?_;exact yS k):G:=h k
theorem Q17 (k:H) (h:H->G:=by intro k;refine Q0 ?_;exact Q6 k):G:=h k
theorem Q18 (k:H) (h:H->G:=by intro k;refine Q17 ?_;exact yS k):G:=h k
theorem Q19 (k:H) (h:H->G:=by intro k;refine xW ?_;exact q3 k):G:=h k
theorem Q20 (k:H) (h:H->G:=by intro k;refine Q19 ?_;exact Q7 k):G:=h k
theorem Q21 (k:H) (h:H->G:=by intro k;refine Q0 ?_;exact q10 k):G:=h k
theorem Q22 (k:H) (h:H->G:=by intro k;refine Q3 ?_;exact yW k):G:=h k
theorem Q23 (k:H) (h:H->G:=by intro k;refine Q3 ?_;exact yB k):G:=h k
theorem Q24 (k:H) (h:H->G:=by intro k;refine Q7 ?_;exact yW k):G:=h k
theorem Q25 (k:H) (h:H->G:=by intro k;refine q8 ?_;exact q8 k):G:=h k
theorem Q26 (k:H) (h:H->G:=by intro k;refine xW ?_;exact q10 k):G:=h k
theorem Q27 (k:H) (h:H->G:=by intro k;refine Q2 ?_;exact q0 k):G:=h k
theorem Q28 (k:H) (h:H->G:=by intro k;refine xn [6] ?_;exact q31 k):G:=h k
theorem Q29 (k:H) (h:H->G:=by intro k;refine Q28 ?_;exact xn [7] k):G:=h k
theorem Q30 (k:H) (h:H->G:=by intro k;refine Q29 ?_;exact q14 G32 k):G:=h k
theorem Q31 (k:H) (h:H->G:=by intro k;refine yS ?_;exact Q0 k):G:=h k
theorem Q32 (k:H) (h:H->G:=by intro k;refine Q9 ?_;exact Q0 k):G:=h k
theorem Q33 (k:H) (h:H->G:=by intro k;refine Q0 ?_;exact q32 k):G:=h k
theorem Q34 (k:H) (h:H->G:=by intro k;refine yS ?_;exact Q22 k):G:=h k
theorem Q35 (k:H) (h:H->G:=by intro k;refine Q1 ?_;exact Q0 k):G:=h k
theorem Q36 (k:H) (h:H->G:=by intro k;refine q28 ?_;exact zK k):G:=h k
theorem Q37 (k:H) (h:H->G:=by intro k;refine q30 ?_;exact zK k):G:=h k
theorem Q38 (k:H) (h:H->G:=by intro k;refine zO ?_;exact Q13 k):G:=h k
theorem Q39 (k:H) (h:H->G:=by intro k;refine q17 ?_;exact zK k):G:=h k
theorem Q40 (k:H) (h:H->G:=by intro k;refine Q2 ?_;exact Q1 k):G:=h k
theorem Q41 (k:H) (h:H->G:=by intro k;refine zO ?_;exact Q20 k):G:=h k
theorem Q42 (k:H) (h:H->G:=by intro k;refine xn [12] ?_;exact q14 uS k):G:=h k
theorem Q43 (k:H) (h:H->G:=by intro k;refine Q3 ?_;exact Q4 k):G:=h k
theorem Q44 (k:H) (h:H->G:=by intro k;refine q37 ?_;exact wB k):G:=h k
theorem Q45 (k:H) (h:H->G:=by intro k;refine q22 ?_;exact zK k):G:=h k
theorem Q46 (k:H) (h:H->G:=by intro k;refine zO ?_;exact Q0 k):G:=h k
theorem Q47 (k:H) (h:H->G:=by intro k;refine q17 ?_;exact Q1 k):G:=h k
theorem Q48 (k:H) (h:H->G:=by intro k;refine Q16 ?_;exact Q0 k):G:=h k
theorem Q49 (k:H) (h:H->G:=by intro k;refine xn [11] ?_;exact q14 uS k):G:=h k
theorem Q50 (k:H) (h:H->G:=by intro k;refine Q49 ?_;exact Q42 k):G:=h k
theorem Q51 (k:H) (h:H->G:=by intro k;refine q1 ?_;exact Q1 k):G:=h k
theorem Q52 (k:H) (h:H->G:=by intro k;refine Q21 ?_;exact Q11 k):G:=h k
theorem Q53 (k:H) (h:H->G:=by intro k;refine Q3 ?_;exact Q2 k):G:=h k
theorem Q54 (k:H) (h:H->G:=by intro k;refine zK ?_;exact Q0 k):G:=h k
theorem Q55 (k:H) (h:H->G:=by intro k;refine Q33 ?_;exact q44 k):G:=h k
theorem Q56 (k:H) (h:H->G:=by intro k;refine q12 G28 ?_;exact q12 G32 k):G:=h k
theorem Q57 (k:H) (h:H->G:=by intro k;refine Q14 ?_;exact q4 S23 k):G:=h k
theorem Q58 (k:H) (h:H->G:=by intro k;refine zO ?_;exact Q3 k):G:=h k
theorem Q59 (k:H) (h:H->G:=by intro k;refine q53 ?_;exact zK k):G:=h k
theorem Q60 (k:H) (h:H->G:=by intro k;refine q18 G43 ?_;exact zK k):G:=h k
theorem Q61 (k:H) (h:H->G:=by intro k;refine Q57 ?_;exact Q6 k):G:=h k
theorem Q62 (k:H) (h:H->G:=by intro k;refine Q12 ?_;exact q0 k):G:=h k
theorem Q63 (k:H) (h:H->G:=by intro k;refine q4 yD ?_;exact Q24 k):G:=h k
theorem Q64 (k:H) (h:H->G:=by intro k;refine Q9 ?_;exact Q2 k):G:=h k
theorem Q65 (k:H) (h:H->G:=by intro k;refine yW ?_;exact Q2 k):G:=h k
theorem Q66 (k:H) (h:H->G:=by intro k;refine yW ?_;exact Q0 k):G:=h k
theorem Q67 (k:H) (h:H->G:=by intro k;refine Q15 ?_;exact Q37 k):G:=h k
theorem Q68 (k:H) (h:H->G:=by intro k;refine q64 ?_;exact Q60 k):G:=h k
theorem Q69 (k:H) (h:H->G:=by intro k;refine Q15 ?_;exact q0 k):G:=h k
theorem Q70 (k:H) (h:H->G:=by intro k;refine zO ?_;exact Q4 k):G:=h k
theorem Q71 (k:H) (h:H->G:=by intro k;refine Q26 ?_;exact Q12 k):G:=h k
theorem Q72 (k:H) (h:H->G:=by intro k;refine xn [2] ?_;exact q76 zAW O22 k):G:=h k
theorem Q73 (k:H) (h:H->G:=by intro k;refine Q72 ?_;exact Q30 k):G:=h k
theorem Q74 (k:H) (h:H->G:=by intro k;refine Q5 ?_;exact Q0 k):G:=h k
theorem Q75 (k:H) (h:H->G:=by intro k;refine Q14 ?_;exact Q6 k):G:=h k
theorem Q76 (k:H) (h:H->G:=by intro k;refine Q9 ?_;exact yS k):G:=h k
theorem Q77 (k:H) (h:H->G:=by intro k;refine q34 ?_;exact Q1 k):G:=h k
theorem Q78 (k:H) (h:H->G:=by intro k;refine q2 zN4 ?_;exact q7 O3 k):G:=h k
theorem Q79 (k:H) (h:H->G:=by intro k;refine Q56 ?_;exact q12 G34 k):G:=h k
theorem Q80 (k:H) (h:H->G:=by intro k;refine Q3 ?_;exact Q34 k):G:=h k
theorem Q81 (k:H) (h:H->G:=by intro k;refine Q9 ?_;exact Q27 k):G:=h k
theorem Q82 (k:H) (h:H->G:=by intro k;refine q80 ?_;exact q51 k):G:=h k
theorem Q83 (k:H) (h:H->G:=by intro k;refine Q82 ?_;exact q51 k):G:=h k
theorem Q84 (k:H) (h:H->G:=by intro k;refine Q8 ?_;exact q0 k):G:=h k
theorem Q85 (k:H) (h:H->G:=by intro k;refine q4 yD ?_;exact Q6 k):G:=h k
theorem Q86 (k:H) (h:H->G:=by intro k;refine q39 ?_;exact zK k):G:=h k
theorem Q87 (k:H) (h:H->G:=by intro k;refine q0 ?_;exact q23 yD k):G:=h k
theorem Q88 (k:H) (h:H->G:=by intro k;refine q50 ?_;exact Q50 k):G:=h k
theorem Q89 (k:H) (h:H->G:=by intro k;refine q40 ?_;exact zK k):G:=h k
theorem Q90 (k:H) (h:H->G:=by intro k;refine Q16 ?_;exact yW k):G:=h k
theorem Q91 (k:H) (h:H->G:=by intro k;refine Q8 ?_;exact Q1 k):G:=h k
theorem Q92 (k:H) (h:H->G:=by intro k;refine Q55 ?_;exact q65 k):G:=h k
theorem Q93 (k:H) (h:H->G:=by intro k;refine q33 G28 ?_;exact q33 G32 k):G:=h k
theorem Q94 (k:H) (h:H->G:=by intro k;refine Q0 ?_;exact q70 k):G:=h k
theorem Q95 (k:H) (h:H->G:=by intro k;refine q69 ?_;exact wB k):G:=h k
theorem Q96 (k:H) (h:H->G:=by intro k;refine q2 z37 ?_;exact q7 O3 k):G:=h k
theorem Q97 (k:H) (h:H->G:=by intro k;refine q74 ?_;exact q8 k):G:=h k
theorem Q98 (k:H) (h:H->G:=by intro k;refine q40 ?_;exact Q1 k):G:=h k
theorem Q99 (k:H) (h:H->G:=by intro k;refine q2 zLJ ?_;exact q7 O24 k):G:=h k
theorem zXK (k:H) (h:H->G:=by intro k;refine Q0 ?_;exact q44 k):G:=h k
theorem z7H (k:H) (h:H->G:=by intro k;refine q2 zKQ ?_;exact q7 O3 k):G:=h k
theorem z4L (k:H) (h:H->G:=by intro k;refine Q21 ?_;exact Q12 k):G:=h k
theorem zXL (k:H) (h:H->G:=by intro k;refine xn [8] ?_;exact q41 zFS k):G:=h k
theorem zXM (k:H) (h:H->G:=by intro k;refine xn [3] ?_;exact q41 zFS k):G:=h k
theorem z7I (k:H) (h:H->G:=by intro k;refine Q1 ?_;exact Q3 k):G:=h k
theorem zXN (k:H) (h:H->G:=by intro k;refine Q16 ?_;exact Q22 k):G:=h k
theorem z0W (k:H) (h:H->G:=by intro k;refine Q99 ?_;exact q4 S24 k):G:=h k
theorem z0X (k:H) (h:H->G:=by intro k;refine q2 z36 ?_;exact q7 O29 k):G:=h k
theorem yRH (k:H) (h:H->G:=by intro k;refine Q0 ?_;exact yTL k):G:=h k
theorem yOZ (k:H) (h:H->G:=by intro k;refine q2 yFS ?_;exact q54 G28 k):G:=h k
theorem z0Y (k:H) (h:H->G:=by intro k;refine zK ?_;exact Q31 k):G:=h k
theorem z0Z (k:H) (h:H->G:=by intro k;refine q2 zLK ?_;exact q7 O3 k):G:=h k
theorem z00 (k:H) (h:H->G:=by intro k;refine yW ?_;exact Q27 k):G:=h k
theorem z7J (k:H) (h:H->G:=by intro k;refine q13 zKQ ?_;exact q19 O3 k):G:=h k
theorem z01 (k:H) (h:H->G:=by intro k;refine q2 zV0 ?_;exact q7 O23 k):G:=h k
theorem z02 (k:H) (h:H->G:=by intro k;refine q8 ?_;exact q81 k):G:=h k
theorem z03 (k:H) (h:H->G:=by intro k;refine q18 G34 ?_;exact zK k):G:=h k
theorem z7K (k:H) (h:H->G:=by intro k;refine Q93 ?_;exact q8 k):G:=h k
theorem yTO (k:H) (h:H->G:=by intro k;refine q13 yFS ?_;exact q46 G28 k):G:=h k
theorem yTP (k:H) (h:H->G:=by intro k;refine yTO ?_;exact q13 z9F k):G:=h k
theorem yTQ (k:H) (h:H->G:=by intro k;refine yTP ?_;exact q46 G32 k):G:=h k
theorem yTR (k:H) (h:H->G:=by intro k;refine yTQ ?_;exact q13 z9G k):G:=h k
theorem yRI (k:H) (h:H->G:=by intro k;refine yTR ?_;exact q46 G34 k):G:=h k
theorem yRJ (k:H) (h:H->G:=by intro k;refine q13 zV2 ?_;exact q19 O37 k):G:=h k
theorem z7L (k:H) (h:H->G:=by intro k;refine Q5 ?_;exact Q22 k):G:=h k
theorem z4M (k:H) (h:H->G:=by intro k;refine Q3 ?_;exact Q27 k):G:=h k
theorem z7M (k:H) (h:H->G:=by intro k;refine Q3 ?_;exact Q3 k):G:=h k
theorem z4N (k:H) (h:H->G:=by intro k;refine Q40 ?_;exact yB k):G:=h k
theorem z4O (k:H) (h:H->G:=by intro k;refine q66 O3 ?_;exact zK k):G:=h k
theorem z7N (k:H) (h:H->G:=by intro k;refine q67 ?_;exact zK k):G:=h k
theorem z7O (k:H) (h:H->G:=by intro k;refine q13 zN4 ?_;exact q19 O3 k):G:=h k
theorem yGP (k:H) (h:H->G:=by intro k;refine q4 S24 ?_;exact Q24 k):G:=h k
theorem z7P (k:H) (h:H->G:=by intro k;refine Q51 ?_;exact Q4 k):G:=h k
theorem yTS (k:H) (h:H->G:=by intro k;refine Q48 ?_;exact q12 G47 k):G:=h k
theorem yTT (k:H) (h:H->G:=by intro k;refine yRI ?_;exact q13 yFT k):G:=h k
theorem yTU (k:H) (h:H->G:=by intro k;refine yTT ?_;exact q19 O37 k):G:=h k
theorem yRK (k:H) (h:H->G:=by intro k;refine yTU ?_;exact yRJ k):G:=h k
theorem z7Q (k:H) (h:H->G:=by intro k;refine q7 O3 ?_;exact q5 k):G:=h k
theorem z7R (k:H) (h:H->G:=by intro k;refine Q0 ?_;exact q65 k):G:=h k
theorem z7S (k:H) (h:H->G:=by intro k;refine Q4 ?_;exact zK k):G:=h k
theorem z7T (k:H) (h:H->G:=by intro k;refine xm 0 ?_;exact xm 1 k):G:=h k
theorem z7U (k:H) (h:H->G:=by intro k;refine q4 S23 ?_;exact Q24 k):G:=h k
theorem yTV (k:H) (h:H->G:=by intro k;refine yTM ?_;exact q18 G60 k):G:=h k
theorem z7V (k:H) (h:H->G:=by intro k;refine yTV ?_;exact zK k):G:=h k
theorem z7W (k:H) (h:H->G:=by intro k;refine Q21 ?_;exact Q62 k):G:=h k
theorem yGQ (k:H) (h:H->G:=by intro k;refine q12 G43 ?_;exact q23 S24 k):G:=h k
theorem z7X (k:H) (h:H->G:=by intro k;refine q1 ?_;exact Q15 k):G:=h k
theorem yTW (k:H) (h:H->G:=by intro k;refine q3 ?_;exact q68 Tryz.underlying3 Tryz.underlying134 k):G:=h k
theorem yTX (k:H) (h:H->G:=by intro k;refine yTW ?_;exact q95 k):G:=h k
theorem z7Y (k:H) (h:H->G:=by intro k;refine yTX ?_;exact q68 Tryz.underlying134 Tryz.underlying3 k):G:=h k
theorem yCX (k:H) (h:H->G:=by intro k;refine Q1 ?_;exact yB k):G:=h k
theorem z7Z (k:H) (h:H->G:=by intro k;refine q97 ?_;exact Q35 k):G:=h k
theorem yCY (k:H) (h:H->G:=by intro k;refine Q21 ?_;exact q0 k):G:=h k
theorem z70 (k:H) (h:H->G:=by intro k;refine Q26 ?_;exact q0 k):G:=h k
theorem z71 (k:H) (h:H->G:=by intro k;refine Q35 ?_;exact Q79 k):G:=h k
theorem yCZ (k:H) (h:H->G:=by intro k;refine Q14 ?_;exact Q85 k):G:=h k
theorem yTY (k:H) (h:H->G:=by intro k;refine xn [5] ?_;exact q57 k):G:=h k
theorem z72 (k:H) (h:H->G:=by intro k;refine yTY ?_;exact Q30 k):G:=h k
theorem yO0 (k:H) (h:H->G:=by intro k;refine yRH ?_;exact yTS k):G:=h k
theorem yTZ (k:H) (h:H->G:=by intro k;refine yOZ ?_;exact q2 z9F k):G:=h k
theorem yT0 (k:H) (h:H->G:=by intro k;refine yTZ ?_;exact q54 G32 k):G:=h k
theorem yT1 (k:H) (h:H->G:=by intro k;refine yT0 ?_;exact q2 z9G k):G:=h k
theorem yK8 (k:H) (h:H->G:=by intro k;refine yT1 ?_;exact q54 G34 k):G:=h k
theorem yK9 (k:H) (h:H->G:=by intro k;refine q2 yFT ?_;exact q7 O37 k):G:=h k
end
theorem zXO {k r} (h:zKK k=some r):zC Tryz.prog 60 [(zH aR k)] [(db r)]:=by refine co Tryz.func60 ?_;intro _ _ _ _;unfold zKK at h;refine Q53 ?_;refine q4 S22 ?_;refine q67 ?_;refine Q1 ?_;exact er h
theorem zXP {H r} (h:zHN H=some r):zC Tryz.prog 61 [(zH aC H)] [(db r)]:=by
 refine co Tryz.func61 ?_;intro _ _ _ _;unfold zHN at h;refine Q80 ?_;have ⟨T,k,h⟩:=bE h;refine zP T (.exit 0) (λT=>⟨[(0,.d (zH aC H))],[]⟩) .ret (λT=>⟨[(2,.d (db T))],[]⟩) ?_ ?_ ?_;refine zB (λx=>⟨[(0,.d (zH aC H)),(3,.d (di x))],[]⟩) k wc ?_
 rintro O Y D
 replace D:zCJ H O=some Y:=D;unfold zCJ at D;refine Q57 ?_;refine q5 ?_;have ⟨_,k,D⟩:=bE D;refine q9 k ?_;refine q15 (.d (di O)) ?_;refine q82 (.d (db (decide (O<30)))) ?_;refine Q39 ?_;refine zX D (λD=>?_) (λD=>?_);refine Q81 ?_;have ⟨_,k,D⟩:=bE D;refine q11 S23 k ?_;refine q58 zH4 ?_;refine q99 O37 k ?_;refine q4 yD ?_;refine q53 ?_;have ⟨_,k,D⟩:=bE D;refine q9 k ?_;refine q42 (.d (zH aC H)) ?_;refine q42 (.d (di O)) ?_;have ⟨G,K,D⟩:=bE D;refine sqf (.ip (aC.all H) (O.toNat*aC.size)) rfl (λhb=>by subst hb;exact k4 (en:=aC) lr S23 rfl rfl K) ?_
 refine yKH (.ip (aC.all H) (O.toNat*aC.size+2)) zFO ?_;refine sqf (.d (ds G.bO)) rfl (λhb=>by subst hb;exact z6 (en:=aC) (l:=H) (i:=O) (v:=G) (off:=2) lr O9 rfl K rfl) ?_
 refine sqf (.d (di (G.bO.length:Int))) rfl (λhb=>by subst hb;exact zVM (s:=G.bO) lr Tryz.underlying9 rfl) ?_
 refine q59 (.d (db (decide (40<(G.bO.length:Int))))) ?_;refine Q45 ?_;refine zX D (λD=>?_) (λD=>?_);refine Q23 ?_;cases D;intro q;cases q;exact⟨rfl,wc⟩;refine Q38 ?_;exact ew D;refine zE ?_;cases D;intro q;cases q;exact⟨rfl,wc⟩
 rintro T rfl
 replace h:=eL h;refine Q2 ?_;refine q4 S23 ?_;refine q67 ?_;refine Q1 ?_;exact er h
 rintro T rfl
 replace h:=eR h;exact es h
theorem zXQ {k r} (h:zKL k=some r):zC Tryz.prog 62 [(bY.dv k)] [(db r)]:=by refine co Tryz.func62 ?_;intro _ _ _ _;unfold zKL at h;refine Q94 ?_;refine Q35 ?_;refine z0W ?_;refine q67 ?_;refine Q1 ?_;exact er h
theorem zXR {D r} (h:zHO D=some r):zC Tryz.prog 32 [(bD.dv D)] [(db r)]:=by
 refine co Tryz.func32 ?_;intro _ _ _ _;unfold zHO at h;refine Q33 ?_;refine Q35 ?_;refine q2 zAW ?_;refine q7 O22 ?_;have ⟨_,k,h⟩:=bE h;refine q6 (zXO k) ?_;have ⟨_,k,h⟩:=bE h;refine q9 k ?_;refine q55 (.ip (bD.cells D) (0+1)) zV0 ?_;refine q62 (.d (zH aC D.aA)) O23 ?_;have ⟨O,H,h⟩:=bE h;refine sqt (.d (db O)) rfl (λhb=>by subst hb;exact jS lr rfl (zXP H)) ?_
 refine q17 ?_;have ⟨_,k,h⟩:=bE h;refine q9 k ?_;refine q55 (.ip (bD.cells D) (0+2)) yFQ ?_;refine yKI (.d (bY.dv D.aN)) G26 ?_;have ⟨K,G,h⟩:=bE h;refine sqt (.d (db K)) rfl (λhb=>by subst hb;exact jS lr rfl (zXQ G)) ?_
 refine Q47 ?_;exact er h
theorem zXS {G r} (h:zHP G=some r):zC Tryz.prog 33 [(aI.dv G)] [(db r)]:=by
 refine co Tryz.func33 ?_;intro _ _ _ _;unfold zHP at h;refine zXK ?_;refine Q48 ?_;refine z0X ?_;refine q4 S29 ?_;refine q53 ?_;have ⟨_,k,h⟩:=bE h;refine q9 k ?_;refine q24 (.ip (aI.cells G) (0+1)) zV1 ?_;refine q26 (.d (zH aY G.aE)) O30 ?_;refine q83 (.d (di (G.aE.length:Int))) S30 ?_;refine q59 (.d (db (decide (8<(G.aE.length:Int))))) ?_;refine Q45 ?_;refine zX h (λh=>?_) (λh=>?_);refine Q3 ?_;exact er h;refine z7L ?_;have ⟨T,k,h⟩:=bE h;refine zP T (.exit 0) (λT=>⟨[],[]⟩) .ret (λT=>⟨[(2,.d (db T))],[]⟩) ?_ ?_ ?_;refine zB (λx=>⟨[(1,.d (.pt (aI.cells G))),(3,.d (di x))],[]⟩) k wc ?_
 rintro O Y D
 replace D:zCK G O=some Y:=D;unfold zCK at D;refine Q4 ?_;refine z0X ?_;refine q4 S29 ?_;refine Q6 ?_;refine zX D (λD=>?_) (λD=>?_);refine Q32 ?_;refine z0X ?_;refine q0 ?_;have ⟨Z,k,D⟩:=bE D;refine q11 S29 k ?_;refine q58 zJL ?_;refine jT (z6 (en:=bB) (l:=G.aB) (i:=O) (v:=Z) (off:=0) lr O37 rfl k rfl) ?_;refine q4 yD ?_;refine q53 ?_;have ⟨_,k,D⟩:=bE D;refine q9 k ?_;refine q24 (.ip (aI.cells G) (0+0)) z36 ?_;refine q26 (.d (zH bB G.aB)) O29 ?_;refine q42 (.d (di O)) ?_;have ⟨H,K,D⟩:=bE D;refine sqf (.ip (bB.all G.aB) (O.toNat*bB.size)) rfl (λhb=>by subst hb;exact k4 (en:=bB) lr S29 rfl rfl K) ?_
 refine yKH (.ip (bB.all G.aB) (O.toNat*bB.size+1)) zN5 ?_;refine sqf (.d (zH aG H.aU)) rfl (λhb=>by subst hb;exact z6 (en:=bB) (l:=G.aB) (i:=O) (v:=H) (off:=1) lr O79 rfl K rfl) ?_
 refine q83 (.d (di (H.aU.length:Int))) S79 ?_;refine q59 (.d (db (decide (20<(H.aU.length:Int))))) ?_;refine Q45 ?_;refine zX D (λD=>?_) (λD=>?_);refine Q23 ?_;cases D;intro q;cases q;exact⟨rfl,wc⟩;refine Q38 ?_;exact ew D;refine zE ?_;cases D;intro q;cases q;exact⟨rfl,wc⟩
 rintro T rfl
 replace h:=eL h;refine Q3 ?_;exact er h
 rintro T rfl
 replace h:=eR h;exact es h
theorem zN6 {k a1 r} (h:zI0 k a1=some r):zC Tryz.prog 13 [(zH eI k),(di a1)] [(db r)]:=by refine co Tryz.func13 ?_;intro _ _ _ _;unfold zI0 at h;refine Q53 ?_;refine q4 yD ?_;refine q0 ?_;refine q67 ?_;refine Q1 ?_;exact er h
theorem zN7 {D r} (h:zGU D=some r):zC Tryz.prog 17 [(aV.dv D)] [(db r)]:=by
 refine co Tryz.func17 ?_;intro _ _ _ _;unfold zGU at h;refine yRH ?_;refine Q35 ?_;refine yOZ ?_;have ⟨_,k,h⟩:=bE h;refine q6 (zXR k) ?_;have ⟨_,k,h⟩:=bE h;refine q9 k ?_;refine q55 (.ip (aV.cells D) (0+3)) z9F ?_;refine yKI (.d (aI.dv D.Collation)) G32 ?_;have ⟨t9,O,h⟩:=bE h;refine sqt (.d (db t9)) rfl (λhb=>by subst hb;exact jS lr rfl (zXS O)) ?_
 refine q17 ?_;have ⟨_,k,h⟩:=bE h;refine q9 k ?_;refine q55 (.ip (aV.cells D) (0+12)) yFT ?_;refine q62 (.d (zH eI D.bL)) O37 ?_;have ⟨T,G,h⟩:=bE h;refine sqt (.d (db T)) rfl (λhb=>by subst hb;exact jS lr rfl (zN6 G)) ?_
 refine q17 ?_;have ⟨_,k,h⟩:=bE h;refine q9 k ?_;refine q55 (.ip (aV.cells D) (0+13)) zV2 ?_;refine q62 (.d (zH eI D.bW)) O37 ?_;have ⟨Y,H,h⟩:=bE h;refine sqt (.d (db Y)) rfl (λhb=>by subst hb;exact jS lr rfl (zN6 H)) ?_
 refine q17 ?_;have ⟨_,k,h⟩:=bE h;refine q9 k ?_;refine q55 (.ip (aV.cells D) (0+14)) zZC ?_;refine q62 (.d (zH eI D.b5)) O37 ?_;have ⟨Z,K,h⟩:=bE h;refine sqt (.d (db Z)) rfl (λhb=>by subst hb;exact jS lr rfl (zN6 K)) ?_
 refine Q47 ?_;exact er h
theorem zT0 {r} (h:zHE=some r):zC Tryz.prog 39 [] [(aI.dv r)]:=by refine co Tryz.func39 ?_;intro _ _ _ _;unfold zHE at h;refine Q0 ?_;refine yKJ ?_;refine Q54 ?_;refine q23 yD ?_;refine q49 B82 ?_;refine q23 S79 ?_;refine q49 B91 ?_;refine yCG ?_;refine q18 G91 ?_;refine zK ?_;refine zN (zR (t:=1) lr rfl rfl rfl) ?_;refine Q0 ?_;refine q23 yD ?_;refine q49 B82 ?_;refine q23 S79 ?_;refine q49 B91 ?_;refine yCG ?_;refine q18 G91 ?_;refine zK ?_;refine zN (zR (t:=2) lr rfl rfl rfl) ?_;refine Q0 ?_;refine q23 yD ?_;refine q49 B82 ?_;refine q23 S79 ?_;refine q49 B91 ?_;refine yCG ?_;refine q18 G91 ?_;refine zK ?_;refine zN (zR (t:=3) lr rfl rfl rfl) ?_;refine Q0 ?_;refine q12 G91 ?_;refine q12 G91 ?_;refine q12 G91 ?_;refine q23 S29 ?_;refine jT ((zFC lr B32 rfl rfl).nils (bs:=aI.cells ({aB:=[({aX:=[65],aU:=[({aS:=5,aL:=32,aO:=8,aD:=false}:aP)]}:bP),({aX:=[97],aU:=[({aS:=5,aL:=32,aO:=2,aD:=false}:aP)]}:bP),({aX:=[769],aU:=[({aS:=0,aL:=40,aO:=2,aD:=false}:aP)]}:bP)],aE:=[],bK:=64448,bA:=32,bJ:=2}:Collation)) (nlE (nlN (nlE (nlE (nlE nl0)))))) ?_;refine q18 G32 ?_;refine zK ?_;cases h;refine yB ?_;exact wR rfl rfl G32 rfl
set_option maxRecDepth 20000 in
theorem zQ6 {K r} (h:zIG K=some r):zC Tryz.prog 147 [(.v (.int .u64 K))] [(di r)]:=by refine co Tryz.func147 ?_;intro _ _ _ _;unfold zIG at h;refine Q43 ?_;refine Q86 ?_;have ⟨O,D,h⟩:=bE h;refine tl .normal ⟨[(0,.d (.v (.int .u64 O.1))),(2,.d (di O.2))],[]⟩ ?_ ?_;refine zX D (λD=>?_) (λD=>?_);refine Q2 ?_;refine q95 ?_;refine Q1 ?_;refine xW<|Q1 ?_;exact eo D;refine zO ?_;exact eo D;refine Q4 ?_;refine Q86 ?_;have ⟨T,G,h⟩:=bE h;refine tl .normal ⟨[(0,.d (.v (.int .u64 T.1))),(2,.d (di T.2))],[]⟩ ?_ ?_;refine zX G (λG=>?_) (λG=>?_);refine Q2 ?_;refine q95 ?_;refine Q1 ?_;refine Q13 ?_;exact eo G;refine zO ?_;exact eo G;refine Q4 ?_;refine Q86 ?_;have ⟨Y,H,h⟩:=bE h;refine tl .normal ⟨[(0,.d (.v (.int .u64 Y.1))),(2,.d (di Y.2))],[]⟩ ?_ ?_;refine zX H (λH=>?_) (λH=>?_);refine Q2 ?_;refine q95 ?_;refine Q1 ?_;refine Q13 ?_;exact eo H;refine zO ?_;exact eo H;refine Q27 ?_;refine q68 Tryz.underlying180 Tryz.underlying5 ?_;have ⟨_,k,h⟩:=bE h;refine yKK Tryz.underlying9 k ?_;refine q68 Tryz.underlying5 Tryz.underlying3 ?_;refine Q10 ?_;exact er h
theorem zT1 {D r} (h:zEV D=some r):zC Tryz.prog 104 [(.v (.int .u64 D))] [(di r)]:=by refine co Tryz.func104 ?_;intro _ _ _ _;unfold zEV at h;refine Q3 ?_;refine yS ?_;refine zI8 rfl ⟨λc=>(by cases c),λ_=>?_⟩;refine zO<|Q2 ?_;have ⟨_,k,h⟩:=bE h;refine q6 (zQ6 k) ?_;refine Q1 ?_;exact er h
theorem zMY {k r} (h:zEW k=some r):zC Tryz.prog 100 [(di k)] [(db r)]:=by refine co Tryz.func100 ?_;intro _ _ _ _;unfold zEW at h;refine z4M ?_;refine q30 ?_;refine Q1 ?_;exact er h
theorem yLA {l r:List Int} (h:z89 l=some r):GC Tryz.prog 75 [.row 0] [(0,.win 3 eI.size 0 (eI.all l))] [0] [] [(0,.win 3 eI.size 0 (eI.all r))]:=by
 unfold z89 at h;split at h;rename_i G;cases h;exact yJ2 (en:=eI) (encV:=Value.int .i64) (λ_=>rfl) rfl (λ_=>rfl) (by simp) ⟨_,Tryz.func75,by kernel_rfl,rfl⟩ (λ_ B c w=>Any.slices_Sort_int_none Tryz.lays189 B c w) (λblk off k w D hb=>Any.slices_Sort_int Tryz.lays189 blk off k l w D hb (by unfold LIM at G;omega))
 cases h
theorem yLB {l r:List Int} (h:z9A l=some r):GC Tryz.prog 76 [.row 0] [(0,.win 3 eI.size 0 (eI.all l))] [] [.d (zH eI r)] []:=by
 unfold z9A at h;split at h;rename_i H;cases h;exact z6W (en:=eI) (encV:=Value.int .i64) (pad:=List.replicate (l.length-(Lib.compact l).length) 0) (λ_=>rfl) rfl (λ_=>rfl) (z3W l) ⟨_,Tryz.func76,by kernel_rfl,rfl⟩ (λ_ B c w=>Any.slices_Compact_int_empty Tryz.lays2n20 B c w) (λblk off k w D G=>Any.slices_Compact_int Tryz.lays2n20 blk off k l w D (by unfold LIM at H;omega) G)
 cases h
theorem zP1 {K a1 r} (h:zCL K a1=some r):zC Tryz.prog 46 [(zH eI K),(di a1)] [(zH eI r)]:=by
 refine co Tryz.func46 ?_;intro _ _ _ _;unfold zCL at h;refine z7M ?_;refine zN (xG (t:=5) 1005 3 eI.size lr lr rfl rfl) ?_;refine Q4 ?_;refine Q63 ?_;have ⟨Z,k,h⟩:=bE h;refine tl (.exit 0) ⟨[(5,.row 1005)],[(1005,.row 3 eI.size false (eI.all Z))]⟩ ?_ ?_;refine zB (λx=>⟨[(1,.d (di a1)),(5,.row 1005),(8,.d (zH eI K)),(9,.d (di (K.length:Int))),(10,.d (di x.1))],[(1005,.row 3 eI.size false (eI.all x.2))]⟩) k wc ?_
 rintro⟨T,G⟩ Y H
 replace H:wM K a1 T G=some Y:=H;unfold wM at H;refine Q18 ?_;refine zX H (λH=>?_) (λH=>?_);refine Q5 ?_;have ⟨y2,D,H⟩:=bE H;refine tl .normal ⟨[(1,.d (di a1)),(5,.row 1005),(8,.d (zH eI K)),(9,.d (di (K.length:Int))),(10,.d (di T))],[(1005,.row 3 eI.size false (eI.all y2))]⟩ ?_ ?_;refine Q66 ?_;have ⟨O,k,D⟩:=bE D;refine q11 yD k ?_;refine q36 O3 k ?_;refine Q15 ?_;refine q39 ?_;have ⟨_,k,D⟩:=bE D;refine q9 k ?_;refine q15 (.d (di O)) ?_;refine q15 (.d (di a1)) ?_;refine q63 (.d (db (decide (O<=a1)))) ?_;refine Q39 ?_;refine zX D (λD=>?_) (λD=>?_);refine Q26 ?_;refine Q87 ?_;have ⟨_,k,D⟩:=bE D;refine yE rfl (yF (en:=eI) (l:=G) (m:=[O]) lr yD rfl rfl rfl k (by decide) (by decide) rfl rfl) ?_;refine Q11 ?_;exact eo D;refine zO ?_;exact eo D;refine Q20 ?_;exact ew H;exact zE (ex H);refine Q21 ?_;refine zEI (zQY (id:=1005) rfl) ?_ (by simp);have ⟨_,k,h⟩:=bE h;refine yE rfl (zCI [(0,1005)] (yLA k) lr (by decide) ⟨rfl,trivial⟩ rfl rfl ⟨rfl,trivial⟩ rfl rfl rfl (λ_=>rfl) rfl) ?_;refine zK<|Q21 ?_;have ⟨_,k,h⟩:=bE h;refine yE rfl (zCI [(0,1005)] (yLB k) lr (by decide) ⟨rfl,trivial⟩ rfl rfl ⟨rfl,trivial⟩ rfl rfl rfl (λ_=>rfl) rfl) ?_;refine Q1 ?_;exact er h
theorem zH7 {D r} (h:zBB D=some r):zC Tryz.prog 148 [(di D)] [(db r)]:=by refine co Tryz.func148 ?_;intro _ _ _ _;unfold zBB at h;refine Q53 ?_;refine q39 ?_;have ⟨_,k,h⟩:=bE h;refine q9 k ?_;refine q15 (.d (di D)) ?_;refine q63 (.d (db (decide (D<=65535)))) ?_;refine Q47 ?_;exact er h
theorem zP2 {K r} (h:zCM K=some r):zC Tryz.prog 183 [(ds K)] [(db r)]:=by
 refine co Tryz.func183 ?_;intro _ _ _ _;unfold zCM at h;refine Q43 ?_;refine yKL Tryz.underlying9 ?_;refine Q24 ?_;have ⟨Y,k,h⟩:=bE h;refine zP Y (.exit 0) (λY=>⟨[(0,.d (ds K))],[]⟩) .ret (λY=>⟨[(2,.d (db Y))],[]⟩) ?_ ?_ ?_;refine zB (λx=>⟨[(0,.d (ds K)),(6,.d (di (K.length:Int))),(7,.d (di x))],[]⟩) k wc ?_
 rintro v7 ab G
 replace G:wN K v7=some ab:=G;unfold wN at G;refine Q18 ?_;refine zX G (λG=>?_) (λG=>?_);refine Q64 ?_;refine Q69 ?_;have ⟨D,k,G⟩:=bE G;refine yKK Tryz.underlying9 k ?_;refine Q15 ?_;refine q39 ?_;have ⟨_,k,G⟩:=bE G;refine q9 k ?_;refine q15 (.d (dby D)) ?_;refine q63 (.d (db (decide (D<=90)))) ?_;refine q17 ?_;have ⟨_,k,G⟩:=bE G;refine q9 k ?_;refine q42 (.d (dby D)) ?_;refine z67 (.d (db (decide (97<=D)))) ?_;have ⟨O,Z,G⟩:=bE G;refine sqf (.d (db O)) rfl (λhb=>by subst hb;exact(kE lr rfl).bool (oi Z)) ?_
 refine wF (x:= .d (dby D)) rfl rfl rfl lr lr rfl (λhb=>by obtain⟨hb,H⟩:=zQ hb;obtain rfl:=gF hb;obtain rfl:O=true:=H;exact kE lr rfl) ?_
 refine wF (x:= .d (db (decide (D<=122)))) rfl rfl rfl lr lr rfl (λhb=>by obtain⟨hb,H⟩:=zQ hb;obtain rfl:=gF hb;obtain rfl:O=true:=H;exact zKE lr rfl rfl) ?_
 refine q96 (.d (db (O&&(decide (D<=122))))) ?_;refine q22 ?_;have ⟨_,k,G⟩:=bE G;refine q9 k ?_;refine q42 (.d (dby D)) ?_;refine z67 (.d (db (decide (48<=D)))) ?_;have ⟨T,aa,G⟩:=bE G;refine sqf (.d (db T)) rfl (λhb=>by subst hb;exact(kE lr rfl).bool (oi aa)) ?_
 refine wF (x:= .d (dby D)) rfl rfl rfl lr lr rfl (λhb=>by obtain⟨hb,H⟩:=zQ hb;obtain rfl:=gF hb;obtain rfl:T=true:=H;exact kE lr rfl) ?_
 refine wF (x:= .d (db (decide (D<=57)))) rfl rfl rfl lr lr rfl (λhb=>by obtain⟨hb,H⟩:=zQ hb;obtain rfl:=gF hb;obtain rfl:T=true:=H;exact zKE lr rfl rfl) ?_
 refine q96 (.d (db (T&&(decide (D<=57))))) ?_;refine q22 ?_;have ⟨_,k,G⟩:=bE G;refine q9 k ?_;refine q42 (.d (dby D)) ?_;refine yCE (.d (db (decide (D=95)))) ?_;refine q22 ?_;refine Q36 ?_;refine zX G (λG=>?_) (λG=>?_);refine Q23 ?_;cases G;intro q;cases q;exact⟨rfl,wc⟩;refine Q41 ?_;exact ew G;refine zE ?_;cases G;intro q;cases q;exact⟨rfl,wc⟩
 rintro Y rfl
 replace h:=eL h;refine Q2 ?_;refine yCH ?_;have ⟨_,k,h⟩:=bE h;refine q9 k ?_;refine q15 (.d (ds K)) ?_;refine sqt (.d (di (K.length:Int))) rfl (λhb=>by subst hb;exact zVM (s:=K) lr Tryz.underlying9 rfl) ?_
 refine q63 (.d (db (decide ((K.length:Int)<=32)))) ?_;refine Q47 ?_;exact er h
 rintro Y rfl
 replace h:=eR h;exact es h
theorem zLM {D r} (h:vX D=some r):zC Tryz.prog 149 [(aI.dv D)] [(di r)]:=by
 refine co Tryz.func149 ?_;intro _ _ _ _;unfold vX at h;refine zXK ?_;refine Q48 ?_;refine q2 zV1 ?_;refine q7 O30 ?_;refine q4 S30 ?_;refine Q24 ?_;have ⟨y1,am,h⟩:=bE h;refine zP y1 (.exit 0) (λy1=>⟨[(1,.d (.pt (aI.cells D)))],[]⟩) .ret (λy1=>⟨[(2,.d (di y1))],[]⟩) ?_ ?_ ?_;refine zB (λx=>⟨[(1,.d (.pt (aI.cells D))),(13,.d (zH aY D.aE)),(14,.d (di (D.aE.length:Int))),(15,.d (di x))],[]⟩) am wc ?_
 rintro aw ao O
 replace O:xM D aw=some ao:=O;unfold xM at O;refine Q18 ?_;refine zX O (λO=>?_) (λO=>?_);refine Q32 ?_;have ⟨_,aa,O⟩:=bE O;refine q11 S30 aa ?_;refine yKM z33 aa ?_;refine yKN ?_;refine q18 z33 ?_;refine zK ?_;refine zN (zR (t:=4) lr rfl rfl rfl) ?_;refine Q0 ?_;refine q2 zSE ?_;refine q7 O9 ?_;have ⟨_,ak,O⟩:=bE O;refine q6 (zP2 ak) ?_;refine Q36 ?_;refine zX O (λO=>?_) (λO=>?_);refine Q23 ?_;cases O;intro q;cases q;exact⟨rfl,wc⟩;refine Q41 ?_;exact ew O;refine zE ?_;cases O;intro q;cases q;exact⟨rfl,wc⟩
 rintro y1 rfl
 replace h:=eL h;refine Q0 ?_;refine z68 ?_;refine Q11 ?_;refine Q31 ?_;refine q2 zV1 ?_;refine q7 O30 ?_;refine q4 S30 ?_;refine Q24 ?_;have ⟨y2,an,h⟩:=bE h;refine zP y2 (.exit 2) (λy2=>⟨[(1,.d (.pt (aI.cells D)))],[]⟩) .ret (λy2=>⟨[(2,.d (di y2))],[]⟩) ?_ ?_ ?_;refine zB (λx=>⟨[(1,.d (.pt (aI.cells D))),(5,.row 24),(26,.d (zH aY D.aE)),(27,.d (di (D.aE.length:Int))),(28,.d (di x.1))],[(24,.map (wH kS eB x.2))]⟩) an wc ?_
 rintro⟨ax,al⟩ ap T
 replace T:jU D ax al=some ap:=T;unfold jU at T;refine Q18 ?_;refine zX T (λT=>?_) (λT=>?_);refine Q32 ?_;have ⟨au,ab,T⟩:=bE T;refine q11 S30 ab ?_;refine yKM z33 ab ?_;refine yKN ?_;refine q18 z33 ?_;refine zK ?_;refine zN (zR (t:=7) lr rfl rfl rfl) ?_;refine yS<|Q21 ?_;refine q2 zSE ?_;refine q7 O9 ?_;refine jT (yE2 (kv:=kS) (ev:=eB) (mp:=al) (k:=au.bT) (zero:=false) lr yQ8 K9 rfl rfl rfl (λ_ _=> .v _)) ?_;refine zK ?_;refine zX T (λT=>?_) (λT=>?_);refine Q23 ?_;cases T;intro q;cases q;exact⟨rfl,wc⟩;refine zO<|Q26 ?_;refine q2 zSE ?_;refine q7 O9 ?_;refine yCI yQ8 K9 ?_;refine zK<|Q20 ?_;exact ew T;refine zE ?_;cases T;intro q;cases q;exact⟨rfl,wc⟩
 rintro y2 rfl
 replace h:=eL h;refine Q31 ?_;refine q2 zV1 ?_;refine q7 O30 ?_;refine q4 S30 ?_;refine Q24 ?_;have ⟨y3,k,h⟩:=bE h;refine zP y3 (.exit 4) (λy3=>⟨[(1,.d (.pt (aI.cells D)))],[]⟩) .ret (λy3=>⟨[(2,.d (di y3))],[]⟩) ?_ ?_ ?_;refine zB (λx=>⟨[(1,.d (.pt (aI.cells D))),(41,.d (zH aY D.aE)),(42,.d (di (D.aE.length:Int))),(43,.d (di x))],[]⟩) k wc ?_
 rintro ay aq H
 replace H:xN D ay=some aq:=H;unfold xN at H;refine Q18 ?_;refine zX H (λH=>?_) (λH=>?_);refine Q32 ?_;have ⟨G,k,H⟩:=bE H;refine q11 S30 k ?_;refine yKM z33 k ?_;refine yKN ?_;refine q18 z33 ?_;refine zK ?_;refine zN (zR (t:=9) lr rfl rfl rfl) ?_;refine Q0 ?_;refine q2 zSF ?_;refine z7Q ?_;have ⟨_,k,H⟩:=bE H;refine q9 k ?_;refine q24 (.ip (aY.cells G) (0+2)) zSG ?_;refine q26 (.d (di G.Hi)) O3 ?_;refine q24 (.ip (aY.cells G) (0+1)) zSF ?_;refine q26 (.d (di G.Lo)) O3 ?_;refine yOV (.d (db (decide (G.Hi<G.Lo)))) ?_;refine q22 ?_;have ⟨_,k,H⟩:=bE H;refine q9 k ?_;refine q24 (.ip (aY.cells G) (0+2)) zSG ?_;refine q26 (.d (di G.Hi)) O3 ?_;refine q24 (.ip (aI.cells D) (0+2)) zPK ?_;refine q26 (.d (di D.bK)) O3 ?_;refine z67 (.d (db (decide (D.bK<=G.Hi)))) ?_;refine Q45 ?_;refine zX H (λH=>?_) (λH=>?_);refine Q23 ?_;cases H;intro q;cases q;exact⟨rfl,wc⟩;refine Q41 ?_;exact ew H;refine zE ?_;cases H;intro q;cases q;exact⟨rfl,wc⟩
 rintro y3 rfl
 replace h:=eL h;refine Q31 ?_;refine q2 zV1 ?_;refine q7 O30 ?_;refine q4 S30 ?_;refine Q24 ?_;have ⟨y4,k,h⟩:=bE h;refine zP y4 (.exit 6) (λy4=>⟨[],[]⟩) .ret (λy4=>⟨[(2,.d (di y4))],[]⟩) ?_ ?_ ?_;refine zB (λx=>⟨[(1,.d (.pt (aI.cells D))),(66,.d (zH aY D.aE)),(67,.d (di (D.aE.length:Int))),(68,.d (di x))],[]⟩) k wc ?_
 rintro Y ar K
 replace K:xO D Y=some ar:=K;unfold xO at K;refine Q18 ?_;refine zX K (λK=>?_) (λK=>?_);refine Q64 ?_;have ⟨ad,k,K⟩:=bE K;refine q11 S30 k ?_;refine yKM z33 k ?_;refine yKN ?_;refine q1 ?_;refine q18 z33 ?_;refine zK ?_;refine zN (zR (t:=11) lr rfl rfl rfl) ?_;refine yS ?_;refine zT MX rfl ?_;refine q8 ?_;refine z69 ?_;have ⟨_,k,K⟩:=bE K;refine q47 k ?_;refine z39 (.ip (aY.cells ad) (0+1)) zSF ?_;refine z4A (.d (di ad.Lo)) O3 ?_;refine z39 (.ip (aI.cells D) (0+1)) zV1 ?_;refine z4A (.d (zH aY D.aE)) O30 ?_;refine q48 (.d (di Y)) ?_;refine yCJ (.d (di (wi (Y-1)))) ?_;have ⟨Z,ac,K⟩:=bE K;refine dat (.ip (aY.all D.aE) ((wi (Y-1)).toNat*aY.size)) rfl (λhb=>by subst hb;exact k4 (en:=aY) lr S30 rfl rfl ac) ?_
 refine z4B (.ip (aY.all D.aE) ((wi (Y-1)).toNat*aY.size+2)) zSG ?_;refine dat (.d (di Z.Hi)) rfl (λhb=>by subst hb;exact z6 (en:=aY) (l:=D.aE) (i:=(wi (Y-1))) (v:=Z) (off:=2) lr O3 rfl ac rfl) ?_
 refine dat (.d (di (wi (Z.Hi+1)))) rfl (λhb=>by subst hb;exact zY1 lr rfl rfl) ?_
 refine dat (.d (db (!decide (ad.Lo=(wi (Z.Hi+1)))))) rfl (λhb=>by subst hb;exact zS8 lr rfl rfl) ?_
 refine Q95 ?_;refine zX K (λK=>?_) (λK=>?_);refine Q23 ?_;cases K;intro q;cases q;exact⟨rfl,wc⟩;refine Q41 ?_;exact ew K;refine zE ?_;cases K;intro q;cases q;exact⟨rfl,wc⟩
 rintro y4 rfl
 replace h:=eL h;refine Q3 ?_;exact er h
 rintro y4 rfl
 replace h:=eR h;exact es h
 rintro y3 rfl
 replace h:=eR h;exact es h
 rintro y2 rfl
 replace h:=eR h;exact es h
 rintro y1 rfl
 replace h:=eR h;exact es h
theorem zD1 {D r} (h:zAG D=some r):zC Tryz.prog 157 [(di D)] [(db r)]:=by refine co Tryz.func157 ?_;intro _ _ _ _;unfold zAG at h;refine Q53 ?_;refine q39 ?_;have ⟨_,k,h⟩:=bE h;refine q9 k ?_;refine q15 (.d (di D)) ?_;refine q63 (.d (db (decide (D<=1114111)))) ?_;refine Q47 ?_;exact er h
theorem zT2 {D r} (h:zEX D=some r):zC Tryz.prog 184 [(aG.dv D)] [(di r)]:=by
 refine co Tryz.func184 ?_;intro _ _ _ _;unfold zEX at h;refine z7R ?_;refine Q48 ?_;refine Q96 ?_;refine q2 zQ2 ?_;refine q7 O3 ?_;refine q2 zQ3 ?_;refine q7 O3 ?_;refine q89 zSC ?_;refine Q24 ?_;have ⟨O,k,h⟩:=bE h;refine zP O (.exit 0) (λO=>⟨[(1,.d (.pt (aG.cells D)))],[]⟩) .ret (λO=>⟨[(2,.d (di O))],[]⟩) ?_ ?_ ?_;refine zB (λx=>⟨[(1,.d (.pt (aG.cells D))),(11,.d (cK.dv ({x0:=D.aS,x1:=D.aL,x2:=D.aO}:b0))),(12,.d (di x))],[]⟩) k wc ?_
 rintro ab aa G
 replace G:zAY D ab=some aa:=G;unfold zAY at G;refine Q18 ?_;refine zX G (λG=>?_) (λG=>?_);refine Q32 ?_;have ⟨Z,k,G⟩:=bE G;refine jT (zNU (en:=eI) (l:=[({x0:=D.aS,x1:=D.aL,x2:=D.aO}:b0).x0,({x0:=D.aS,x1:=D.aL,x2:=D.aO}:b0).x1,({x0:=D.aS,x1:=D.aL,x2:=D.aO}:b0).x2]) lr zSC O3 (λ_=>rfl) rfl rfl rfl k) ?_;refine Q15 ?_;refine q5 ?_;have ⟨_,k,G⟩:=bE G;refine q9 k ?_;refine q42 (.d (di Z)) ?_;refine q59 (.d (db (decide (65535<Z)))) ?_;refine Q45 ?_;refine zX G (λG=>?_) (λG=>?_);refine Q23 ?_;cases G;intro q;cases q;exact⟨rfl,wc⟩;refine Q41 ?_;exact ew G;refine zE ?_;cases G;intro q;cases q;exact⟨rfl,wc⟩
 rintro O rfl
 replace h:=eL h;refine yS<|Q66 ?_;refine Q96 ?_;refine q30 ?_;have ⟨K,k,h⟩:=bE h;refine q9 k ?_;refine q55 (.ip (aG.cells D) (0+1)) zQ2 ?_;refine q62 (.d (di D.aL)) O3 ?_;refine z0R (.d (db (decide (D.aL=0)))) ?_;have ⟨T,Y,h⟩:=bE h;refine sqt (.d (db T)) rfl (λhb=>by subst hb;exact(kE lr rfl).bool (oi Y)) ?_
 refine wF (x:= .ip (aG.cells D) (0+2)) rfl rfl rfl lr lr rfl (λhb=>by obtain⟨hb,H⟩:=zQ hb;obtain rfl:K=true:=hb;obtain rfl:=gF H;exact uB lr zQ3 rfl) ?_
 refine wF (x:= .d (di D.aO)) rfl rfl rfl lr lr rfl (λhb=>by obtain⟨hb,H⟩:=zQ hb;obtain rfl:K=true:=hb;obtain rfl:=gF H;exact w6 lr O3 rfl rfl) ?_
 refine wF (x:= .d (db (decide (D.aO=0)))) rfl rfl rfl lr lr rfl (λhb=>by obtain⟨hb,H⟩:=zQ hb;obtain rfl:K=true:=hb;obtain rfl:=gF H;exact zMT lr rfl rfl) ?_
 refine yKO (.d (db (T ||(decide (D.aO=0))))) ?_;refine Q47 ?_;refine zX h (λh=>?_) (λh=>?_);refine Q3 ?_;exact er h;refine Q0 ?_;refine q2 zQ2 ?_;refine q7 O3 ?_;refine q30 ?_;have ⟨_,k,h⟩:=bE h;refine q9 k ?_;refine q55 (.ip (aG.cells D) (0+2)) zQ3 ?_;refine q62 (.d (di D.aO)) O3 ?_;refine z0R (.d (db (decide (D.aO=0)))) ?_;refine Q47 ?_;refine zX h (λh=>?_) (λh=>?_);refine Q3 ?_;exact er h;refine Q0 ?_;refine q2 zZD ?_;refine q7 O4 ?_;have ⟨_,k,h⟩:=bE h;refine q9 k ?_;refine q55 (.ip (aG.cells D) (0+0)) z37 ?_;refine q62 (.d (di D.aS)) O3 ?_;refine z0R (.d (db (decide (D.aS=0)))) ?_;refine Q47 ?_;refine zX h (λh=>?_) (λh=>?_);refine Q3 ?_;exact er h;refine Q58 ?_;exact er h
 rintro O rfl
 replace h:=eR h;exact es h
theorem zME {D a1 r} (h:uU D a1=some r):zC Tryz.prog 150 [(bB.dv D),(di a1)] [(di r)]:=by
 refine co Tryz.func150 ?_;intro _ _ _ _;unfold uU at h;refine Q0 ?_;refine yF3 ?_;refine Q48 ?_;refine q2 zJL ?_;refine q7 O37 ?_;refine q4 yD ?_;refine q5 ?_;have ⟨_,k,h⟩:=bE h;refine q9 k ?_;refine q24 (.ip (bB.cells D) (0+0)) zJL ?_;refine q26 (.d (zH eI D.aX)) O37 ?_;refine q83 (.d (di (D.aX.length:Int))) yD ?_;refine q59 (.d (db (decide (8<(D.aX.length:Int))))) ?_;refine q22 ?_;have ⟨_,k,h⟩:=bE h;refine q9 k ?_;refine q24 (.ip (bB.cells D) (0+1)) zN5 ?_;refine q26 (.d (zH aG D.aU)) O79 ?_;refine q83 (.d (di (D.aU.length:Int))) S79 ?_;refine q59 (.d (db (decide (16<(D.aU.length:Int))))) ?_;refine Q45 ?_;refine zX h (λh=>?_) (λh=>?_);refine Q3 ?_;exact er h;refine Q74 ?_;refine q2 zJL ?_;refine q7 O37 ?_;refine Q63 ?_;have ⟨O,k,h⟩:=bE h;refine zP O (.exit 0) (λO=>⟨[(1,.d (di a1)),(2,.d (.pt (bB.cells D)))],[]⟩) .ret (λO=>⟨[(4,.d (di O))],[]⟩) ?_ ?_ ?_;refine zB (λx=>⟨[(1,.d (di a1)),(2,.d (.pt (bB.cells D))),(29,.d (zH eI D.aX)),(30,.d (di (D.aX.length:Int))),(31,.d (di x))],[]⟩) k wc ?_
 rintro ac Z G
 replace G:jX D ac=some Z:=G;unfold jX at G;refine Q18 ?_;refine zX G (λG=>?_) (λG=>?_);refine Q32 ?_;have ⟨_,k,G⟩:=bE G;refine q11 yD k ?_;refine q36 O3 k ?_;refine Q15 ?_;have ⟨_,k,G⟩:=bE G;refine q6 (zD1 k) ?_;refine Q36 ?_;refine zX G (λG=>?_) (λG=>?_);refine Q23 ?_;cases G;intro q;cases q;exact⟨rfl,wc⟩;refine Q41 ?_;exact ew G;refine zE ?_;cases G;intro q;cases q;exact⟨rfl,wc⟩
 rintro O rfl
 replace h:=eL h;refine Q31 ?_;refine q2 zN5 ?_;refine q7 O79 ?_;refine q4 S79 ?_;refine Q24 ?_;have ⟨T,k,h⟩:=bE h;refine zP T (.exit 2) (λT=>⟨[(1,.d (di a1)),(2,.d (.pt (bB.cells D)))],[]⟩) .ret (λT=>⟨[(4,.d (di T))],[]⟩) ?_ ?_ ?_;refine zB (λx=>⟨[(1,.d (di a1)),(2,.d (.pt (bB.cells D))),(40,.d (zH aG D.aU)),(41,.d (di (D.aU.length:Int))),(42,.d (di x))],[]⟩) k wc ?_
 rintro ad aa H
 replace H:xY D ad=some aa:=H;unfold xY at H;refine Q18 ?_;refine zX H (λH=>?_) (λH=>?_);refine Q32 ?_;have ⟨_,k,H⟩:=bE H;refine q11 S79 k ?_;refine yF4 G82 k ?_;refine yKB ?_;refine q18 G82 ?_;refine zK ?_;refine zN (zR (t:=8) lr rfl rfl rfl) ?_;refine Q0 ?_;refine q12 G82 ?_;have ⟨_,k,H⟩:=bE H;refine q6 (zT2 k) ?_;refine Q67 ?_;refine zX H (λH=>?_) (λH=>?_);refine z4N ?_;cases H;intro q;cases q;exact⟨rfl,wc⟩;refine Q41 ?_;exact ew H;refine zE ?_;cases H;intro q;cases q;exact⟨rfl,wc⟩
 rintro T rfl
 replace h:=eL h;refine Q31 ?_;refine q2 zN5 ?_;refine q7 O79 ?_;refine q4 S79 ?_;refine Q24 ?_;have ⟨Y,k,h⟩:=bE h;refine zP Y (.exit 4) (λY=>⟨[],[]⟩) .ret (λY=>⟨[(4,.d (di Y))],[]⟩) ?_ ?_ ?_;refine zB (λx=>⟨[(1,.d (di a1)),(53,.d (zH aG D.aU)),(54,.d (di (D.aU.length:Int))),(55,.d (di x))],[]⟩) k wc ?_
 rintro ag ab K
 replace K:jY D a1 ag=some ab:=K;unfold jY at K;refine Q18 ?_;refine zX K (λK=>?_) (λK=>?_);refine Q32 ?_;have ⟨_,k,K⟩:=bE K;refine q11 S79 k ?_;refine yF4 G82 k ?_;refine yKB ?_;refine q18 G82 ?_;refine zK ?_;refine zN (zR (t:=11) lr rfl rfl rfl) ?_;refine Q0 ?_;refine Q96 ?_;refine q0 ?_;refine Q86 ?_;refine zX K (λK=>?_) (λK=>?_);refine Q23 ?_;cases K;intro q;cases q;exact⟨rfl,wc⟩;refine Q41 ?_;exact ew K;refine zE ?_;cases K;intro q;cases q;exact⟨rfl,wc⟩
 rintro Y rfl
 replace h:=eL h;refine Q3 ?_;exact er h
 rintro Y rfl
 replace h:=eR h;exact es h
 rintro T rfl
 replace h:=eR h;exact es h
 rintro O rfl
 replace h:=eR h;exact es h
theorem vO {D a1 r} (h:xI D a1=some r):zC Tryz.prog 71 [(di D),(di a1)] [(di r)]:=by refine co Tryz.func71 ?_;intro _ _ _ _;unfold xI at h;refine Q53 ?_;have ⟨_,k,h⟩:=bE h;refine q6 (zMY k) ?_;refine Q15 ?_;have ⟨_,k,h⟩:=bE h;refine q6 (zMY k) ?_;refine Q1 ?_;refine z7S ?_;refine zX h (λh=>?_) (λh=>?_);refine z7S ?_;refine zX h (λh=>?_) (λh=>?_);refine Q3 ?_;exact er h;refine Q58 ?_;exact er h;refine Q70 ?_;refine zK ?_;refine zX h (λh=>?_) (λh=>?_);refine Q3 ?_;exact er h;refine zO<|Q75 ?_;refine zX h (λh=>?_) (λh=>?_);refine Q3 ?_;exact er h;refine zO<|Q14 ?_;refine Q59 ?_;refine zX h (λh=>?_) (λh=>?_);refine Q3 ?_;exact er h;refine Q58 ?_;exact er h
theorem zO5 {G a1 r} (h:zBZ G a1=some r):zC Tryz.prog 38 [(zH eI G),(zH eI a1)] [(di r)]:=by
 refine co Tryz.func38 ?_;intro _ _ _ _;unfold zBZ at h;refine Q43 ?_;refine q4 yD ?_;refine q0 ?_;refine q4 yD ?_;refine yF6 ?_;refine Q24 ?_;have ⟨H,k,h⟩:=bE h;refine zP H (.exit 0) (λH=>⟨[(0,.d (zH eI G)),(1,.d (zH eI a1))],[]⟩) .ret (λH=>⟨[(4,.d (di H))],[]⟩) ?_ ?_ ?_;refine zB (λx=>⟨[(0,.d (zH eI G)),(1,.d (zH eI a1)),(10,.d (di (min (G.length:Int) (a1.length:Int)))),(11,.d (di x))],[]⟩) k wc ?_
 rintro O K D
 replace D:w9 G a1 O=some K:=D;unfold w9 at D;refine Q18 ?_;refine zX D (λD=>?_) (λD=>?_);refine Q64 ?_;refine Q16 ?_;refine zT MX rfl ?_;refine Q25 ?_;have ⟨_,k,D⟩:=bE D;refine q29 yD k ?_;refine q73 O3 k ?_;refine Q25 ?_;have ⟨_,k,D⟩:=bE D;refine q29 yD k ?_;refine q73 O3 k ?_;refine yKP ?_;refine wB ?_;refine zX D (λD=>?_) (λD=>?_);refine yS ?_;refine zT MX rfl ?_;refine Q25 ?_;have ⟨_,k,D⟩:=bE D;refine q29 yD k ?_;refine q73 O3 k ?_;refine Q25 ?_;have ⟨_,k,D⟩:=bE D;refine q29 yD k ?_;refine q73 O3 k ?_;have ⟨_,k,D⟩:=bE D;refine q20 (vO k) ?_;refine Q44 ?_;refine yB ?_;cases D;intro q;cases q;exact⟨rfl,wc⟩;refine Q41 ?_;exact ew D;refine zE ?_;cases D;intro q;cases q;exact⟨rfl,wc⟩
 rintro H rfl
 replace h:=eL h;refine Q2 ?_;refine q4 yD ?_;refine q0 ?_;refine q4 yD ?_;have ⟨_,k,h⟩:=bE h;refine q6 (vO k) ?_;refine Q1 ?_;exact er h
 rintro H rfl
 replace h:=eR h;exact es h
theorem zQ7 {G r} (h:zBN G=some r):zC Tryz.prog 107 [(aI.dv G)] [(di r)]:=by
 refine co Tryz.func107 ?_;intro _ _ _ _;unfold zBN at h;refine zXK ?_;refine Q48 ?_;refine q2 zPK ?_;refine z7Q ?_;have ⟨_,k,h⟩:=bE h;refine q9 k ?_;refine q24 (.ip (aI.cells G) (0+2)) zPK ?_;refine q26 (.d (di G.bK)) O3 ?_;refine q59 (.d (db (decide (65502<G.bK)))) ?_;refine q22 ?_;have ⟨_,k,h⟩:=bE h;refine q9 k ?_;refine q24 (.ip (aI.cells G) (0+3)) z9C ?_;refine q26 (.d (di G.bA)) O3 ?_;have ⟨ab,Y,h⟩:=bE h;refine sqf (.d (db ab)) rfl (λhb=>by subst hb;exact jS lr rfl (zH7 Y)) ?_
 refine z64 (.d (db (!ab))) ?_;refine q22 ?_;have ⟨_,k,h⟩:=bE h;refine q9 k ?_;refine q24 (.ip (aI.cells G) (0+4)) z9D ?_;refine q26 (.d (di G.bJ)) O3 ?_;have ⟨ac,Z,h⟩:=bE h;refine sqf (.d (db ac)) rfl (λhb=>by subst hb;exact jS lr rfl (zH7 Z)) ?_
 refine z64 (.d (db (!ac))) ?_;refine Q45 ?_;refine zX h (λh=>?_) (λh=>?_);refine Q3 ?_;exact er h;refine Q74 ?_;refine q12 G32 ?_;have ⟨_,k,h⟩:=bE h;refine q6 (zLM k) ?_;refine Q67 ?_;refine zX h (λh=>?_) (λh=>?_);refine Q40 ?_;exact er h;refine Q74 ?_;refine z0X ?_;refine q4 S29 ?_;refine Q24 ?_;have ⟨T,k,h⟩:=bE h;refine zP T (.exit 0) (λT=>⟨[],[]⟩) .ret (λT=>⟨[(2,.d (di T))],[]⟩) ?_ ?_ ?_;refine zB (λx=>⟨[(1,.d (.pt (aI.cells G))),(33,.d (zH bB G.aB)),(34,.d (di (G.aB.length:Int))),(35,.d (di x))],[]⟩) k wc ?_
 rintro H ah D
 replace D:uC G H=some ah:=D;unfold uC at D;refine Q18 ?_;refine zX D (λD=>?_) (λD=>?_);refine Q64 ?_;have ⟨O,k,D⟩:=bE D;refine q11 S29 k ?_;refine jT (zAL (en:=bB) (l:=G.aB) (i:=H) (v:=O) (off:=0) lr G91 rfl k rfl rfl (by decide)) ?_;refine yCG ?_;refine q1 ?_;refine q18 G91 ?_;refine zK ?_;refine zN (zR (t:=5) lr rfl rfl rfl) ?_;refine Q31 ?_;refine q12 G91 ?_;refine q2 zPK ?_;refine q7 O3 ?_;have ⟨_,k,D⟩:=bE D;refine q6 (zME k) ?_;refine Q67 ?_;refine zX D (λD=>?_) (λD=>?_);refine z4N ?_;cases D;intro q;cases q;exact⟨rfl,wc⟩;refine Q5 ?_;refine zT MX rfl ?_;refine q8 ?_;refine z69 ?_;have ⟨_,k,D⟩:=bE D;refine q47 k ?_;refine z39 (.ip (aI.cells G) (0+0)) z36 ?_;refine z4A (.d (zH bB G.aB)) O29 ?_;refine q48 (.d (di H)) ?_;refine yCJ (.d (di (wi (H-1)))) ?_;have ⟨ad,K,D⟩:=bE D;refine dat (.ip (bB.all G.aB) ((wi (H-1)).toNat*bB.size)) rfl (λhb=>by subst hb;exact k4 (en:=bB) lr S29 rfl rfl K) ?_
 refine z4B (.ip (bB.all G.aB) ((wi (H-1)).toNat*bB.size+0)) zJL ?_;refine dat (.d (zH eI ad.aX)) rfl (λhb=>by subst hb;exact z6 (en:=bB) (l:=G.aB) (i:=(wi (H-1))) (v:=ad) (off:=0) lr O37 rfl K rfl) ?_
 refine z39 (.ip (bB.cells O) (0+0)) zJL ?_;refine z4A (.d (zH eI O.aX)) O37 ?_;have ⟨ag,aa,D⟩:=bE D;refine dat (.d (di ag)) rfl (λhb=>by subst hb;exact jS lr rfl (zO5 aa)) ?_
 refine dat (.d (db (decide (0<=ag)))) rfl (λhb=>by subst hb;exact zNJ lr rfl rfl) ?_
 refine Q95 ?_;refine zX D (λD=>?_) (λD=>?_);refine Q23 ?_;cases D;intro q;cases q;exact⟨rfl,wc⟩;refine Q41 ?_;exact ew D;refine zE ?_;cases D;intro q;cases q;exact⟨rfl,wc⟩
 rintro T rfl
 replace h:=eL h;refine Q3 ?_;exact er h
 rintro T rfl
 replace h:=eR h;exact es h
theorem zKT {k r} (h:zDL k=some r):zC Tryz.prog 108 [(zH eI k)] [(cL.dv r)]:=by refine co Tryz.func108 ?_;intro _ _ _ _;unfold zDL at h;refine Q0 ?_;refine yE rfl (kH (zs:=[(.int IntKind.i64 (0)),(.int IntKind.i64 (0)),(.int IntKind.i64 (0)),(.int IntKind.i64 (0)),(.int IntKind.i64 (0)),(.int IntKind.i64 (0)),(.int IntKind.i64 (0)),(.int IntKind.i64 (0)),(.int IntKind.i64 (0))]) lr (by kernel_rfl) rfl rfl) ?_;refine zK<|Q2 ?_;refine q4 yD ?_;refine q89 yJ5 ?_;refine yE rfl (kH (zs:=[(.int IntKind.i64 (0)),(.int IntKind.i64 (0)),(.int IntKind.i64 (0)),(.int IntKind.i64 (0)),(.int IntKind.i64 (0)),(.int IntKind.i64 (0)),(.int IntKind.i64 (0)),(.int IntKind.i64 (0)),(.int IntKind.i64 (0))]) lr (by kernel_rfl) rfl rfl) ?_;refine q18 yJ6 ?_;refine Q54 ?_;refine jT (z3O 1 lr yJ5 rfl (by decide)) ?_;refine q0 ?_;refine yE rfl (yJW (l:=k) lr yD rfl rfl rfl rfl) ?_;refine Q54 ?_;refine jT ((k6 lr yJ6 rfl rfl rfl rfl).data rfl) ?_;refine q18 yJ6 ?_;refine zK ?_;cases h;refine yB ?_;exact wR rfl rfl yJ6 rfl
theorem zG8 {a0} {r:bG} (h:zD9 a0=some r):GC Tryz.prog 86 [.d (aI.dv a0)] [] [] [.ptr 13 0] [(13,.box 139 [.d (zH bB r.c.aB),.d (zH aY r.c.aE),.d (di r.c.bK),.d (di r.c.bA),.d (di r.c.bJ),.row 11,.d (di r.bU),.d (zH aR r.bR),.d (di r.top)]),(11,.map (wH zGT (eL aG) r.entries))]:=by
 refine zDZ Tryz.func86 (by kernel_rfl) rfl lr lr λw0 I0 aj p0=>?_;unfold zD9 at h;refine Q0 ?_;refine q97 ?_;refine Q48 ?_;refine jT ((k6 lr G32 rfl rfl rfl rfl).data rfl) ?_;have ⟨_,ab,h⟩:=bE h;refine q6 (zQ7 ab) ?_;refine Q37 ?_;have ⟨D,H,h⟩:=bE h;refine tl .normal ⟨[(1,.ptr 1 0)],[(1,.box 32 [.d (zH bB D.1),.d (zH aY D.2.1),.d (di D.2.2.1),.d (di D.2.2.2.1),.d (di D.2.2.2.2)])]⟩ ?_ ?_;refine zX H (λH=>?_) (λH=>?_);refine xW ?_;refine jT ((zFC lr B32 rfl rfl).nils (bs:=aI.cells ({aB:=[],aE:=[],bK:=64448,bA:=32,bJ:=2}:Collation)) (nlN (nlN (nlE (nlE (nlE nl0)))))) ?_;refine q18 G32 ?_;refine zK ?_;exact eo H;refine zO ?_;exact eo H;refine Q0 ?_;refine jT ((k6 lr G32 rfl rfl rfl rfl).data rfl) ?_;refine z68 ?_;refine jT (yFA [(0,.tmp 10)] 1 (.tmp 11) lr yS2 rfl rfl rfl rfl rfl rfl) ?_;refine yE rfl (zVV lr rfl rfl) ?_;refine yF7 ?_;refine z0Y ?_;refine q52 z36 ?_;refine q27 O29 ?_;refine q4 S29 ?_;refine Q24 ?_;have ⟨y2,ac,h⟩:=bE h;refine tl (.exit 0) ⟨[(3,.ptr 13 0)],[(11,.map (wH zGT (eL aG) y2.1)),(13,.box 139 [.d (zH bB (({aB:=D.1,aE:=D.2.1,bK:=D.2.2.1,bA:=D.2.2.2.1,bJ:=D.2.2.2.2}:Collation).aB)),.d (zH aY (({aB:=D.1,aE:=D.2.1,bK:=D.2.2.1,bA:=D.2.2.2.1,bJ:=D.2.2.2.2}:Collation).aE)),.d (di (({aB:=D.1,aE:=D.2.1,bK:=D.2.2.1,bA:=D.2.2.2.1,bJ:=D.2.2.2.2}:Collation).bK)),.d (di (({aB:=D.1,aE:=D.2.1,bK:=D.2.2.1,bA:=D.2.2.2.1,bJ:=D.2.2.2.2}:Collation).bA)),.d (di (({aB:=D.1,aE:=D.2.1,bK:=D.2.2.1,bA:=D.2.2.2.1,bJ:=D.2.2.2.2}:Collation).bJ)),.row 11,.d (di y2.2),.d (.v (.slice none 0 0)),.d (di 0)])]⟩ ?_ ?_;refine zB (λx=>⟨[(3,.ptr 13 0),(15,.d (zH bB D.1)),(16,.d (di (D.1.length:Int))),(17,.d (di x.1))],[(11,.map (wH zGT (eL aG) x.2.1)),(13,.box 139 [.d (zH bB (({aB:=D.1,aE:=D.2.1,bK:=D.2.2.1,bA:=D.2.2.2.1,bJ:=D.2.2.2.2}:Collation).aB)),.d (zH aY (({aB:=D.1,aE:=D.2.1,bK:=D.2.2.1,bA:=D.2.2.2.1,bJ:=D.2.2.2.2}:Collation).aE)),.d (di (({aB:=D.1,aE:=D.2.1,bK:=D.2.2.1,bA:=D.2.2.2.1,bJ:=D.2.2.2.2}:Collation).bK)),.d (di (({aB:=D.1,aE:=D.2.1,bK:=D.2.2.1,bA:=D.2.2.2.1,bJ:=D.2.2.2.2}:Collation).bA)),.d (di (({aB:=D.1,aE:=D.2.1,bK:=D.2.2.1,bA:=D.2.2.2.1,bJ:=D.2.2.2.2}:Collation).bJ)),.row 11,.d (di x.2.2),.d (.v (.slice none 0 0)),.d (di 0)])]⟩) ac wc ?_
 rintro⟨aa,Y,O⟩ ad G
 replace G:wP D aa Y O=some ad:=G;unfold wP at G;refine Q18 ?_;refine zX G (λG=>?_) (λG=>?_);refine Q32 ?_;have ⟨Z,K,G⟩:=bE G;refine q11 S29 K ?_;refine jT (zAL (en:=bB) (l:=D.1) (i:=aa) (v:=Z) (off:=0) lr G91 rfl K rfl rfl (by decide)) ?_;refine yCG ?_;refine q18 G91 ?_;refine zK ?_;refine zN (zR (t:=5) lr rfl rfl rfl) ?_;refine yS ?_;refine zFV 9 MX rfl ?_;refine yF8 ?_;refine yF9 ?_;refine z4C yFP ?_;refine yKQ yRA ?_;refine q13 zJL ?_;refine q19 O37 ?_;have ⟨ag,T,G⟩:=bE G;refine q20 (zKT T) ?_;refine q13 zN5 ?_;refine q19 O79 ?_;refine wB ?_;refine yE rfl (zQZ (kv:=zGT) (ev:=(eL aG)) (mp:=Y) (k:=ag) (v:=Z.aU) yQ6 yRC rfl rfl rfl (yJR rfl) rfl rfl rfl) ?_;refine zK ?_;refine zFV 11 MX rfl ?_;refine yF8 ?_;refine yF8 ?_;refine yF9 ?_;refine z4C z0Q ?_;refine yKQ O3 ?_;refine q13 zJL ?_;refine q19 O37 ?_;refine yF5 yD ?_;refine daa (z8X lr rfl rfl) ?_;refine yF9 ?_;refine z4C z0Q ?_;refine wB<|z4O ?_;refine Q20 ?_;exact ew G;exact zE (ex G);refine Q0 ?_;refine z7A ?_;refine yF7 ?_;refine zK ?_;refine zN (zXB (bid:=13) (off:=7) aR.size rfl rfl) ?_;cases h;refine yB ?_;exact⟨⟨_,_,rfl,rfl,rfl⟩,⟨rfl,rfl,trivial⟩⟩
set_option maxHeartbeats 8000000 in
theorem zLN {a0 r} (h:zCN a0=some r):zC Tryz.prog 151 [(zH aR a0)] [(di r)]:=by
 refine co Tryz.func151 ?_;intro _ _ _ _;unfold zCN at h;refine Q43 ?_;refine q4 S22 ?_;refine Q24 ?_;have ⟨y1,k,h⟩:=bE h;refine zP y1 (.exit 0) (λy1=>⟨[(0,.d (zH aR a0))],[]⟩) .ret (λy1=>⟨[(2,.d (di y1))],[]⟩) ?_ ?_ ?_;refine zB (λx=>⟨[(0,.d (zH aR a0)),(12,.d (zH aR a0)),(13,.d (di (a0.length:Int))),(14,.d (di x))],[]⟩) k wc ?_
 rintro au ao K
 replace K:u6 a0 au=some ao:=K;unfold u6 at K;refine Q18 ?_;refine zX K (λK=>?_) (λK=>?_);refine Q32 ?_;have ⟨G,k,K⟩:=bE K;refine q11 S22 k ?_;refine yKR uS k ?_;refine yCK ?_;refine q18 uS ?_;refine zK ?_;refine zN (zR (t:=4) lr rfl rfl rfl) ?_;refine Q0 ?_;refine q2 zG6 ?_;refine z7Q ?_;have ⟨_,k,K⟩:=bE K;refine q9 k ?_;refine q24 (.ip (aR.cells G) (0+1)) zG7 ?_;refine q26 (.d (di G.Hi)) O3 ?_;refine q59 (.d (db (decide (1114111<G.Hi)))) ?_;refine q22 ?_;have ⟨_,k,K⟩:=bE K;refine q9 k ?_;refine q24 (.ip (aR.cells G) (0+0)) zG6 ?_;refine q26 (.d (di G.Lo)) O3 ?_;refine q24 (.ip (aR.cells G) (0+1)) zG7 ?_;refine q26 (.d (di G.Hi)) O3 ?_;refine q59 (.d (db (decide (G.Hi<G.Lo)))) ?_;refine q22 ?_;have ⟨_,k,K⟩:=bE K;refine q9 k ?_;refine q24 (.ip (aR.cells G) (0+2)) zIK ?_;refine q26 (.d (di G.Value)) O3 ?_;refine yOV (.d (db (decide (G.Value<1)))) ?_;refine q22 ?_;have ⟨_,k,K⟩:=bE K;refine q9 k ?_;refine q24 (.ip (aR.cells G) (0+2)) zIK ?_;refine q26 (.d (di G.Value)) O3 ?_;refine q59 (.d (db (decide (254<G.Value)))) ?_;refine Q45 ?_;refine zX K (λK=>?_) (λK=>?_);refine Q23 ?_;cases K;intro q;cases q;exact⟨rfl,wc⟩;refine Q41 ?_;exact ew K;refine zE ?_;cases K;intro q;cases q;exact⟨rfl,wc⟩
 rintro y1 rfl
 replace h:=eL h;refine Q34 ?_;have ⟨y2,k,h⟩:=bE h;refine zP y2 (.exit 2) (λy2=>⟨[(0,.d (zH aR a0))],[]⟩) .ret (λy2=>⟨[(2,.d (di y2))],[]⟩) ?_ ?_ ?_;refine zB (λx=>⟨[(0,.d (zH aR a0)),(5,.d (di x))],[]⟩) k wc ?_
 rintro v5 ap T
 replace T:u7 a0 v5=some ap:=T;unfold u7 at T;refine Q14 ?_;refine q4 S22 ?_;refine Q6 ?_;refine zX T (λT=>?_) (λT=>?_);refine Q76 ?_;have ⟨H,k,T⟩:=bE T;have ⟨O,D,T⟩:=bE T;refine tl .normal ⟨[(0,.d (zH aR a0)),(5,.d (di v5)),(6,.ptr 6 0),(7,.ptr 7 0)],[(6,.box 144 [.d (di H.Lo),.d (di H.Hi),.d (di H.Value)]),(7,.box 144 [.d (di O.Lo),.d (di O.Hi),.d (di O.Value)])]⟩ ?_ ?_;refine zFZ MX ?_;refine z7T ?_;refine zMB (i:=2) rfl lr rfl rfl rfl rfl rfl rfl ?_;refine zY9 (en:=aR) (i:=3) rfl lr S22 rfl rfl k rfl rfl rfl rfl ?_;refine xm 5 ?_;refine xm 6 ?_;refine zY9 (en:=aR) (i:=7) rfl lr S22 rfl rfl D rfl rfl rfl rfl ?_;refine xn [4,8,9,10] ?_;refine q56 uS k ?_ ?_;refine xn [8,9,10] ?_;refine q56 uS D ?_ ?_;refine xn [9,10] ?_;refine yGA ?_ ?_;refine xn [10] ?_;refine Q88 ?_;exact ae;refine q50 ?_;refine xn [9] ?_;refine Q88 ?_;exact ae;refine yGA ?_ ?_;refine xn [8,10] ?_;refine q56 uS D ?_ ?_;refine xn [10] ?_;refine Q88 ?_;exact ae;refine q50 ?_;refine xn [8,11] ?_;refine q56 uS D ?_ ?_;refine Q50 ?_;exact ae;refine q14 uS ?_;refine xn [8] ?_;refine q77 uS D ?_;refine Q42 ?_;exact ae;refine q50 ?_;refine xn [8,9] ?_;refine q56 uS D ?_ ?_;refine xn [9] ?_;refine Q88 ?_;exact ae;refine q50 ?_;refine xn [8,11] ?_;refine q56 uS D ?_ ?_;refine Q50 ?_;exact ae;refine q14 uS ?_;refine xn [8] ?_;refine q77 uS D ?_;refine Q42 ?_;exact ae;refine q56 uS D ?_ ?_;refine xn [4,9,10] ?_;refine q56 uS k ?_ ?_;refine xn [9,10] ?_;refine yGA ?_ ?_;refine xn [10] ?_;refine Q88 ?_;exact ae;refine q50 ?_;refine xn [9] ?_;refine Q88 ?_;exact ae;refine yGA ?_ ?_;refine xn [4,10] ?_;refine q56 uS k ?_ ?_;refine xn [10] ?_;refine Q88 ?_;exact ae;refine q50 ?_;refine xn [4] ?_;refine q77 uS k ?_;refine Q50 ?_;exact ae;refine q50 ?_;refine xn [4,9] ?_;refine q56 uS k ?_ ?_;refine xn [9] ?_;refine Q88 ?_;exact ae;refine q50 ?_;refine xn [4] ?_;refine q77 uS k ?_;refine Q50 ?_;exact ae;refine yGA ?_ ?_;refine xn [4,8,10] ?_;refine q56 uS k ?_ ?_;refine xn [8,10] ?_;refine q56 uS D ?_ ?_;refine xn [10] ?_;refine Q88 ?_;exact ae;refine q50 ?_;refine xn [8,11] ?_;refine q56 uS D ?_ ?_;refine Q50 ?_;exact ae;refine q14 uS ?_;refine xn [8] ?_;refine q77 uS D ?_;refine Q42 ?_;exact ae;refine q56 uS D ?_ ?_;refine xn [4,10] ?_;refine q56 uS k ?_ ?_;refine xn [10] ?_;refine Q88 ?_;exact ae;refine q50 ?_;refine xn [4] ?_;refine q77 uS k ?_;refine Q50 ?_;exact ae;refine q50 ?_;refine xn [4,8] ?_;refine q56 uS k ?_ ?_;refine xn [8,11] ?_;refine q56 uS D ?_ ?_;refine Q50 ?_;exact ae;refine q14 uS ?_;refine xn [8] ?_;refine q77 uS D ?_;refine Q42 ?_;exact ae;refine q77 uS D ?_;refine xn [4] ?_;refine q77 uS k ?_;refine Q50 ?_;exact ae;refine q50 ?_;refine xn [4,8,9] ?_;refine q56 uS k ?_ ?_;refine xn [8,9] ?_;refine q56 uS D ?_ ?_;refine xn [9] ?_;refine Q88 ?_;exact ae;refine q50 ?_;refine xn [8,11] ?_;refine q56 uS D ?_ ?_;refine Q50 ?_;exact ae;refine q14 uS ?_;refine xn [8] ?_;refine q77 uS D ?_;refine Q42 ?_;exact ae;refine q56 uS D ?_ ?_;refine xn [4,9] ?_;refine q56 uS k ?_ ?_;refine xn [9] ?_;refine Q88 ?_;exact ae;refine q50 ?_;refine xn [4] ?_;refine q77 uS k ?_;refine Q50 ?_;exact ae;refine q50 ?_;refine xn [4,8] ?_;refine q56 uS k ?_ ?_;refine xn [8,11] ?_;refine q56 uS D ?_ ?_;refine Q50 ?_;exact ae;refine q14 uS ?_;refine xn [8] ?_;refine q77 uS D ?_;refine Q42 ?_;exact ae;refine q77 uS D ?_;refine xn [4] ?_;refine q77 uS k ?_;refine Q50 ?_;exact ae;refine zN (zR (t:=6) lr rfl rfl rfl) ?_;refine zN (zR (t:=7) lr rfl rfl rfl) ?_;refine Q0 ?_;refine q2 zG6 ?_;refine q7 O3 ?_;refine q2 zG7 ?_;refine q7 O3 ?_;refine q67 ?_;have ⟨_,k,T⟩:=bE T;refine q9 k ?_;refine q24 (.ip (aR.cells O) (0+0)) zG6 ?_;refine q26 (.d (di O.Lo)) O3 ?_;refine q24 (.ip (aR.cells H) (0+1)) zG7 ?_;refine q26 (.d (di H.Hi)) O3 ?_;refine sqf (.d (di (wi (H.Hi+1)))) rfl (λhb=>by subst hb;exact zY1 lr rfl rfl) ?_
 refine yCE (.d (db (decide (O.Lo=(wi (H.Hi+1)))))) ?_;have ⟨ac,an,T⟩:=bE T;refine sqf (.d (db ac)) rfl (λhb=>by subst hb;exact(kE lr rfl).bool (oi an)) ?_
 refine wF (x:= .ip (aR.cells O) (0+2)) rfl rfl rfl lr lr rfl (λhb=>by obtain⟨hb,Y⟩:=zQ hb;obtain rfl:=gF hb;obtain rfl:ac=true:=Y;exact uB lr zIK rfl) ?_
 refine wF (x:= .d (di O.Value)) rfl rfl rfl lr lr rfl (λhb=>by obtain⟨hb,Y⟩:=zQ hb;obtain rfl:=gF hb;obtain rfl:ac=true:=Y;exact w6 lr O3 rfl rfl) ?_
 refine wF (x:= .ip (aR.cells H) (0+2)) rfl rfl rfl lr lr rfl (λhb=>by obtain⟨hb,Y⟩:=zQ hb;obtain rfl:=gF hb;obtain rfl:ac=true:=Y;exact uB lr zIK rfl) ?_
 refine wF (x:= .d (di H.Value)) rfl rfl rfl lr lr rfl (λhb=>by obtain⟨hb,Y⟩:=zQ hb;obtain rfl:=gF hb;obtain rfl:ac=true:=Y;exact w6 lr O3 rfl rfl) ?_
 refine wF (x:= .d (db (decide (O.Value=H.Value)))) rfl rfl rfl lr lr rfl (λhb=>by obtain⟨hb,Y⟩:=zQ hb;obtain rfl:=gF hb;obtain rfl:ac=true:=Y;exact zMT lr rfl rfl) ?_
 refine q96 (.d (db (ac&&(decide (O.Value=H.Value))))) ?_;refine Q45 ?_;refine zX T (λT=>?_) (λT=>?_);refine Q23 ?_;cases T;intro q;cases q;exact⟨rfl,wc⟩;refine Q38 ?_;exact ew T;refine zE ?_;cases T;intro q;cases q;exact⟨rfl,wc⟩
 rintro y2 rfl
 replace h:=eL h;refine Q4 ?_;refine q4 S22 ?_;refine Q24 ?_;have ⟨y3,k,h⟩:=bE h;refine zP y3 (.exit 4) (λy3=>⟨[],[]⟩) .ret (λy3=>⟨[(2,.d (di y3))],[]⟩) ?_ ?_ ?_;refine zB (λx=>⟨[(79,.d (zH aR a0)),(80,.d (di (a0.length:Int))),(81,.d (di x))],[]⟩) k wc ?_
 rintro ai aq Z
 replace Z:u9 a0 ai=some aq:=Z;unfold u9 at Z;refine Q18 ?_;refine zX Z (λZ=>?_) (λZ=>?_);refine Q32 ?_;have ⟨ag,k,Z⟩:=bE Z;refine q11 S22 k ?_;refine yKR uS k ?_;refine yCK ?_;refine q18 uS ?_;refine zK ?_;refine zN (zR (t:=9) lr rfl rfl rfl) ?_;refine Q0 ?_;have ⟨ad,k,Z⟩:=bE Z;refine jT ((yJQ (zs:=[.int .i64 4352,.int .i64 4370,.int .i64 4449,.int .i64 4469,.int .i64 4520,.int .i64 4546,.int .i64 44032,.int .i64 55203]) lr yS9 Z0 rfl rfl).data (b:=cJ.dv ad) (congrArg cJ.dv (oi k))) ?_;refine Q24 ?_;have ⟨y4,k,Z⟩:=bE Z;refine zP y4 (.exit 6) (λy4=>⟨[(79,.d (zH aR a0)),(80,.d (di (a0.length:Int))),(81,.d (di ai))],[]⟩) .ret (λy4=>⟨[(2,.d (di y4))],[]⟩) ?_ ?_ ?_;refine zB (λx=>⟨[(9,.d (.pt (aR.cells ag))),(79,.d (zH aR a0)),(80,.d (di (a0.length:Int))),(81,.d (di ai)),(85,.d (cJ.dv ad)),(86,.d (di x))],[]⟩) k wc ?_
 rintro aw ar p4
 replace p4:wQ ad ag aw=some ar:=p4;unfold wQ at p4;refine Q18 ?_;refine zX p4 (λp4=>?_) (λp4=>?_);refine Q32 ?_;have ⟨ah,k,p4⟩:=bE p4;refine jT (yBS (en:=aF) (l:=[ad.x0,ad.x1,ad.x2,ad.x3]) lr yS0 G43 (λ_=>rfl) rfl rfl rfl k) ?_;refine Q68 ?_;refine zN (zR (t:=11) lr rfl rfl rfl) ?_;refine Q0 ?_;refine q2 zG6 ?_;refine q7 O3 ?_;refine z7H ?_;refine q67 ?_;have ⟨_,k,p4⟩:=bE p4;refine q9 k ?_;refine q55 (.ip (aF.cells ah) (0+0)) zN4 ?_;refine q62 (.d (di ah.Lo)) O3 ?_;refine q55 (.ip (aR.cells ag) (0+1)) zG7 ?_;refine q62 (.d (di ag.Hi)) O3 ?_;refine q63 (.d (db (decide (ah.Lo<=ag.Hi)))) ?_;refine Q39 ?_;refine zX p4 (λp4=>?_) (λp4=>?_);refine Q23 ?_;cases p4;intro q;cases q;exact⟨rfl,wc⟩;refine Q41 ?_;exact ew p4;refine zE ?_;cases p4;intro q;cases q;exact⟨rfl,wc⟩
 rintro y4 rfl
 replace Z:=eL Z;refine Q20 ?_;exact ew Z
 rintro y4 rfl
 replace Z:=eR Z;cases Z;intro q;cases q;exact⟨rfl,wc⟩;refine zE ?_;cases Z;intro q;cases q;exact⟨rfl,wc⟩
 rintro y3 rfl
 replace h:=eL h;refine Q3 ?_;exact er h
 rintro y3 rfl
 replace h:=eR h;exact es h
 rintro y2 rfl
 replace h:=eR h;exact es h
 rintro y1 rfl
 replace h:=eR h;exact es h
theorem zSJ {O r} (h:zEA O=some r):zC Tryz.prog 202 [(ds O)] [(db r)]:=by
 refine co Tryz.func202 ?_;intro _ _ _ _;unfold zEA at h;refine Q43 ?_;refine jT (zPZ (a:=O) (b:=[]) lr rfl rfl) ?_;have ⟨_,k,h⟩:=bE h;refine q9 k ?_;refine q42 (.d (ds O)) ?_;refine sqf (.d (di (O.length:Int))) rfl (λhb=>by subst hb;exact zVM (s:=O) lr Tryz.underlying9 rfl) ?_
 refine q59 (.d (db (decide (32<(O.length:Int))))) ?_;refine Q45 ?_;refine zX h (λh=>?_) (λh=>?_);refine Q3 ?_;exact er h;refine Q70 ?_;refine yKL Tryz.underlying9 ?_;refine Q24 ?_;have ⟨Y,k,h⟩:=bE h;refine zP Y (.exit 0) (λY=>⟨[],[]⟩) .ret (λY=>⟨[(2,.d (db Y))],[]⟩) ?_ ?_ ?_;refine zB (λx=>⟨[(0,.d (ds O)),(14,.d (di (O.length:Int))),(15,.d (di x))],[]⟩) k wc ?_
 rintro ad ac G
 replace G:zAA O ad=some ac:=G;unfold zAA at G;refine Q18 ?_;refine zX G (λG=>?_) (λG=>?_);refine Q64 ?_;refine Q69 ?_;have ⟨D,k,G⟩:=bE G;refine yKK Tryz.underlying9 k ?_;refine Q15 ?_;refine q39 ?_;have ⟨_,k,G⟩:=bE G;refine q9 k ?_;refine q15 (.d (dby D)) ?_;refine q63 (.d (db (decide (D<=90)))) ?_;refine q17 ?_;have ⟨_,k,G⟩:=bE G;refine q9 k ?_;refine q42 (.d (dby D)) ?_;refine z67 (.d (db (decide (97<=D)))) ?_;have ⟨T,aa,G⟩:=bE G;refine sqf (.d (db T)) rfl (λhb=>by subst hb;exact(kE lr rfl).bool (oi aa)) ?_
 refine wF (x:= .d (dby D)) rfl rfl rfl lr lr rfl (λhb=>by obtain⟨hb,H⟩:=zQ hb;obtain rfl:=gF hb;obtain rfl:T=true:=H;exact kE lr rfl) ?_
 refine wF (x:= .d (db (decide (D<=122)))) rfl rfl rfl lr lr rfl (λhb=>by obtain⟨hb,H⟩:=zQ hb;obtain rfl:=gF hb;obtain rfl:T=true:=H;exact zKE lr rfl rfl) ?_
 refine q96 (.d (db (T&&(decide (D<=122))))) ?_;refine q22 ?_;refine Q15 ?_;refine q28 ?_;have ⟨Z,k,G⟩:=bE G;refine q9 k ?_;refine q15 (.d (dby D)) ?_;refine sqt (.d (db (decide (48<=D)))) rfl (λhb=>by subst hb;exact zNJ lr rfl rfl) ?_
 have ⟨K,ab,G⟩:=bE G;refine sqt (.d (db K)) rfl (λhb=>by subst hb;exact(kE lr rfl).bool (oi ab)) ?_
 refine wF (x:= .d (dby D)) rfl rfl rfl lr lr rfl (λhb=>by obtain⟨hb,H⟩:=zQ hb;obtain rfl:Z=true:=hb;obtain rfl:K=true:=H;exact kE lr rfl) ?_
 refine wF (x:= .d (db (decide (D<=57)))) rfl rfl rfl lr lr rfl (λhb=>by obtain⟨hb,H⟩:=zQ hb;obtain rfl:Z=true:=hb;obtain rfl:K=true:=H;exact zKE lr rfl rfl) ?_
 refine sqt (.d (db (K&&(decide (D<=57))))) rfl (λhb=>by subst hb;exact zGO lr rfl rfl) ?_
 refine q88 (.d (db (!(K&&(decide (D<=57)))))) ?_;refine q17 ?_;have ⟨_,k,G⟩:=bE G;refine q9 k ?_;refine q15 (.d (dby D)) ?_;refine yGB (.d (db (!decide (D=95)))) ?_;refine Q39 ?_;refine zX G (λG=>?_) (λG=>?_);refine Q23 ?_;cases G;intro q;cases q;exact⟨rfl,wc⟩;refine Q41 ?_;exact ew G;refine zE ?_;cases G;intro q;cases q;exact⟨rfl,wc⟩
 rintro Y rfl
 replace h:=eL h;refine Q3 ?_;exact er h
 rintro Y rfl
 replace h:=eR h;exact es h
theorem zT3 {G r} (h:zEY G=some r):zC Tryz.prog 185 [(zH aC G)] [(di r)]:=by
 refine co Tryz.func185 ?_;intro _ _ _ _;unfold zEY at h;refine Q43 ?_;refine z7U ?_;have ⟨Z,k,h⟩:=bE h;refine zP Z (.exit 0) (λZ=>⟨[(0,.d (zH aC G))],[]⟩) .ret (λZ=>⟨[(2,.d (di Z))],[]⟩) ?_ ?_ ?_;refine zB (λx=>⟨[(0,.d (zH aC G)),(11,.d (zH aC G)),(12,.d (di (G.length:Int))),(13,.d (di x))],[]⟩) k wc ?_
 rintro Y ai D
 replace D:zA0 G Y=some ai:=D;unfold zA0 at D;refine Q18 ?_;refine zX D (λD=>?_) (λD=>?_);refine Q32 ?_;have ⟨T,k,D⟩:=bE D;refine q11 S23 k ?_;refine z0S G60 k ?_;refine z7V ?_;refine zN (zR (t:=4) lr rfl rfl rfl) ?_;refine Q31 ?_;refine z0Z ?_;have ⟨_,k,D⟩:=bE D;refine q6 (zD1 k) ?_;refine Q36 ?_;refine zX D (λD=>?_) (λD=>?_);refine Q23 ?_;cases D;intro q;cases q;exact⟨rfl,wc⟩;refine Q46 ?_;refine q2 zH4 ?_;refine q7 O37 ?_;refine Q63 ?_;have ⟨y2,k,D⟩:=bE D;refine zP y2 (.exit 2) (λy2=>⟨[(0,.d (zH aC G)),(11,.d (zH aC G)),(12,.d (di (G.length:Int))),(13,.d (di Y))],[]⟩) .ret (λy2=>⟨[(2,.d (di y2))],[]⟩) ?_ ?_ ?_;refine zB (λx=>⟨[(0,.d (zH aC G)),(11,.d (zH aC G)),(12,.d (di (G.length:Int))),(13,.d (di Y)),(22,.d (zH eI T.To)),(23,.d (di (T.To.length:Int))),(24,.d (di x))],[]⟩) k wc ?_
 rintro am aj K
 replace K:zAZ T am=some aj:=K;unfold zAZ at K;refine Q18 ?_;refine zX K (λK=>?_) (λK=>?_);refine Q32 ?_;have ⟨_,k,K⟩:=bE K;refine q11 yD k ?_;refine q36 O3 k ?_;refine Q15 ?_;have ⟨_,k,K⟩:=bE K;refine q6 (zD1 k) ?_;refine Q36 ?_;refine zX K (λK=>?_) (λK=>?_);refine Q23 ?_;cases K;intro q;cases q;exact⟨rfl,wc⟩;refine Q41 ?_;exact ew K;refine zE ?_;cases K;intro q;cases q;exact⟨rfl,wc⟩
 rintro y2 rfl
 replace D:=eL D;refine Q20 ?_;exact ew D
 rintro y2 rfl
 replace D:=eR D;cases D;intro q;cases q;exact⟨rfl,wc⟩;refine zE ?_;cases D;intro q;cases q;exact⟨rfl,wc⟩
 rintro Z rfl
 replace h:=eL h;refine Q4 ?_;refine z7U ?_;have ⟨y3,k,h⟩:=bE h;refine zP y3 (.exit 4) (λy3=>⟨[(0,.d (zH aC G))],[]⟩) .ret (λy3=>⟨[(2,.d (di y3))],[]⟩) ?_ ?_ ?_;refine zB (λx=>⟨[(0,.d (zH aC G)),(33,.d (zH aC G)),(34,.d (di (G.length:Int))),(35,.d (di x))],[]⟩) k wc ?_
 rintro an ak O
 replace O:zA1 G an=some ak:=O;unfold zA1 at O;refine Q18 ?_;refine zX O (λO=>?_) (λO=>?_);refine Q32 ?_;have ⟨_,k,O⟩:=bE O;refine q11 S23 k ?_;refine z0S G60 k ?_;refine z7V ?_;refine zN (zR (t:=8) lr rfl rfl rfl) ?_;refine Q0 ?_;refine q2 zH4 ?_;refine q7 O37 ?_;refine q4 yD ?_;refine Q59 ?_;refine zX O (λO=>?_) (λO=>?_);refine Q23 ?_;cases O;intro q;cases q;exact⟨rfl,wc⟩;refine Q41 ?_;exact ew O;refine zE ?_;cases O;intro q;cases q;exact⟨rfl,wc⟩
 rintro y3 rfl
 replace h:=eL h;refine Q4 ?_;refine z7U ?_;have ⟨y4,k,h⟩:=bE h;refine zP y4 (.exit 6) (λy4=>⟨[],[]⟩) .ret (λy4=>⟨[(2,.d (di y4))],[]⟩) ?_ ?_ ?_;refine zB (λx=>⟨[(44,.d (zH aC G)),(45,.d (di (G.length:Int))),(46,.d (di x))],[]⟩) k wc ?_
 rintro ao al H
 replace H:zA2 G ao=some al:=H;unfold zA2 at H;refine Q18 ?_;refine zX H (λH=>?_) (λH=>?_);refine Q32 ?_;have ⟨ag,k,H⟩:=bE H;refine q11 S23 k ?_;refine z0S G60 k ?_;refine z7V ?_;refine zN (zR (t:=10) lr rfl rfl rfl) ?_;refine Q0 ?_;refine q2 zFO ?_;refine q7 O9 ?_;refine yCH ?_;have ⟨_,k,H⟩:=bE H;refine q9 k ?_;refine q55 (.ip (aC.cells ag) (0+2)) zFO ?_;refine q62 (.d (ds ag.bO)) O9 ?_;have ⟨ah,ad,H⟩:=bE H;refine sqt (.d (db ah)) rfl (λhb=>by subst hb;exact jS lr rfl (zSJ ad)) ?_
 refine q88 (.d (db (!ah))) ?_;refine Q39 ?_;refine zX H (λH=>?_) (λH=>?_);refine Q23 ?_;cases H;intro q;cases q;exact⟨rfl,wc⟩;refine Q41 ?_;exact ew H;refine zE ?_;cases H;intro q;cases q;exact⟨rfl,wc⟩
 rintro y4 rfl
 replace h:=eL h;refine Q3 ?_;exact er h
 rintro y4 rfl
 replace h:=eR h;exact es h
 rintro y3 rfl
 replace h:=eR h;exact es h
 rintro Z rfl
 replace h:=eR h;exact es h
theorem zJN {k r} (h:zCO k=some r):zC Tryz.prog 213 [(ds k)] [(db r)]:=by refine co Tryz.func213 ?_;intro _ _ _ _;unfold zCO at h;refine z4M ?_;refine yCH ?_;refine Q1 ?_;exact er h
theorem zN8 {D a1 r} (h:zBC D a1=some r):zC Tryz.prog 204 [(ds D),(ds a1)] [(di r)]:=by refine co Tryz.func204 ?_;intro _ _ _ _;unfold zBC at h;refine Q53 ?_;have ⟨_,k,h⟩:=bE h;refine q6 (zJN k) ?_;refine Q15 ?_;have ⟨_,k,h⟩:=bE h;refine q6 (zJN k) ?_;refine Q1 ?_;refine z7S ?_;refine zX h (λh=>?_) (λh=>?_);refine z7S ?_;refine zX h (λh=>?_) (λh=>?_);refine Q3 ?_;exact er h;refine Q58 ?_;exact er h;refine Q70 ?_;refine zK ?_;refine zX h (λh=>?_) (λh=>?_);refine Q3 ?_;exact er h;refine zO<|Q14 ?_;refine jT (yEY (a:=D) (b:=a1) lr rfl rfl) ?_;refine zK ?_;refine zX h (λh=>?_) (λh=>?_);refine Q3 ?_;exact er h;refine zO<|Q14 ?_;refine jT (yN8 (a:=D) (b:=a1) lr rfl rfl) ?_;refine zK ?_;refine zX h (λh=>?_) (λh=>?_);refine Q3 ?_;exact er h;refine Q58 ?_;exact er h
theorem zQ8 {H r} (h:zGV H=some r):zC Tryz.prog 203 [(zH eI H)] [(di r)]:=by
 refine co Tryz.func203 ?_;intro _ _ _ _;unfold zGV at h;refine Q3 ?_;refine Q43 ?_;refine Q63 ?_;have ⟨G,k,h⟩:=bE h;refine zP G (.exit 0) (λG=>⟨[(3,.d (di 0))],[]⟩) .ret (λG=>⟨[(2,.d (di G))],[]⟩) ?_ ?_ ?_;refine zB (λx=>⟨[(3,.d (di 0)),(6,.d (zH eI H)),(7,.d (di (H.length:Int))),(8,.d (di x))],[]⟩) k wc ?_
 rintro O K D
 replace D:zDP H O=some K:=D;unfold zDP at D;refine Q18 ?_;refine zX D (λD=>?_) (λD=>?_);refine Q32 ?_;have ⟨_,k,D⟩:=bE D;refine q11 yD k ?_;refine q36 O3 k ?_;refine Q69 ?_;refine Q37 ?_;refine zX D (λD=>?_) (λD=>?_);refine z4N ?_;cases D;intro q;cases q;exact⟨rfl,wc⟩;refine Q41 ?_;exact ew D;refine zE ?_;cases D;intro q;cases q;exact⟨rfl,wc⟩
 rintro G rfl
 replace h:=eL h;refine Q40 ?_;exact er h
 rintro G rfl
 replace h:=eR h;exact es h
theorem zQ9 {D a1 r} (h:zDM D a1=some r):zC Tryz.prog 186 [(aC.dv D),(aC.dv a1)] [(di r)]:=by refine co Tryz.func186 ?_;intro _ _ _ _;unfold zDM at h;refine Q33 ?_;refine q32 ?_;refine Q16 ?_;refine zT MX rfl ?_;refine q13 zLK ?_;refine q19 O3 ?_;refine q13 zLK ?_;refine q19 O3 ?_;have ⟨_,k,h⟩:=bE h;refine q20 (vO k) ?_;refine q13 zFO ?_;refine q19 O9 ?_;refine q13 zFO ?_;refine q19 O9 ?_;have ⟨_,k,h⟩:=bE h;refine q20 (zN8 k) ?_;refine yGC yD ?_;have ⟨_,k,h⟩:=bE h;refine q20 (zQ8 k) ?_;refine Q44 ?_;exact er h
theorem zMZ {k r} (h:zEZ k=some r):zC Tryz.prog 187 [(aC.dv k)] [(cG.dv r)]:=by refine co Tryz.func187 ?_;intro _ _ _ _;unfold zEZ at h;refine Q33 ?_;refine yE rfl (kH (zs:=[(.int IntKind.i64 (0)),(.string ⟨#[]⟩)]) lr (by kernel_rfl) rfl rfl) ?_;refine Q54 ?_;refine z0Z ?_;refine q2 zFO ?_;refine q7 O9 ?_;refine q49 yS3 ?_;refine q18 yQ5 ?_;refine zK ?_;cases h;refine yB ?_;exact wR rfl rfl yQ5 rfl
theorem zT4 {K r} (h:zE0 K=some r):zC Tryz.prog 152 [(zH aC K)] [(di r)]:=by
 refine co Tryz.func152 ?_;intro _ _ _ _;unfold zE0 at h;refine Q43 ?_;have ⟨_,ab,h⟩:=bE h;refine q6 (zT3 ab) ?_;refine Q67 ?_;refine zX h (λh=>?_) (λh=>?_);refine Q40 ?_;exact er h;refine Q58 ?_;refine Q34 ?_;have ⟨y1,ah,h⟩:=bE h;refine tl (.exit 0) ⟨[(0,.d (zH aC K)),(4,.d (db y1))],[]⟩ ?_ ?_;refine zB (λx=>⟨[(0,.d (zH aC K)),(4,.d (db x.1)),(5,.d (di x.2))],[]⟩) ah wc ?_
 rintro⟨v4,v5⟩ aj H
 replace H:uD K v4 v5=some aj:=H;unfold uD at H;refine Q61 ?_;refine zX H (λH=>?_) (λH=>?_);refine Q5 ?_;have ⟨y2,D,H⟩:=bE H;refine tl .normal ⟨[(0,.d (zH aC K)),(4,.d (db y2)),(5,.d (di v5))],[]⟩ ?_ ?_;refine yW<|yS ?_;refine zT MX rfl ?_;refine Q25 ?_;refine z4D ?_;have ⟨_,O,D⟩:=bE D;refine q29 S23 O ?_;refine yKS G60 O ?_;refine Q25 ?_;have ⟨_,T,D⟩:=bE D;refine q29 S23 T ?_;refine yKS G60 T ?_;have ⟨_,ac,D⟩:=bE D;refine q20 (zQ9 ac) ?_;refine daa (zNJ lr rfl rfl) ?_;refine wB ?_;refine zX D (λD=>?_) (λD=>?_);refine xW<|Q1 ?_;exact eo D;refine zO ?_;exact eo D;refine Q13 ?_;exact ew H;exact zE (ex H);refine z7S ?_;refine zX h (λh=>?_) (λh=>?_);refine Q3 ?_;exact er h;refine Q46 ?_;refine z68 ?_;refine Q11 ?_;refine Q4 ?_;refine z7U ?_;have ⟨y3,ai,h⟩:=bE h;refine zP y3 (.exit 2) (λy3=>⟨[],[]⟩) .ret (λy3=>⟨[(2,.d (di y3))],[]⟩) ?_ ?_ ?_;refine zB (λx=>⟨[(6,.row 32),(33,.d (zH aC K)),(34,.d (di (K.length:Int))),(35,.d (di x.1))],[(32,.map (wH zIR eB x.2))]⟩) ai wc ?_
 rintro⟨an,Z⟩ ak G
 replace G:uE K an Z=some ak:=G;unfold uE at G;refine Q18 ?_;refine zX G (λG=>?_) (λG=>?_);refine Q32 ?_;have ⟨_,Y,G⟩:=bE G;refine q11 S23 Y ?_;refine z0S G60 Y ?_;refine z7V ?_;refine zN (zR (t:=8) lr rfl rfl rfl) ?_;refine yS<|Q21 ?_;refine q12 G60 ?_;have ⟨al,ad,G⟩:=bE G;refine q6 (zMZ ad) ?_;refine jT (yBV (kv:=zIR) (ev:=eB) (mp:=Z) (k:=al) (zero:=false) lr yQ9 yRD rfl rfl rfl (yJR rfl) (λ_ _=> .v _)) ?_;refine zK ?_;refine zX G (λG=>?_) (λG=>?_);refine Q23 ?_;cases G;intro q;cases q;exact⟨rfl,wc⟩;refine zO<|Q26 ?_;refine q12 G60 ?_;have ⟨am,ag,G⟩:=bE G;refine q6 (zMZ ag) ?_;refine yE rfl (zQZ (kv:=zIR) (ev:=eB) (mp:=Z) (k:=am) (v:=true) yQ9 yRD rfl rfl rfl (yJR rfl) rfl rfl rfl) ?_;refine zK<|Q20 ?_;exact ew G;refine zE ?_;cases G;intro q;cases q;exact⟨rfl,wc⟩
 rintro y3 rfl
 replace h:=eL h;refine Q3 ?_;exact er h
 rintro y3 rfl
 replace h:=eR h;exact es h
set_option maxHeartbeats 8000000 in
theorem zD4 {ab:DV} {a0:(List Range)} {a1:Int} {a2:Int} {a3:Range->Range->Option (Int)} (ao:∀x0 x1 y,a3 x0 x1=some y->FnC Tryz.prog ab [(aF.dv x0),(aF.dv x1)] [(di y)]) {r:(List Range)} (h:jA a0 a1 a2 a3=some r):GC Tryz.prog 218 [.row 3000,.d (di a1),.d (di a2),.d ab] [(3000,.row 43 aF.size false (aF.all a0))] [3000] [] [(3000,.row 43 aF.size false (aF.all r))]:=by
 refine zDZ Tryz.func218 (by kernel_rfl) rfl lr lr λw0 I0 au p0=>?_;unfold jA at h;refine Q2 ?_;refine Q10 ?_;refine yW ?_;have ⟨y1,k,h⟩:=bE h;refine tl (.exit 0) ⟨[(0,.row 3000)],[(3000,.row 43 aF.size false (aF.all y1))]⟩ ?_ ?_;refine zB (λx=>⟨[(0,.row 3000),(1,.d (di a1)),(2,.d (di a2)),(3,.d ab),(8,.d (di x.1))],[(3000,.row 43 aF.size false (aF.all x.2))]⟩) k wc ?_
 rintro⟨v8,D⟩ ap p1
 replace p1:yJ a2 a1 a3 v8 D=some ap:=p1;unfold yJ at p1;refine Q75 ?_;refine zX p1 (λp1=>?_) (λp1=>?_);refine Q9 ?_;refine Q40 ?_;refine yW ?_;have ⟨y2,k,p1⟩:=bE p1;refine tl (.exit 2) ⟨[(0,.row 3000),(1,.d (di a1)),(2,.d (di a2)),(3,.d ab),(8,.d (di v8))],[(3000,.row 43 aF.size false (aF.all y2))]⟩ ?_ ?_;refine zB (λx=>⟨[(0,.row 3000),(1,.d (di a1)),(2,.d (di a2)),(3,.d ab),(8,.d (di v8)),(9,.d (di x.1))],[(3000,.row 43 aF.size false (aF.all x.2))]⟩) k wc ?_
 rintro⟨T,D⟩ aq O
 replace O:yY a1 a3 T D=some aq:=O;unfold yY at O;refine yS<|yS ?_;refine zT MX rfl ?_;refine Q25 ?_;refine z69 ?_;have ⟨_,k,O⟩:=bE O;refine q47 k ?_;refine q48 (.d ab) ?_;refine yGD (.row 3000) ?_;refine q48 (.d (di T)) ?_;have ⟨ak,ah,O⟩:=bE O;refine dat (.ptr 3000 (T.toNat*aF.size)) rfl (λhb=>by subst hb;exact zFY (en:=aF) (l:=D) lr S24 rfl rfl rfl ah) ?_
 refine dat (.d (aF.dv ak)) rfl (λhb=>by subst hb;exact uA (en:=aF) (l:=D) (i:=T) (v:=ak) (off:=0) lr G43 rfl rfl ah rfl rfl (by decide)) ?_
 refine yGD (.row 3000) ?_;refine q48 (.d (di T)) ?_;refine yCJ (.d (di (wi (T-1)))) ?_;have ⟨al,ai,O⟩:=bE O;refine dat (.ptr 3000 ((wi (T-1)).toNat*aF.size)) rfl (λhb=>by subst hb;exact zFY (en:=aF) (l:=D) lr S24 rfl rfl rfl ai) ?_
 refine dat (.d (aF.dv al)) rfl (λhb=>by subst hb;exact uA (en:=aF) (l:=D) (i:=(wi (T-1))) (v:=al) (off:=0) lr G43 rfl rfl ai rfl rfl (by decide)) ?_
 have ⟨am,aj,O⟩:=bE O;refine dat (.d (di am)) rfl (λhb=>by subst hb;exact zKI lr rfl rfl (ao _ _ _ aj)) ?_
 refine dat (.d (db (decide (am<0)))) rfl (λhb=>by subst hb;exact zQO lr rfl rfl) ?_
 refine Q95 ?_;refine zX O (λO=>?_) (λO=>?_);refine Q9 ?_;have ⟨ac,k,O⟩:=bE O;have ⟨ad,K,O⟩:=bE O;have ⟨_,Y,O⟩:=bE O;have ⟨_,G,O⟩:=bE O;have ⟨_,Z,O⟩:=bE O;have ⟨aa,H,O⟩:=bE O;refine tl .normal ⟨[(0,.row 3000),(1,.d (di a1)),(2,.d (di a2)),(3,.d ab),(8,.d (di v8)),(9,.d (di T))],[(3000,.row 43 aF.size false (aF.all aa))]⟩ ?_ ?_;refine zFZ MX ?_;refine z7T ?_;refine xm 2 ?_;refine xm 3 ?_;refine zMB (i:=4) rfl lr rfl rfl rfl rfl rfl rfl ?_;refine xm 5 ?_;refine xm 6 ?_;refine zMB (i:=7) rfl lr rfl rfl rfl rfl rfl rfl ?_;refine xm 10 ?_;refine xm 11 ?_;refine xn [8,12] ?_;refine yKT S24 k ?_ ?_;refine xn [9,12] ?_;refine xa rfl (uA (en:=aF) (l:=D) (i:=(wi (T-1))) (v:=ac) (off:=0) lr G43 rfl rfl k rfl rfl (by decide)) ?_ ?_;refine xn [12] ?_;refine q43 S24 K ?_;refine xn [13] ?_;refine xc rfl (uA (en:=aF) (l:=D) (i:=T) (v:=ad) (off:=0) lr G43 rfl rfl K rfl rfl (by decide)) ?_;refine xn [14] ?_;refine q43 S24 Y ?_;refine xn [15] ?_;refine q84 G43 G ?_;refine xn [16] ?_;refine q43 S24 Z ?_;refine xn [17] ?_;refine q84 G43 H ?_;exact ae;refine q43 S24 K ?_;refine xn [9,13] ?_;refine xa rfl (uA (en:=aF) (l:=D) (i:=(wi (T-1))) (v:=ac) (off:=0) lr G43 rfl rfl k rfl rfl (by decide)) ?_ ?_;refine xn [13] ?_;refine xc rfl (uA (en:=aF) (l:=D) (i:=T) (v:=ad) (off:=0) lr G43 rfl rfl K rfl rfl (by decide)) ?_;refine xn [14] ?_;refine q43 S24 Y ?_;refine xn [15] ?_;refine q84 G43 G ?_;refine xn [16] ?_;refine q43 S24 Z ?_;refine xn [17] ?_;refine q84 G43 H ?_;exact ae;refine xc rfl (uA (en:=aF) (l:=D) (i:=T) (v:=ad) (off:=0) lr G43 rfl rfl K rfl rfl (by decide)) ?_;refine xn [9] ?_;refine xc rfl (uA (en:=aF) (l:=D) (i:=(wi (T-1))) (v:=ac) (off:=0) lr G43 rfl rfl k rfl rfl (by decide)) ?_;refine xn [14] ?_;refine q43 S24 Y ?_;refine xn [15] ?_;refine q84 G43 G ?_;refine xn [16] ?_;refine q43 S24 Z ?_;refine xn [17] ?_;refine q84 G43 H ?_;exact ae;refine q43 S24 K ?_;refine xn [8,13] ?_;refine yKT S24 k ?_ ?_;refine xn [9,13] ?_;refine xa rfl (uA (en:=aF) (l:=D) (i:=(wi (T-1))) (v:=ac) (off:=0) lr G43 rfl rfl k rfl rfl (by decide)) ?_ ?_;refine xn [13] ?_;refine xc rfl (uA (en:=aF) (l:=D) (i:=T) (v:=ad) (off:=0) lr G43 rfl rfl K rfl rfl (by decide)) ?_;refine xn [14] ?_;refine q43 S24 Y ?_;refine xn [15] ?_;refine q84 G43 G ?_;refine xn [16] ?_;refine q43 S24 Z ?_;refine xn [17] ?_;refine q84 G43 H ?_;exact ae;refine xc rfl (uA (en:=aF) (l:=D) (i:=T) (v:=ad) (off:=0) lr G43 rfl rfl K rfl rfl (by decide)) ?_;refine xn [9] ?_;refine xc rfl (uA (en:=aF) (l:=D) (i:=(wi (T-1))) (v:=ac) (off:=0) lr G43 rfl rfl k rfl rfl (by decide)) ?_;refine xn [14] ?_;refine q43 S24 Y ?_;refine xn [15] ?_;refine q84 G43 G ?_;refine xn [16] ?_;refine q43 S24 Z ?_;refine xn [17] ?_;refine q84 G43 H ?_;exact ae;refine xc rfl (uA (en:=aF) (l:=D) (i:=T) (v:=ad) (off:=0) lr G43 rfl rfl K rfl rfl (by decide)) ?_;refine xn [8] ?_;refine q43 S24 k ?_;refine xn [9] ?_;refine xc rfl (uA (en:=aF) (l:=D) (i:=(wi (T-1))) (v:=ac) (off:=0) lr G43 rfl rfl k rfl rfl (by decide)) ?_;refine xn [14] ?_;refine q43 S24 Y ?_;refine xn [15] ?_;refine q84 G43 G ?_;refine xn [16] ?_;refine q43 S24 Z ?_;refine xn [17] ?_;refine q84 G43 H ?_;exact ae;refine Q8 ?_;refine Q77 ?_;exact ew O;exact zE (ex O);refine Q13 ?_;exact ew p1;exact zE (ex p1);cases h;exact⟨rfl,⟨rfl,trivial⟩⟩
theorem zFT {H:DV} {O:(List Range)} {a1:Int} {a2:Int} {a3:Int} {T:Range->Range->Option (Int)} (Y:∀x0 x1 y,T x0 x1=some y->FnC Tryz.prog H [(aF.dv x0),(aF.dv x1)] [(di y)]) {r:(List Range)} (h:wA O a1 a2 a3 T=some r):GC Tryz.prog 214 [.row 3000,.d (di a1),.d (di a2),.d (di a3),.d H] [(3000,.row 43 aF.size false (aF.all O))] [3000] [] [(3000,.row 43 aF.size false (aF.all r))]:=by
 refine zDZ Tryz.func214 (by kernel_rfl) rfl lr lr λw0 I0 aa p0=>?_;unfold wA at h;refine Q3 ?_;refine Q22 ?_;have ⟨y1,k,h⟩:=bE h;refine tl .ret ⟨[(0,.row 3000)],[(3000,.row 43 aF.size false (aF.all y1))]⟩ ?_ ?_;refine zB (λx=>⟨[(0,.row 3000),(1,.d (di a1)),(2,.d (di a2)),(3,.d (di a3)),(4,.d H),(10,.d (db true)),(11,.d (db true))],[(3000,.row 43 aF.size false (aF.all O))]⟩) k wc ?_
 rintro _ Z K
 replace K:kY a2 a1 O T a3=some Z:=K;unfold kY at K;have ⟨y2,D,K⟩:=bE K;refine tl .ret ⟨[(0,.row 3000)],[(3000,.row 43 aF.size false (aF.all y2))]⟩ ?_ ?_;refine z00 ?_;refine Q77 ?_;refine Q4 ?_;refine z7N ?_;refine zX D (λD=>?_) (λD=>?_);refine z7W ?_;have ⟨_,k,D⟩:=bE D;refine yE rfl (zEJ [(3000,3000)] (zD4 Y k) lr (by decide) ⟨rfl,rfl,rfl,rfl,trivial⟩ rfl rfl ⟨rfl,trivial⟩ rfl rfl rfl rfl) ?_;refine zK<|yB ?_;exact eo D;refine Q70 ?_;refine Q89 ?_;refine zX D (λD=>?_) (λD=>?_);refine z7W ?_;cases D;refine Q70 ?_;refine Q36 ?_;have ⟨_,G,D⟩:=bE D;refine tl .normal ⟨[(0,.row 3000),(1,.d (di a1)),(2,.d (di a2)),(3,.d (di a3)),(4,.d H),(10,.d (db true)),(11,.d (db true)),(12,.d (di (wi (a2-a1))))],[(3000,.row 43 aF.size false (aF.all O))]⟩ ?_ ?_;refine zX G (λG=>?_) (λG=>?_);refine z7W ?_;cases G;refine zO ?_;exact eo G;refine z7W ?_;cases D;exact ex K;cases h;exact⟨rfl,⟨rfl,trivial⟩⟩
theorem zEP {D:DV} {H:(List Range)} {a1:Range->Range->Option (Int)} (G:∀x0 x1 y,a1 x0 x1=some y->FnC Tryz.prog D [(aF.dv x0),(aF.dv x1)] [(di y)]) {r:(List Range)} (h:jD H a1=some r):GC Tryz.prog 205 [.row 3000,.d D] [(3000,.row 43 aF.size false (aF.all H))] [3000] [] [(3000,.row 43 aF.size false (aF.all r))]:=by refine zDZ Tryz.func205 (by kernel_rfl) rfl lr lr λw0 O K T=>?_;unfold jD at h;refine Q21 ?_;refine yCF S24 ?_;refine Q1 ?_;refine Q71 ?_;refine q68 Tryz.underlying3 Tryz.underlying134 ?_;have ⟨_,k,h⟩:=bE h;refine q6 (zT1 k) ?_;refine q0 ?_;have ⟨_,k,h⟩:=bE h;refine yE rfl (zEJ [(3000,3000)] (zFT G k) lr (by decide) ⟨rfl,rfl,rfl,rfl,rfl,trivial⟩ rfl rfl ⟨rfl,trivial⟩ rfl rfl rfl rfl) ?_;refine zK ?_;cases h;exact⟨rfl,⟨rfl,trivial⟩⟩
theorem zV7 {D a1 r} (h:zB0 D a1=some r):zC Tryz.prog 206 [(aF.dv D),(aF.dv a1)] [(di r)]:=by refine co Tryz.func206 ?_;intro _ _ _ _;unfold zB0 at h;refine Q0 ?_;refine yF3 ?_;refine yF3 ?_;refine Q16 ?_;refine zT MX rfl ?_;refine z7O ?_;refine z7O ?_;have ⟨_,k,h⟩:=bE h;refine q20 (vO k) ?_;refine z7J ?_;refine z7J ?_;have ⟨_,k,h⟩:=bE h;refine q20 (vO k) ?_;refine yGC yD ?_;have ⟨_,k,h⟩:=bE h;refine q20 (zQ8 k) ?_;refine Q44 ?_;exact er h
theorem z04 {a0 r} (h:zJE a0=some r):zC Tryz.prog 188 [(zH aF a0)] [(bY.dv r)]:=by
 refine co Tryz.func188 ?_;intro _ _ _ _;unfold zJE at h;refine Q0 ?_;refine z7B ?_;refine zK<|Q3 ?_;refine zN (xG (t:=3) 1003 43 aF.size lr lr rfl rfl) ?_;refine Q4 ?_;refine yGP ?_;have ⟨y1,k,h⟩:=bE h;refine tl (.exit 0) ⟨[(2,.ptr 2 0),(3,.row 1003)],[(2,.box 26 [.d (.v (.slice none 0 0))]),(1003,.row 43 aF.size false (aF.all y1))]⟩ ?_ ?_;refine zB (λx=>⟨[(2,.ptr 2 0),(3,.row 1003),(11,.d (zH aF a0)),(12,.d (di (a0.length:Int))),(13,.d (di x.1))],[(2,.box 26 [.d (.v (.slice none 0 0))]),(1003,.row 43 aF.size false (aF.all x.2))]⟩) k wc ?_
 rintro⟨aj,T⟩ ak Z
 replace Z:zB7 a0 aj T=some ak:=Z;unfold zB7 at Z;refine Q18 ?_;refine zX Z (λZ=>?_) (λZ=>?_);refine Q5 ?_;have ⟨y2,H,Z⟩:=bE Z;refine tl .normal ⟨[(2,.ptr 2 0),(3,.row 1003),(11,.d (zH aF a0)),(12,.d (di (a0.length:Int))),(13,.d (di aj))],[(2,.box 26 [.d (.v (.slice none 0 0))]),(1003,.row 43 aF.size false (aF.all y2))]⟩ ?_ ?_;refine Q66 ?_;have ⟨ai,k,H⟩:=bE H;refine q11 S24 k ?_;refine yCD G43 k ?_;refine Q68 ?_;refine zN (zR (t:=5) lr rfl rfl rfl) ?_;refine Q0 ?_;refine Q78 ?_;refine yKU ?_;refine z7H ?_;refine yF6 ?_;refine q49 B43 ?_;refine Q68 ?_;refine zN (zR (t:=6) lr rfl rfl rfl) ?_;refine Q0 ?_;refine Q78 ?_;refine z7H ?_;refine z7N ?_;refine zX H (λH=>?_) (λH=>?_);refine Q26 ?_;refine yGQ ?_;have ⟨_,k,H⟩:=bE H;refine yE rfl (yF (en:=aF) (l:=T) (m:=[({Lo:=max ai.Lo 0,Hi:=min ai.Hi 1114111}:Range)]) lr S24 rfl rfl rfl k (by decide) (by decide) rfl rfl) ?_;refine Q11 ?_;exact eo H;refine zO ?_;exact eo H;refine Q20 ?_;exact ew Z;exact zE (ex Z);refine Q21 ?_;have ⟨O,ah,h⟩:=bE h;refine yE rfl (zCI [(3000,1003)] (zEP (λ_ _ _ q=> .inr ⟨_,rfl,zV7 q⟩) ah) lr (by decide) ⟨rfl,rfl,trivial⟩ rfl rfl ⟨rfl,trivial⟩ rfl rfl rfl (λ_=>rfl) rfl) ?_;refine zK<|Q3 ?_;refine zN (xG (t:=7) 1007 43 aF.size lr lr rfl rfl) ?_;refine yS<|Q21 ?_;refine yCF S24 ?_;refine Q24 ?_;have ⟨y4,k,h⟩:=bE h;refine tl (.exit 2) ⟨[(2,.ptr 2 0),(7,.row 1007)],[(2,.box 26 [.d (.v (.slice none 0 0))]),(1007,.row 43 aF.size false (aF.all y4))]⟩ ?_ ?_;refine zB (λx=>⟨[(2,.ptr 2 0),(7,.row 1007),(36,.row 1003),(37,.d (di (O.length:Int))),(38,.d (di x.1))],[(2,.box 26 [.d (.v (.slice none 0 0))]),(1003,.row 43 aF.size false (aF.all O)),(1007,.row 43 aF.size false (aF.all x.2))]⟩) k wc ?_
 rintro⟨ag,D⟩ al p4
 replace p4:zB8 O ag D=some al:=p4;unfold zB8 at p4;refine Q18 ?_;refine zX p4 (λp4=>?_) (λp4=>?_);refine Q5 ?_;have ⟨y5,G,p4⟩:=bE p4;refine tl .normal ⟨[(2,.ptr 2 0),(7,.row 1007),(36,.row 1003),(37,.d (di (O.length:Int))),(38,.d (di ag))],[(2,.box 26 [.d (.v (.slice none 0 0))]),(1003,.row 43 aF.size false (aF.all O)),(1007,.row 43 aF.size false (aF.all y5))]⟩ ?_ ?_;refine Q66 ?_;have ⟨Y,k,G⟩:=bE G;refine q90 S24 k ?_;refine jT (uA (en:=aF) (l:=O) (i:=ag) (v:=Y) (off:=0) lr G43 rfl rfl k rfl rfl (by decide)) ?_;refine Q68 ?_;refine zN (zR (t:=9) lr rfl rfl rfl) ?_;refine yS<|Q21 ?_;refine yCF S24 ?_;refine Q16 ?_;refine zT MX rfl ?_;refine q8 ?_;refine z69 ?_;have ⟨_,k,G⟩:=bE G;refine q47 k ?_;refine z39 (.ip (aF.cells Y) (0+0)) zN4 ?_;refine z4A (.d (di Y.Lo)) O3 ?_;refine yGD (.row 1007) ?_;refine q48 (.d (di (D.length:Int))) ?_;refine yCJ (.d (di (wi ((D.length:Int)-1)))) ?_;have ⟨ab,ac,G⟩:=bE G;refine dat (.ptr 1007 ((wi ((D.length:Int)-1)).toNat*aF.size)) rfl (λhb=>by subst hb;exact zFY (en:=aF) (l:=D) lr S24 rfl rfl rfl ac) ?_
 refine dat (.ptr 1007 ((wi ((D.length:Int)-1)).toNat*aF.size+1)) rfl (λhb=>by subst hb;exact zAF lr zKQ rfl) ?_
 refine dat (.d (di ab.Hi)) rfl (λhb=>by subst hb;exact w8 (en:=aF) (l:=D) (i:=(wi ((D.length:Int)-1))) (v:=ab) (off:=1) lr O3 rfl rfl ac rfl) ?_
 refine dat (.d (di (wi (ab.Hi+1)))) rfl (λhb=>by subst hb;exact zY1 lr rfl rfl) ?_
 refine dat (.d (db (decide (Y.Lo<=(wi (ab.Hi+1)))))) rfl (λhb=>by subst hb;exact zKE lr rfl rfl) ?_
 refine Q95 ?_;refine zX G (λG=>?_) (λG=>?_);refine yS ?_;refine zFV 14 MX rfl ?_;refine Q97 ?_;refine z4D ?_;refine Q97 ?_;refine z4D ?_;have ⟨am,k,G⟩:=bE G;refine yKC S24 k ?_;refine z4C zKQ ?_;refine daa (w8 (en:=aF) (l:=D) (i:=(wi ((D.length:Int)-1))) (v:=am) (off:=1) lr O3 rfl rfl k rfl) ?_;refine z7J ?_;refine daa (z8X lr rfl rfl) ?_;have ⟨an,k,G⟩:=bE G;refine yKC S24 k ?_;refine z4C zKQ ?_;refine wB ?_;have ⟨_,K,G⟩:=bE G;refine yE rfl (uL (en:=aF) (l:=D) (i:=(wi ((D.length:Int)-1))) (v:=an) (off:=1) O3 rfl rfl rfl k rfl (by decide) K rfl rfl) ?_;refine zK<|zE ?_;exact eo G;refine zO<|Q26 ?_;refine yGQ ?_;have ⟨_,k,G⟩:=bE G;refine yE rfl (yF (en:=aF) (l:=D) (m:=[Y]) lr S24 rfl rfl rfl k (by decide) (by decide) rfl rfl) ?_;refine Q11 ?_;exact eo G;refine Q20 ?_;exact ew p4;exact zE (ex p4);refine Q21 ?_;refine zEI (zA8 (t:=77) lr rfl rfl) ?_ (by simp);refine q49 B26 ?_;refine q18 G26 ?_;refine zK ?_;cases h;refine yB ?_;exact wR rfl rfl G26 rfl
theorem zXT {H r} (h:zHQ H=some r):zC Tryz.prog 153 [(bY.dv H)] [(db r)]:=by
 refine co Tryz.func153 ?_;intro _ _ _ _;unfold zHQ at h;refine Q94 ?_;refine Q35 ?_;refine Q99 ?_;have ⟨O,k,h⟩:=bE h;refine q6 (z04 k) ?_;refine z7B ?_;refine q18 G26 ?_;refine zK ?_;refine zN (zR (t:=3) lr rfl rfl rfl) ?_;refine Q31 ?_;refine z0W ?_;refine z0W ?_;refine Q37 ?_;refine zX h (λh=>?_) (λh=>?_);refine Q3 ?_;exact er h;refine Q74 ?_;refine z0W ?_;refine Q24 ?_;have ⟨G,k,h⟩:=bE h;refine zP G (.exit 0) (λG=>⟨[],[]⟩) .ret (λG=>⟨[(2,.d (db G))],[]⟩) ?_ ?_ ?_;refine zB (λx=>⟨[(1,.d (.pt (bY.cells H))),(17,.d (zH aF O.Ranges)),(18,.d (di (O.Ranges.length:Int))),(19,.d (di x))],[]⟩) k wc ?_
 rintro T K D
 replace D:zCP O H T=some K:=D;unfold zCP at D;refine Q18 ?_;refine zX D (λD=>?_) (λD=>?_);refine Q64 ?_;have ⟨_,k,D⟩:=bE D;refine q11 S24 k ?_;refine yCD G43 k ?_;refine q64 ?_;refine q1 ?_;refine Q60 ?_;refine zN (zR (t:=5) lr rfl rfl rfl) ?_;refine yS ?_;refine zT MX rfl ?_;refine q33 G43 ?_;refine q13 zLJ ?_;refine q19 O24 ?_;refine q8 ?_;have ⟨_,k,D⟩:=bE D;refine q29 S24 k ?_;refine yKV G43 k ?_;refine yKD E43 ?_;refine wB ?_;refine zX D (λD=>?_) (λD=>?_);refine Q23 ?_;cases D;intro q;cases q;exact⟨rfl,wc⟩;refine Q41 ?_;exact ew D;refine zE ?_;cases D;intro q;cases q;exact⟨rfl,wc⟩
 rintro G rfl
 replace h:=eL h;refine Q3 ?_;exact er h
 rintro G rfl
 replace h:=eR h;exact es h
theorem zK4 {D r} (h:zEB D=some r):zC Tryz.prog 154 [(di D)] [(di r)]:=by refine co Tryz.func154 ?_;intro _ _ _ _;unfold zEB at h;refine Q3 ?_;refine yS<|Q65 ?_;refine q39 ?_;have ⟨_,k,h⟩:=bE h;refine q9 k ?_;refine q15 (.d (di D)) ?_;refine q82 (.d (db (decide (D<4371)))) ?_;refine Q47 ?_;refine zX h (λh=>?_) (λh=>?_);refine Q3 ?_;exact er h;refine Q2 ?_;refine q39 ?_;have ⟨_,k,h⟩:=bE h;refine q9 k ?_;refine q15 (.d (di D)) ?_;refine q82 (.d (db (decide (D<4470)))) ?_;refine Q47 ?_;refine zX h (λh=>?_) (λh=>?_);refine Q3 ?_;exact er h;refine Q2 ?_;refine q39 ?_;have ⟨_,k,h⟩:=bE h;refine q9 k ?_;refine q15 (.d (di D)) ?_;refine q82 (.d (db (decide (D<4547)))) ?_;refine Q47 ?_;refine zX h (λh=>?_) (λh=>?_);refine Q3 ?_;exact er h;refine Q2 ?_;refine q5 ?_;have ⟨_,k,h⟩:=bE h;refine q9 k ?_;refine q42 (.d (di D)) ?_;refine z67 (.d (db (decide (55204<=D)))) ?_;refine q22 ?_;refine Q1 ?_;refine zX h (λh=>?_) (λh=>?_);refine Q3 ?_;exact er h;refine Q2 ?_;refine q34 ?_;have ⟨_,k,h⟩:=bE h;refine z0T k ?_;refine Q98 ?_;refine zX h (λh=>?_) (λh=>?_);refine Q3 ?_;exact er h;refine Q58 ?_;exact er h
theorem zKU {D r} (h:zBO D=some r):zC Tryz.prog 128 [(zH aR D)] [(zH aR r)]:=by refine co Tryz.func128 ?_;intro _ _ _ _;unfold zBO at h;refine Q43 ?_;have ⟨_,k,h⟩:=bE h;refine q6 (zLN k) ?_;refine Q37 ?_;refine zX h (λh=>?_) (λh=>?_);refine Q3 ?_;refine zN (zGQ (t:=2) aR.size lr rfl) ?_;exact er h;refine zO<|Q40 ?_;exact er h
theorem zB4 {G:DV} {H:(List bM)} {a1:Int} {a2:bM->Int->Option (Int)} (T:∀x0 x1 y,a2 x0 x1=some y->FnC Tryz.prog G [(aR.dv x0),(di x1)] [(di y)]) {r:Int×Bool} (h:k9 H a1 a2=some r):zC Tryz.prog 173 [(zH aR H),(di a1),G] [(di r.1),(db r.2)]:=by
 refine co Tryz.func173 ?_;intro _ _ _ _;unfold k9 at h;refine Q0 ?_;refine z7X ?_;refine q4 S22 ?_;refine Q15 ?_;refine q1 ?_;refine Q90 ?_;have ⟨y1,k,h⟩:=bE h;refine tl (.exit 0) ⟨[(0,.d (zH aR H)),(1,.d (di a1)),(2,.d G),(8,.d (di (H.length:Int))),(9,.d (di y1))],[]⟩ ?_ ?_;refine zB (λx=>⟨[(0,.d (zH aR H)),(1,.d (di a1)),(2,.d G),(8,.d (di (H.length:Int))),(9,.d (di x.1)),(10,.d (di x.2))],[]⟩) k wc ?_
 rintro⟨v9,ad⟩ ac K
 replace K:yC H a2 a1 v9 ad=some ac:=K;unfold yC at K;refine Q75 ?_;refine zX K (λK=>?_) (λK=>?_);refine zO ?_;have ⟨y2,D,K⟩:=bE K;refine tl .normal ⟨[(0,.d (zH aR H)),(1,.d (di a1)),(2,.d G),(8,.d (di (H.length:Int))),(9,.d (di y2.1)),(10,.d (di y2.2))],[]⟩ ?_ ?_;refine z00 ?_;refine z7Y ?_;refine Q15 ?_;refine Q12 ?_;have ⟨_,k,D⟩:=bE D;refine q11 S22 k ?_;refine yKR uS k ?_;refine q0 ?_;have ⟨_,k,D⟩:=bE D;refine yCL (T _ _ _ k) ?_;refine Q6 ?_;refine zX D (λD=>?_) (λD=>?_);refine Q13 ?_;exact eo D;refine Q91 ?_;exact eo D;exact ew K;exact zE (ex K);refine Q2 ?_;refine Q12 ?_;refine q5 ?_;have ⟨_,k,h⟩:=bE h;refine q9 k ?_;refine q15 (.d G) ?_;refine q15 (.d (zH aR H)) ?_;refine q15 (.d (di y1)) ?_;have ⟨Z,O,h⟩:=bE h;refine sqt (.ip (aR.all H) (y1.toNat*aR.size)) rfl (λhb=>by subst hb;exact k4 (en:=aR) lr S22 rfl rfl O) ?_
 refine sqt (.d (aR.dv Z)) rfl (λhb=>by subst hb;exact zAL (en:=aR) (l:=H) (i:=y1) (v:=Z) (off:=0) lr uS rfl O rfl rfl (by decide)) ?_
 refine q15 (.d (di a1)) ?_;have ⟨aa,Y,h⟩:=bE h;refine sqt (.d (di aa)) rfl (λhb=>by subst hb;exact zKI lr rfl rfl (T _ _ _ Y)) ?_
 refine z0R (.d (db (decide (aa=0)))) ?_;refine q17 ?_;refine Q51 ?_;cases h;refine yB ?_;exact zHD rfl rfl
theorem zP3 {k a1 r} (h:zA3 k a1=some r):zC Tryz.prog 174 [(aR.dv k),(di a1)] [(di r)]:=by refine co Tryz.func174 ?_;intro _ _ _ _;unfold zA3 at h;refine Q33 ?_;refine Q16 ?_;refine Q66 ?_;refine q2 zG7 ?_;refine q7 O3 ?_;refine q0 ?_;refine q5 ?_;refine Q1 ?_;refine zX h (λh=>?_) (λh=>?_);refine Q3 ?_;exact er h;refine Q0 ?_;refine q2 zG6 ?_;refine q7 O3 ?_;refine q0 ?_;refine q53 ?_;refine Q1 ?_;refine zX h (λh=>?_) (λh=>?_);refine Q3 ?_;exact er h;refine Q58 ?_;exact er h
theorem zG9 {D a1 r} (h:jC D a1=some r):zC Tryz.prog 132 [(zH aR D),(di a1)] [(di r)]:=by refine co Tryz.func132 ?_;intro _ _ _ _;unfold jC at h;refine z4M ?_;have ⟨G,k,h⟩:=bE h;refine q6 (zB4 (λ_ _ _ q=> .inr ⟨_,rfl,zP3 q⟩) k) ?_;refine Q83 ?_;refine z7P ?_;refine Q36 ?_;refine zX h (λh=>?_) (λh=>?_);refine Q3 ?_;exact er h;refine zO<|Q27 ?_;have ⟨H,k,h⟩:=bE h;refine q11 S22 k ?_;refine q58 zIK ?_;refine jT (z6 (en:=aR) (l:=D) (i:=G.1) (v:=H) (off:=2) lr O3 rfl k rfl) ?_;refine Q1 ?_;exact er h
theorem zKV {items:List Range} {a1:(List Int)} {a2:(List bM)} {r:Unit} (h:zBP items a1 a2=some r):zVI Tryz.prog 171 [(.pt [(zH eI a1)]),(.pt [(zH aR a2)])] (items.map λx=>[aF.dv x]):=by
 refine z8Z Tryz.func171 (by kernel_rfl) rfl lr lr λw0 I0 J hc hg hG l0 hE=>?_;unfold zBP at h;refine Q3 ?_;refine Q31 ?_;refine q91 O37 ?_;refine Q63 ?_;have ⟨O,ak,h⟩:=bE h;refine zP O (.exit 0) (λO=>⟨[(0,.d (.v (.func (.yield l0) #[] #[]))),(1,.d (.pt [(zH eI a1)])),(4,.d (di O.1)),(1000000,.gh O.2)],[]⟩) .ret (λO=>⟨[(1000000,.gh O)],[]⟩) ?_ ?_ ?_;refine zB (λx=>⟨[(0,.d (.v (.func (.yield l0) #[] #[]))),(1,.d (.pt [(zH eI a1)])),(2,.d (.pt [(zH aR a2)])),(4,.d (di x.1)),(8,.d (zH eI a1)),(9,.d (di (a1.length:Int))),(10,.d (di x.2.1)),(1000000,.gh x.2.2)],[]⟩) ak wc ?_
 rintro⟨v4,aa,H⟩ al K
 replace K:kZ a1 a2 items v4 aa H=some al:=K;unfold kZ at K;refine Q18 ?_;refine zX K (λK=>?_) (λK=>?_);refine Q5 ?_;have ⟨Y,G,K⟩:=bE K;refine zP Y .normal (λY=>⟨[(0,.d (.v (.func (.yield l0) #[] #[]))),(1,.d (.pt [(zH eI a1)])),(2,.d (.pt [(zH aR a2)])),(4,.d (di Y.1)),(8,.d (zH eI a1)),(9,.d (di (a1.length:Int))),(10,.d (di aa)),(1000000,.gh Y.2)],[]⟩) .ret (λY=>⟨[(1000000,.gh Y)],[]⟩) ?_ ?_ ?_;refine Q65 ?_;have ⟨_,T,G⟩:=bE G;refine q11 yD T ?_;refine q36 O3 T ?_;refine q1 ?_;refine Q35 ?_;refine q91 O22 ?_;refine q0 ?_;have ⟨_,ad,G⟩:=bE G;refine q6 (zG9 ad) ?_;refine Q98 ?_;have ⟨Z,D,G⟩:=bE G;refine zP Z .normal (λZ=>⟨[(0,.d (.v (.func (.yield l0) #[] #[]))),(1,.d (.pt [(zH eI a1)])),(2,.d (.pt [(zH aR a2)])),(4,.d (di Z.1)),(8,.d (zH eI a1)),(9,.d (di (a1.length:Int))),(10,.d (di aa)),(1000000,.gh Z.2)],[]⟩) .ret (λZ=>⟨[(1000000,.gh Z)],[]⟩) ?_ ?_ ?_;refine Q65 ?_;refine q28 ?_;have ⟨_,ab,D⟩:=bE D;refine q9 ab ?_;refine q15 (.d (di v4)) ?_;refine q82 (.d (db (decide (v4<0)))) ?_;refine Q47 ?_;refine zX D (λD=>?_) (λD=>?_);refine Q91 ?_;exact ep D;refine Q2 ?_;have ⟨_,ac,D⟩:=bE D;refine q9 ac ?_;refine q15 (.d (di v4)) ?_;refine sqt (.d (db (decide (0<=v4)))) rfl (λhb=>by subst hb;exact zNJ lr rfl rfl) ?_
 refine Q47 ?_;refine zX D (λD=>?_) (λD=>?_);refine Q4 ?_;refine Q12 ?_;refine q49 B43 ?_;have ⟨_,ag,D⟩:=bE D;refine yE rfl (zZ9 (k:=H) lr hE rfl rfl rfl (z6T _ ag)) ?_;refine Q36 ?_;refine zX D (λD=>?_) (λD=>?_);refine yB ?_;exact ep D;refine zO<|xW<|Q1 ?_;exact ep D;refine zO ?_;exact ep D
 rintro Z rfl
 replace G:=eL G;exact ep G
 rintro Z rfl
 replace G:=eR G;exact ep G
 rintro Y rfl
 replace K:=eL K;refine Q20 ?_;exact ew K
 rintro Y rfl
 replace K:=eR K;cases K;intro q;cases q;exact⟨rfl,wc⟩;refine zE ?_;cases K;intro q;cases q;exact⟨rfl,wc⟩
 rintro O rfl
 replace h:=eL h;refine Q2 ?_;refine Q86 ?_;refine zX h (λh=>?_) (λh=>?_);refine Q84 ?_;refine q91 O37 ?_;refine q4 yD ?_;refine q49 B43 ?_;have ⟨_,ah,h⟩:=bE h;refine yE rfl (zZ9 (k:=O.2) lr hE rfl rfl rfl (z6T _ ah)) ?_;refine zK ?_;exact⟨rfl,zNY _ h⟩;refine zO ?_;exact⟨rfl,zNY _ h⟩
 rintro O rfl
 replace h:=eR h;exact⟨rfl,zNY _ h⟩
theorem zM0 {h:List bM} {a1:List Int}:zC Tryz.prog 129 [(zH aR h),(zH eI a1)] [.fn 171 [.pt [zH eI a1],.pt [zH aR h]]]:=by refine co Tryz.func129 ?_;intro _ _ _ _;refine Q94 ?_;refine q70 ?_;refine Q35 ?_;refine yKW ?_;refine yCX ?_;exact zVR rfl
theorem z4P {f:FuncId} {G:List DV} {r:List Range} (O:zVI Tryz.prog f G (r.map λx=>[aF.dv x])) (hr:r.length<=LIM):zC Tryz.prog 207 [.v (.slice none 0 0),.fn f G] [zH aF r]:=by
 refine co Tryz.func207 ?_;intro _ _ _ _;refine Q0 ?_;refine yE rfl (z8Y lr rfl rfl rfl) ?_;refine Q1 ?_;refine zN (zC9 (bid:=2) (off:=0) 100 43 aF.size lr (by decide) rfl rfl rfl) ?_;refine z7S ?_;refine yW ?_;refine zYU [(2,.ptr 2 0),(4,.d (.v (.slice none 0 0)))] [2] (λk=>[(2,.box 24 [.row 100]),(100,.row 43 aF.size false (aF.all (r.take k)))]) rfl O rfl (λ_ _ _ _ h=>h) ?hk ?hT rfl (λ_=>rfl) ?hbx (λ_ _=>rfl) ?hl ?hpn ?rd ?hK
 case hk=>exact⟨rfl,rfl,trivial⟩
 case hT=>exact⟨rfl,rfl,trivial⟩
 case hbx=>intro k id hi;simp at hi;subst hi;exact λ(h:Blk.box _ _=Blk.none)=>by cases h
 case hl=>intro x K;obtain⟨y,_,rfl⟩:=eM.1 K;rfl
 case hpn=>intro p Y;simp at Y;subst Y;exact lr
 case rd=>
  intro w1 Iall X C0 ag T l1 D ac ad ab k x K;rw[dW] at K;obtain⟨v,Z,rfl⟩:=e9.1 K;have aa:=(c8.1 Z).1;have H:app (r.take k) [v]=some (r.take (k+1)):=by
   unfold app;rw[dH (by simp;omega),List.take_add_one,Z]
   rfl
  refine xW<|Q68 ?_;refine yW<|xW<|q27 O24 ?_;refine jT ((k6 lr G43 rfl rfl rfl rfl).data rfl) ?_;refine q23 S24 ?_;refine yE rfl (yF (en:=aF) (l:=r.take k) (m:=[v]) lr S24 rfl rfl rfl H (by decide) (by decide) rfl rfl) ?_;refine q92 O24 ?_;refine zK ?_;exact⟨rfl,rfl,trivial⟩
 case hK=>
  rw[eZ,List.take_length];refine Q0 ?_;refine q27 O24 ?_;refine Q11 ?_;refine yB ?_;exact zVR rfl
theorem yC0 {f:FuncId} {h:List DV} {r:List Range} (k:zVI Tryz.prog f h (r.map λx=>[aF.dv x])) (D:r.length<=LIM):zC Tryz.prog 189 [.fn f h] [zH aF r]:=by refine co Tryz.func189 ?_;intro _ _ _ _;refine Q53 ?_;refine q6 (z4P k D) ?_;refine yCX ?_;exact zVR rfl
theorem zT5 {H:List bM} {a1:List Int} {r:List Range} (h:zE1 H a1=some r):zC Tryz.prog 155 [(zH aR H),(zH eI a1)] [zH aF r]:=by
 unfold zE1 at h;have ⟨O,D,K⟩:=bE h;clear h;have ⟨T,G,h⟩:=bE K;clear K;unfold yOJ at h;split at h
 case isFalse=>cases h
 rename_i k;cases h;refine co Tryz.func155 ?_;intro _ _ _ _;refine Q53 ?_;refine q6 (zKU D) ?_;refine q0 ?_;refine q6 zM0 ?_;refine q6 (yC0 (zKV G) k) ?_;refine yCX ?_;exact zVR rfl
theorem zV8 {K r} (h:zIS K=some r):zC Tryz.prog 195 [(di K)] [(cK.dv r)]:=by refine co Tryz.func195 ?_;intro _ _ _ _;unfold zIS at h;refine Q0 ?_;refine yCK ?_;refine zK<|Q4 ?_;have ⟨_,k,h⟩:=bE h;refine q6 (zK4 k) ?_;refine Q6 ?_;refine zX h (λh=>?_) (λh=>?_);refine Q0 ?_;refine q89 zSC ?_;refine q18 z34 ?_;refine zK ?_;cases h;refine yB ?_;exact wR rfl rfl z34 rfl;refine zO<|Q2 ?_;refine q34 ?_;refine Q15 ?_;have ⟨_,k,h⟩:=bE h;refine z7C k ?_;have ⟨G,k,h⟩:=bE h;refine z7C k ?_;refine q3 ?_;refine q0 ?_;have ⟨_,k,h⟩:=bE h;refine z7C k ?_;have ⟨H,k,h⟩:=bE h;refine z0T k ?_;refine q3 ?_;refine q89 zSC ?_;refine yCK ?_;refine q18 z34 ?_;refine zK<|Q4 ?_;have ⟨_,k,h⟩:=bE h;refine z0T k ?_;refine Q59 ?_;have ⟨O,D,h⟩:=bE h;refine tl .normal ⟨[(2,.ptr 2 0),(4,.ptr 4 0)],[(2,.box 219 [.d (di 0),.d (di 0),.d (di 0)]),(4,.box 219 [.d (di (({x0:=wi (4352+G),x1:=wi (4449+H),x2:=0}:b0).x0)),.d (di (({x0:=wi (4352+G),x1:=wi (4449+H),x2:=0}:b0).x1)),.d (di O)])]⟩ ?_ ?_;refine zX D (λD=>?_) (λD=>?_);refine Q8 ?_;have ⟨_,k,D⟩:=bE D;refine z0T k ?_;refine q3 ?_;refine q34 ?_;refine q75 zSC ?_;refine z4O ?_;exact eo D;refine zO ?_;exact eo D;refine Q0 ?_;refine jT ((k6 lr z34 rfl rfl rfl rfl).data rfl) ?_;refine q18 z34 ?_;refine zK ?_;cases h;refine yB ?_;exact wR rfl rfl z34 rfl
theorem zP4 {D r} (h:zCQ D=some r):zC Tryz.prog 168 [(di D)] [(zH eI r)]:=by refine co Tryz.func168 ?_;intro _ _ _ _;unfold zCQ at h;refine Q53 ?_;have ⟨G,k,h⟩:=bE h;refine q6 (zV8 k) ?_;refine yCK ?_;refine q18 z34 ?_;refine zK ?_;refine zN (zR (t:=3) lr rfl rfl rfl) ?_;refine yS<|Q66 ?_;refine q12 z34 ?_;refine q89 zSC ?_;refine jT (yJO (en:=cK) (a:=G) (b:=({x0:=0,x1:=0,x2:=0}:b0)) lr yTE rfl rfl) ?_;refine Q1 ?_;refine zX h (λh=>?_) (λh=>?_);refine Q2 ?_;refine q23 yD ?_;refine Q1 ?_;exact er h;refine Q0 ?_;refine yCM zSC ?_;refine q7 O3 ?_;refine Q98 ?_;refine zX h (λh=>?_) (λh=>?_);refine Q0 ?_;refine yCM zSC ?_;refine q7 O3 ?_;refine yCM zSC ?_;refine q7 O3 ?_;refine q23 yD ?_;refine Q1 ?_;exact er h;refine Q46 ?_;refine yCM zSC ?_;refine q7 O3 ?_;refine yCM zSC ?_;refine q7 O3 ?_;refine yCM zSC ?_;refine q7 O3 ?_;refine q23 yD ?_;refine Q1 ?_;exact er h
theorem zAO {G:DV} {H:(List aH)} {a1:Int} {a2:aH->Int->Option (Int)} (T:∀x0 x1 y,a2 x0 x1=some y->FnC Tryz.prog G [(aC.dv x0),(di x1)] [(di y)]) {r:Int×Bool} (h:yP H a1 a2=some r):zC Tryz.prog 169 [(zH aC H),(di a1),G] [(di r.1),(db r.2)]:=by
 refine co Tryz.func169 ?_;intro _ _ _ _;unfold yP at h;refine Q0 ?_;refine z7X ?_;refine q4 S23 ?_;refine Q15 ?_;refine q1 ?_;refine Q90 ?_;have ⟨y1,k,h⟩:=bE h;refine tl (.exit 0) ⟨[(0,.d (zH aC H)),(1,.d (di a1)),(2,.d G),(8,.d (di (H.length:Int))),(9,.d (di y1))],[]⟩ ?_ ?_;refine zB (λx=>⟨[(0,.d (zH aC H)),(1,.d (di a1)),(2,.d G),(8,.d (di (H.length:Int))),(9,.d (di x.1)),(10,.d (di x.2))],[]⟩) k wc ?_
 rintro⟨v9,ad⟩ ac K
 replace K:z7 H a2 a1 v9 ad=some ac:=K;unfold z7 at K;refine Q75 ?_;refine zX K (λK=>?_) (λK=>?_);refine zO ?_;have ⟨y2,D,K⟩:=bE K;refine tl .normal ⟨[(0,.d (zH aC H)),(1,.d (di a1)),(2,.d G),(8,.d (di (H.length:Int))),(9,.d (di y2.1)),(10,.d (di y2.2))],[]⟩ ?_ ?_;refine z00 ?_;refine z7Y ?_;refine Q15 ?_;refine Q12 ?_;have ⟨_,k,D⟩:=bE D;refine q11 S23 k ?_;refine z0S G60 k ?_;refine q0 ?_;have ⟨_,k,D⟩:=bE D;refine yCL (T _ _ _ k) ?_;refine Q6 ?_;refine zX D (λD=>?_) (λD=>?_);refine Q13 ?_;exact eo D;refine Q91 ?_;exact eo D;exact ew K;exact zE (ex K);refine Q2 ?_;refine Q12 ?_;refine q5 ?_;have ⟨_,k,h⟩:=bE h;refine q9 k ?_;refine q15 (.d G) ?_;refine q15 (.d (zH aC H)) ?_;refine q15 (.d (di y1)) ?_;have ⟨Z,O,h⟩:=bE h;refine sqt (.ip (aC.all H) (y1.toNat*aC.size)) rfl (λhb=>by subst hb;exact k4 (en:=aC) lr S23 rfl rfl O) ?_
 refine sqt (.d (aC.dv Z)) rfl (λhb=>by subst hb;exact zAL (en:=aC) (l:=H) (i:=y1) (v:=Z) (off:=0) lr G60 rfl O rfl rfl (by decide)) ?_
 refine q15 (.d (di a1)) ?_;have ⟨aa,Y,h⟩:=bE h;refine sqt (.d (di aa)) rfl (λhb=>by subst hb;exact zKI lr rfl rfl (T _ _ _ Y)) ?_
 refine z0R (.d (db (decide (aa=0)))) ?_;refine q17 ?_;refine Q51 ?_;cases h;refine yB ?_;exact zHD rfl rfl
theorem zP5 {D a1 r} (h:uF D a1=some r):zC Tryz.prog 170 [(aC.dv D),(di a1)] [(di r)]:=by refine co Tryz.func170 ?_;intro _ _ _ _;unfold uF at h;refine Q33 ?_;refine Q35 ?_;refine z0Z ?_;refine q0 ?_;have ⟨_,k,h⟩:=bE h;refine q6 (vO k) ?_;refine Q1 ?_;exact er h
theorem zLO {O a1 a2 r} (h:uV O a1 a2=some r):zC Tryz.prog 127 [(bD.dv O),(di a1),(db a2)] [(zH eI r.1),(db r.2)]:=by
 refine co Tryz.func127 ?_;intro _ _ _ _;unfold uV at h;refine Q33 ?_;refine z7P ?_;have ⟨_,k,h⟩:=bE h;refine q6 (zK4 k) ?_;refine Q86 ?_;refine zX h (λh=>?_) (λh=>?_);refine Q2 ?_;have ⟨_,k,h⟩:=bE h;refine q6 (zP4 k) ?_;refine Q51 ?_;cases h;refine yB ?_;exact zHD rfl rfl;refine Q46 ?_;refine z01 ?_;refine q0 ?_;have ⟨G,k,h⟩:=bE h;refine q6 (zAO (λ_ _ _ q=> .inr ⟨_,rfl,zP5 q⟩) k) ?_;refine Q83 ?_;refine z7P ?_;refine q28 ?_;have ⟨_,k,h⟩:=bE h;refine q9 k ?_;refine q24 (.ip (bD.cells O) (0+1)) zV0 ?_;refine q26 (.d (zH aC O.aA)) O23 ?_;refine q42 (.d (di G.1)) ?_;have ⟨H,K,h⟩:=bE h;refine sqf (.ip (aC.all O.aA) (G.1.toNat*aC.size)) rfl (λhb=>by subst hb;exact k4 (en:=aC) lr S23 rfl rfl K) ?_
 refine yKH (.ip (aC.all O.aA) (G.1.toNat*aC.size+2)) zFO ?_;refine sqf (.d (ds H.bO)) rfl (λhb=>by subst hb;exact z6 (en:=aC) (l:=O.aA) (i:=G.1) (v:=H) (off:=2) lr O9 rfl K rfl) ?_
 refine sqf (.d (db (!(H.bO== [])))) rfl (λhb=>by subst hb;exact z6H (a:=H.bO) (b:=[]) lr rfl rfl) ?_
 have ⟨D,Y,h⟩:=bE h;refine sqf (.d (db D)) rfl (λhb=>by subst hb;exact(kE lr rfl).bool (oi Y)) ?_
 refine wF (x:= .d (db a2)) rfl rfl rfl lr lr rfl (λhb=>by obtain⟨hb,T⟩:=zQ hb;obtain rfl:=gF hb;obtain rfl:D=true:=T;exact kE lr rfl) ?_
 refine wF (x:= .d (db (!a2))) rfl rfl rfl lr lr rfl (λhb=>by obtain⟨hb,T⟩:=zQ hb;obtain rfl:=gF hb;obtain rfl:D=true:=T;exact zYL lr rfl) ?_
 refine q96 (.d (db (D&&(!a2)))) ?_;refine Q45 ?_;refine zX h (λh=>?_) (λh=>?_);refine Q0 ?_;refine Q51 ?_;refine zN (zGQ (t:=6) eI.size lr rfl) ?_;cases h;refine yB ?_;exact zHD rfl rfl;refine Q46 ?_;refine z01 ?_;refine q0 ?_;have ⟨_,k,h⟩:=bE h;refine q11 S23 k ?_;refine q58 zH4 ?_;refine q99 O37 k ?_;refine Q51 ?_;cases h;refine yB ?_;exact zHD rfl rfl
theorem zM7:∀(n:Nat) {O:Int} {a1:Norm} {a2:(List (Int×Int))} {a3:Bool} {Z:Bool} {r:Int×Bool×Bool×(List (Int×Int))},yH n O a1 a2 a3 Z=some r->GC Tryz.prog 190 [.d (di O),.d (.pt (bD.cells a1)),.ptr 3002 0,.ptr 3003 0,.ptr 3004 0,.ptr 3005 0] [(3002,.box 103 [.row 3140]),(3003,.box 4 [.d (db a3)]),(3004,.box 147 [.clo 190 [.d (.pt (bD.cells a1)),.ptr 3002 0,.ptr 3003 0,.ptr 3004 0,.ptr 3005 0]]),(3005,.box 4 [.d (db Z)]),(3140,.map (wH kI eI a2))] [3002,3003,3004,3005,3140] [.d (di r.1)] [(3002,.box 103 [.row 3140]),(3003,.box 4 [.d (db r.2.1)]),(3004,.box 147 [.clo 190 [.d (.pt (bD.cells a1)),.ptr 3002 0,.ptr 3003 0,.ptr 3004 0,.ptr 3005 0]]),(3005,.box 4 [.d (db r.2.2.1)]),(3140,.map (wH kI eI r.2.2.2))]:=by
 intro n
 induction n with
 | zero=>intro O a1 a2 a3 Z r h;cases h
 | succ n ih=>
 intro O a1 a2 a3 Z r h;replace h:jI (yH n) O a1 a2 a3 Z=some r:=h;generalize yH n=ac at h ih;refine zDZ Tryz.func190 (by kernel_rfl) rfl lr lr λw0 I0 aj p0=>?_;unfold jI at h;refine Q3 ?_;refine Q0 ?_;refine q12 G28 ?_;refine q0 ?_;have ⟨D,ab,h⟩:=bE h;refine q6 (zLO ab) ?_;refine Q83 ?_;refine z7P ?_;refine q28 ?_;have ⟨_,aa,h⟩:=bE h;refine q9 aa ?_;refine q42 (.d (zH eI D.1)) ?_;refine q83 (.d (di (D.1.length:Int))) yD ?_;refine yCE (.d (db (decide ((D.1.length:Int)=0)))) ?_;refine Q45 ?_;refine zX h (λh=>?_) (λh=>?_);refine Q3 ?_;cases h;refine yB ?_;exact⟨⟨_,_,rfl,rfl,rfl⟩,⟨rfl,rfl,rfl,rfl,rfl,trivial⟩⟩;refine Q74 ?_;refine q27 zFS ?_;refine q0 ?_;refine jT (zY4 (kv:=kI) (ev:=eI) (mp:=a2) (k:=O) (zero:=0) lr zBI K3 rfl rfl rfl (λ_ _=> .v _)) ?_;refine Q83 ?_;refine z7X ?_;refine zK ?_;refine zX h (λh=>?_) (λh=>?_);refine Q0 ?_;refine q27 O4 ?_;have ⟨_,k,h⟩:=bE h;refine q9 k ?_;refine q42 (.d (di (mgetD a2 O 0))) ?_;refine yCE (.d (db (decide ((mgetD a2 O 0)=(-1))))) ?_;refine q22 ?_;refine q66 O4 ?_;refine zK<|Q2 ?_;refine yKU ?_;refine Q1 ?_;cases h;refine yB ?_;exact⟨⟨_,_,rfl,rfl,rfl⟩,⟨rfl,rfl,rfl,rfl,rfl,trivial⟩⟩;refine Q46 ?_;refine q27 zFS ?_;refine q0 ?_;refine yCI zBI K3 ?_;refine zK<|Q43 ?_;refine Q63 ?_;have ⟨Y,k,h⟩:=bE h;refine tl (.exit 0) ⟨[(0,.d (di O)),(2,.ptr 3002 0),(3,.ptr 3003 0),(4,.ptr 3004 0),(5,.ptr 3005 0),(12,.d (di Y.1))],[(3002,.box 103 [.row 3140]),(3003,.box 4 [.d (db Y.2.1)]),(3004,.box 147 [.clo 190 [.d (.pt (bD.cells a1)),.ptr 3002 0,.ptr 3003 0,.ptr 3004 0,.ptr 3005 0]]),(3005,.box 4 [.d (db Y.2.2.1)]),(3140,.map (wH kI eI Y.2.2.2))]⟩ ?_ ?_;refine zB (λx=>⟨[(0,.d (di O)),(2,.ptr 3002 0),(3,.ptr 3003 0),(4,.ptr 3004 0),(5,.ptr 3005 0),(12,.d (di x.1)),(44,.d (zH eI D.1)),(45,.d (di (D.1.length:Int))),(46,.d (di x.2.1))],[(3002,.box 103 [.row 3140]),(3003,.box 4 [.d (db x.2.2.1)]),(3004,.box 147 [.clo 190 [.d (.pt (bD.cells a1)),.ptr 3002 0,.ptr 3003 0,.ptr 3004 0,.ptr 3005 0]]),(3005,.box 4 [.d (db x.2.2.2.1)]),(3140,.map (wH kI eI x.2.2.2.2))]⟩) k wc ?_
 rintro⟨ag,ah,H,K,T⟩ ad G
 replace G:jO D ac a1 ag ah H K T=some ad:=G;unfold jO at G;refine Q18 ?_;refine zX G (λG=>?_) (λG=>?_);refine Q32 ?_;have ⟨_,k,G⟩:=bE G;refine q11 yD k ?_;refine q36 O3 k ?_;refine Q1 ?_;refine Q8 ?_;refine q27 yOQ ?_;refine q0 ?_;have ⟨_,k,G⟩:=bE G;refine yE rfl (z3T [(3002,3002),(3003,3003),(3004,3004),(3005,3005),(3140,3140)] (ih k) lr (by decide) rfl ⟨rfl,rfl,rfl,rfl,rfl,rfl,trivial⟩ rfl rfl ⟨rfl,rfl,rfl,rfl,rfl,trivial⟩ rfl rfl rfl rfl) ?_;refine q3 ?_;refine yF6 ?_;refine Q1 ?_;refine Q20 ?_;exact ew G;exact zE (ex G);refine Q0 ?_;refine q27 zFS ?_;refine Q12 ?_;refine yCI zBI K3 ?_;refine Q54 ?_;refine q27 O4 ?_;have ⟨_,k,h⟩:=bE h;refine q9 k ?_;refine q42 (.d (di Y.1)) ?_;refine q59 (.d (db (decide (64<Y.1)))) ?_;refine q22 ?_;refine q66 O4 ?_;refine zK<|Q40 ?_;cases h;refine yB ?_;exact⟨⟨_,_,rfl,rfl,rfl⟩,⟨rfl,rfl,rfl,rfl,rfl,trivial⟩⟩
set_option maxHeartbeats 8000000 in
theorem zO6 {G r} (h:decompose_measure G=some r):zC Tryz.prog 156 [(bD.dv G)] [(db r.1),(db r.2)]:=by
 refine co Tryz.func156 ?_;intro _ _ _ _;unfold decompose_measure at h;refine Q33 ?_;refine yE rfl (kH (zs:=[(.bool false)]) lr (by kernel_rfl) rfl rfl) ?_;refine yE rfl (kH (zs:=[(.bool false)]) lr (by kernel_rfl) rfl rfl) ?_;refine Q54 ?_;refine z68 ?_;refine yE rfl (kH (zs:=[(.map none)]) lr (by kernel_rfl) rfl rfl) ?_;refine q92 zFS ?_;refine Q54 ?_;refine yE rfl (kH (zs:=[.nilFunc]) lr (by kernel_rfl) rfl rfl) ?_;refine Q54 ?_;refine jT (zSA (cs:=[.d (.pt (bD.cells G)),.ptr 4 0,.ptr 2 0,.ptr 5 0,.ptr 3 0]) lr ⟨_,_,rfl,rfl,⟨_,_,rfl,rfl,⟨_,_,rfl,rfl,⟨_,_,rfl,rfl,⟨_,_,rfl,rfl,rfl⟩⟩⟩⟩⟩) ?_;refine yE rfl (zNX yOQ rfl rfl lr rfl rfl rfl rfl) ?_;refine z0Y ?_;refine z01 ?_;refine z7U ?_;have ⟨O,k,h⟩:=bE h;refine tl (.exit 0) ⟨[(2,.ptr 2 0),(3,.ptr 3 0)],[(2,.box 4 [.d (db O.1)]),(3,.box 4 [.d (db O.2)])]⟩ ?_ ?_;refine zB (λx=>⟨[(2,.ptr 2 0),(3,.ptr 3 0),(5,.ptr 5 0),(11,.d (zH aC G.aA)),(12,.d (di (G.aA.length:Int))),(13,.d (di x.1))],[(2,.box 4 [.d (db x.2.1)]),(3,.box 4 [.d (db x.2.2.1)]),(4,.box 103 [.row 8]),(5,.box 147 [.clo 190 [.d (.pt (bD.cells G)),.ptr 4 0,.ptr 2 0,.ptr 5 0,.ptr 3 0]]),(8,.map (wH kI eI x.2.2.2))]⟩) k wc ?_
 rintro⟨Y,H,K,Z⟩ T D
 replace D:k7 G Y H K Z=some T:=D;unfold k7 at D;refine Q18 ?_;refine zX D (λD=>?_) (λD=>?_);refine Q32 ?_;have ⟨_,k,D⟩:=bE D;refine q11 S23 k ?_;refine z0S G60 k ?_;refine z7V ?_;refine zN (zR (t:=7) lr rfl rfl rfl) ?_;refine xW<|q27 yOQ ?_;refine z0Z ?_;have ⟨_,k,D⟩:=bE D;refine yE rfl (zUK [(3002,4),(3003,2),(3004,5),(3005,3),(3140,8)] (zM7 _ k) lr (by decide) rfl ⟨rfl,rfl,rfl,rfl,rfl,rfl,trivial⟩ rfl rfl ⟨rfl,rfl,rfl,rfl,rfl,trivial⟩ rfl rfl rfl (λ_=>rfl) rfl) ?_;refine zK<|Q20 ?_;exact ew D;exact zE (ex D);refine yS ?_;refine tl .normal ⟨[(2,.ptr 2 0),(3,.ptr 3 0)],[(2,.box 4 [.d (db O.1)]),(3,.box 4 [.d (db O.2)])]⟩ ?_ ?_;refine zFZ MX ?_;refine xn [0,1] ?_;refine q85 O4 ?_ ?_;refine xn [1,2] ?_;refine q85 O4 ?_ ?_;refine xn [2] ?_;refine yCN O4 ?_;refine xn [3] ?_;refine yCN O4 ?_;exact ae;refine yCN O4 ?_;refine xn [1] ?_;refine q41 O4 ?_;refine xn [3] ?_;refine yCN O4 ?_;exact ae;refine q41 O4 ?_;refine xn [0] ?_;refine q41 O4 ?_;refine xn [2] ?_;refine yCN O4 ?_;refine xn [3] ?_;refine yCN O4 ?_;exact ae;cases h;refine yB ?_;exact z6S rfl rfl O4 rfl rfl O4
theorem zKW {H r} (h:zBQ H=some r):zC Tryz.prog 109 [(bD.dv H)] [(di r)]:=by
 refine co Tryz.func109 ?_;intro _ _ _ _;unfold zBQ at h;refine Q33 ?_;refine Q48 ?_;refine q2 zAW ?_;refine q7 O22 ?_;have ⟨_,k,h⟩:=bE h;refine q6 (zLN k) ?_;refine Q67 ?_;refine zX h (λh=>?_) (λh=>?_);refine Q40 ?_;exact er h;refine Q74 ?_;refine z01 ?_;have ⟨_,k,h⟩:=bE h;refine q6 (zT4 k) ?_;refine Q67 ?_;refine zX h (λh=>?_) (λh=>?_);refine Q40 ?_;exact er h;refine Q74 ?_;refine q2 yFQ ?_;refine q54 G26 ?_;have ⟨_,k,h⟩:=bE h;refine q6 (zXT k) ?_;refine Q36 ?_;refine zX h (λh=>?_) (λh=>?_);refine Q3 ?_;exact er h;refine z7L ?_;have ⟨y1,k,h⟩:=bE h;refine zP y1 (.exit 0) (λy1=>⟨[(1,.d (.pt (bD.cells H)))],[]⟩) .ret (λy1=>⟨[(2,.d (di y1))],[]⟩) ?_ ?_ ?_;refine zB (λx=>⟨[(1,.d (.pt (bD.cells H))),(5,.d (di x))],[]⟩) k wc ?_
 rintro v5 ag O
 replace O:uG H v5=some ag:=O;unfold uG at O;refine Q4 ?_;refine z01 ?_;refine q4 S23 ?_;refine Q6 ?_;refine zX O (λO=>?_) (λO=>?_);refine Q76 ?_;refine zT MX rfl ?_;refine q13 zV0 ?_;refine q19 O23 ?_;refine q8 ?_;have ⟨_,k,O⟩:=bE O;refine q29 S23 k ?_;refine q60 zLK ?_;refine yGE O3 k ?_;refine q13 zV0 ?_;refine q19 O23 ?_;refine q8 ?_;refine z4D ?_;have ⟨_,k,O⟩:=bE O;refine q29 S23 k ?_;refine q60 zLK ?_;refine yGE O3 k ?_;refine daa (zMT lr rfl rfl) ?_;refine wB ?_;refine zX O (λO=>?_) (λO=>?_);refine Q23 ?_;cases O;intro q;cases q;exact⟨rfl,wc⟩;refine Q38 ?_;exact ew O;refine zE ?_;cases O;intro q;cases q;exact⟨rfl,wc⟩
 rintro y1 rfl
 replace h:=eL h;refine Q31 ?_;refine z01 ?_;refine z7U ?_;have ⟨y2,k,h⟩:=bE h;refine zP y2 (.exit 2) (λy2=>⟨[(1,.d (.pt (bD.cells H)))],[]⟩) .ret (λy2=>⟨[(2,.d (di y2))],[]⟩) ?_ ?_ ?_;refine zB (λx=>⟨[(1,.d (.pt (bD.cells H))),(51,.d (zH aC H.aA)),(52,.d (di (H.aA.length:Int))),(53,.d (di x))],[]⟩) k wc ?_
 rintro ak ah K
 replace K:uH H ak=some ah:=K;unfold uH at K;refine Q18 ?_;refine zX K (λK=>?_) (λK=>?_);refine Q32 ?_;have ⟨G,k,K⟩:=bE K;refine q11 S23 k ?_;refine z0S G60 k ?_;refine z7V ?_;refine zN (zR (t:=7) lr rfl rfl rfl) ?_;refine Q0 ?_;refine q2 zFO ?_;refine q7 O9 ?_;refine jT (zPZ (a:=G.bO) (b:=[]) lr rfl rfl) ?_;have ⟨_,k,K⟩:=bE K;refine q9 k ?_;refine q55 (.ip (aC.cells G) (0+1)) zH4 ?_;refine q62 (.d (zH eI G.To)) O37 ?_;refine q98 (.d (di (G.To.length:Int))) yD ?_;refine yGB (.d (db (!decide ((G.To.length:Int)=1)))) ?_;refine q17 ?_;have ⟨_,k,K⟩:=bE K;refine q9 k ?_;refine q55 (.ip (aC.cells G) (0+1)) zH4 ?_;refine q62 (.d (zH eI G.To)) O37 ?_;refine q98 (.d (di (G.To.length:Int))) yD ?_;refine yGB (.d (db (!decide ((G.To.length:Int)=2)))) ?_;refine Q39 ?_;refine zX K (λK=>?_) (λK=>?_);refine Q23 ?_;cases K;intro q;cases q;exact⟨rfl,wc⟩;refine Q41 ?_;exact ew K;refine zE ?_;cases K;intro q;cases q;exact⟨rfl,wc⟩
 rintro y2 rfl
 replace h:=eL h;refine Q3 ?_;refine zN (xG (t:=8) 1008 3 eI.size lr lr rfl rfl) ?_;refine Q31 ?_;refine z01 ?_;refine z7U ?_;have ⟨Z,k,h⟩:=bE h;refine zP Z (.exit 4) (λZ=>⟨[(1,.d (.pt (bD.cells H))),(8,.row 1008)],[(1008,.row 3 eI.size false (eI.all Z))]⟩) .ret (λZ=>⟨[(2,.d (di Z))],[]⟩) ?_ ?_ ?_;refine zB (λx=>⟨[(1,.d (.pt (bD.cells H))),(8,.row 1008),(74,.d (zH aC H.aA)),(75,.d (di (H.aA.length:Int))),(76,.d (di x.1))],[(1008,.row 3 eI.size false (eI.all x.2))]⟩) k wc ?_
 rintro⟨ad,Y⟩ ai T
 replace T:kC H ad Y=some ai:=T;unfold kC at T;refine Q18 ?_;refine zX T (λT=>?_) (λT=>?_);refine Q5 ?_;have ⟨y4,D,T⟩:=bE T;refine zP y4 .normal (λy4=>⟨[(1,.d (.pt (bD.cells H))),(8,.row 1008),(74,.d (zH aC H.aA)),(75,.d (di (H.aA.length:Int))),(76,.d (di ad))],[(1008,.row 3 eI.size false (eI.all y4))]⟩) .ret (λy4=>⟨[(2,.d (di 11))],[]⟩) ?_ ?_ ?_;refine Q66 ?_;have ⟨aj,k,D⟩:=bE D;refine q11 S23 k ?_;refine z0S G60 k ?_;refine z7V ?_;refine zN (zR (t:=10) lr rfl rfl rfl) ?_;refine Q31 ?_;refine z0Z ?_;have ⟨_,k,D⟩:=bE D;refine q6 (zK4 k) ?_;refine Q37 ?_;refine zX D (λD=>?_) (λD=>?_);refine Q23 ?_;exact ep D;refine Q46 ?_;refine q2 zFO ?_;refine q7 O9 ?_;refine yCH ?_;refine zK ?_;refine zX D (λD=>?_) (λD=>?_);refine Q26 ?_;refine z0Z ?_;refine q23 yD ?_;have ⟨_,k,D⟩:=bE D;refine yE rfl (yF (en:=eI) (l:=Y) (m:=[aj.aW]) lr yD rfl rfl rfl k (by decide) (by decide) rfl rfl) ?_;refine Q11 ?_;exact ep D;refine zO ?_;exact ep D
 rintro y4 rfl
 replace T:=eL T;refine Q20 ?_;exact ew T
 rintro y4 rfl
 replace T:=eR T;cases T;intro q;cases q;exact⟨rfl,wc⟩;refine zE ?_;cases T;intro q;cases q;exact⟨rfl,wc⟩
 rintro Z rfl
 replace h:=eL h;refine Q31 ?_;refine q2 zAW ?_;refine q7 O22 ?_;refine q10 ?_;have ⟨_,k,h⟩:=bE h;refine yE rfl (yEN lr rfl rfl (zT5 k)) ?_;refine q4 S24 ?_;refine Q59 ?_;refine zX h (λh=>?_) (λh=>?_);refine Q3 ?_;exact er h;refine Q46 ?_;refine q12 G28 ?_;have ⟨_,k,h⟩:=bE h;refine q6 (zO6 k) ?_;refine Q83 ?_;refine q1 ?_;refine Q90 ?_;refine Q40 ?_;refine zX h (λh=>?_) (λh=>?_);refine Q3 ?_;exact er h;refine Q40 ?_;refine zX h (λh=>?_) (λh=>?_);refine Q3 ?_;exact er h;refine Q58 ?_;exact er h
 rintro Z rfl
 replace h:=eR h;exact es h
 rintro y2 rfl
 replace h:=eR h;exact es h
 rintro y1 rfl
 replace h:=eR h;exact es h
theorem zDF {D} {a1} {r:bG} (h:uW D a1=some r):GC Tryz.prog 87 [.ptr 3000 0,.d (bD.dv a1)] [(3000,.box 139 [.d (zH bB D.c.aB),.d (zH aY D.c.aE),.d (di D.c.bK),.d (di D.c.bA),.d (di D.c.bJ),.row 3105,.d (di D.bU),.d (zH aR D.bR),.d (di D.top)]),(3105,.map (wH zGT (eL aG) D.entries))] [3000,3105] [.ptr 3000 0] [(3000,.box 139 [.d (zH bB r.c.aB),.d (zH aY r.c.aE),.d (di r.c.bK),.d (di r.c.bA),.d (di r.c.bJ),.row 3105,.d (di r.bU),.d (zH aR r.bR),.d (di r.top)]),(3105,.map (wH zGT (eL aG) r.entries))]:=by
 refine zDZ Tryz.func87 (by kernel_rfl) rfl lr lr λw0 I0 Z p0=>?_;unfold uW at h;refine Q33 ?_;refine Q48 ?_;refine q12 G28 ?_;have ⟨_,k,h⟩:=bE h;refine q6 (zKW k) ?_;refine Q89 ?_;have ⟨O,G,h⟩:=bE h;refine tl .normal ⟨[(0,.ptr 3000 0)],[(3000,.box 139 [.d (zH bB D.c.aB),.d (zH aY D.c.aE),.d (di D.c.bK),.d (di D.c.bA),.d (di D.c.bJ),.row 3105,.d (di D.bU),.d (zH aR O),.d (di D.top)]),(3105,.map (wH zGT (eL aG) D.entries))]⟩ ?_ ?_;refine zX G (λG=>?_) (λG=>?_);refine xW<|z7A ?_;refine q2 zAW ?_;refine q7 O22 ?_;refine yKX ?_;refine q52 zP0 ?_;refine q66 O22 ?_;refine zK ?_;exact eo G;refine zO ?_;exact eo G;refine Q31 ?_;refine z7A ?_;refine yKX ?_;refine q52 zP0 ?_;refine q27 O22 ?_;refine q4 S22 ?_;refine Q24 ?_;have ⟨y2,k,h⟩:=bE h;refine tl (.exit 0) ⟨[(0,.ptr 3000 0)],[(3000,.box 139 [.d (zH bB D.c.aB),.d (zH aY D.c.aE),.d (di D.c.bK),.d (di D.c.bA),.d (di D.c.bJ),.row 3105,.d (di D.bU),.d (zH aR O),.d (di y2)]),(3105,.map (wH zGT (eL aG) D.entries))]⟩ ?_ ?_;refine zB (λx=>⟨[(0,.ptr 3000 0),(18,.d (zH aR O)),(19,.d (di (O.length:Int))),(20,.d (di x.1))],[(3000,.box 139 [.d (zH bB D.c.aB),.d (zH aY D.c.aE),.d (di D.c.bK),.d (di D.c.bA),.d (di D.c.bJ),.row 3105,.d (di D.bU),.d (zH aR O),.d (di x.2)]),(3105,.map (wH zGT (eL aG) D.entries))]⟩) k wc ?_
 rintro⟨Y,H⟩ T K
 replace K:jZ O Y H=some T:=K;unfold jZ at K;refine Q18 ?_;refine zX K (λK=>?_) (λK=>?_);refine Q32 ?_;have ⟨_,k,K⟩:=bE K;refine q11 S22 k ?_;refine yKR uS k ?_;refine yCK ?_;refine q18 uS ?_;refine zK ?_;refine zN (zR (t:=6) lr rfl rfl rfl) ?_;refine zFV 10 MX rfl ?_;refine yF8 ?_;refine yF8 ?_;refine yF9 ?_;refine z4C z6Z ?_;refine yKQ O3 ?_;refine q13 zIK ?_;refine q19 O3 ?_;refine daa (z8X lr rfl rfl) ?_;refine yF9 ?_;refine z4C z6Z ?_;refine wB<|z4O ?_;refine Q20 ?_;exact ew K;exact zE (ex K);refine Q0 ?_;refine z7A ?_;refine yF7 ?_;refine zK ?_;cases h;refine yB ?_;exact⟨⟨_,_,rfl,rfl,rfl⟩,⟨rfl,rfl,trivial⟩⟩
theorem zJO {D r} (h:zA4 D=some r):zC Tryz.prog 97 [(bD.dv D)] [(bD.dv r)]:=by refine co Tryz.func97 ?_;intro _ _ _ _;unfold zA4 at h;refine Q33 ?_;refine yKY ?_;refine z0Y ?_;refine q12 G28 ?_;have ⟨_,k,h⟩:=bE h;refine q6 (zKW k) ?_;refine Q37 ?_;refine zX h (λh=>?_) (λh=>?_);refine Q0 ?_;refine jT ((zFC lr B28 rfl rfl).nils (bs:=bD.cells ({aK:=[],aA:=[],aN:=(({Ranges:=[]}):Set)}:Norm)) (nlN (nlN (nlN nl0)))) ?_;refine q18 G28 ?_;refine zK ?_;cases h;refine yB ?_;exact wR rfl rfl G28 rfl;refine Q46 ?_;refine q12 G28 ?_;refine q18 G28 ?_;refine zK ?_;cases h;refine yB ?_;exact wR rfl rfl G28 rfl
theorem zF8:∀(n:Nat) {H:Int} {a1:(List (Int×(List Int)))} {a2:Norm} {a3:Bool} {r:(List Int)×(List (Int×(List Int)))},kU n H a1 a2 a3=some r->GC Tryz.prog 126 [.d (di H),.ptr 3001 0,.d (.pt (bD.cells a2)),.d (.pt [(db a3)]),.ptr 3004 0] [(3001,.box 158 [.row 3120]),(3004,.box 126 [.clo 126 [.ptr 3001 0,.d (.pt (bD.cells a2)),.d (.pt [(db a3)]),.ptr 3004 0]]),(3120,.map (wH kI (eL eI) a1))] [3001,3004,3120] [.d (zH eI r.1)] [(3001,.box 158 [.row 3120]),(3004,.box 126 [.clo 126 [.ptr 3001 0,.d (.pt (bD.cells a2)),.d (.pt [(db a3)]),.ptr 3004 0]]),(3120,.map (wH kI (eL eI) r.2))]:=by
 intro n
 induction n with
 | zero=>intro H a1 a2 a3 r h;cases h
 | succ n ih=>
 intro H a1 a2 a3 r h;replace h:vJ (kU n) H a1 a2 a3=some r:=h;generalize kU n=T at h ih;refine zDZ Tryz.func126 (by kernel_rfl) rfl lr lr λw0 I0 ad p0=>?_;unfold vJ at h;refine Q3 ?_;refine Q31 ?_;refine q27 yOR ?_;refine q0 ?_;refine jT (zY4 (kv:=kI) (ev:=(eL eI)) (mp:=a1) (k:=H) (zero:=[]) lr yQ7 K3 rfl rfl rfl (λ_ _=> .nil _ _ _)) ?_;refine Q83 ?_;refine z7X ?_;refine zK ?_;refine zX h (λh=>?_) (λh=>?_);refine Q40 ?_;cases h;refine yB ?_;exact⟨⟨_,_,rfl,rfl,rfl⟩,⟨rfl,rfl,rfl,trivial⟩⟩;refine Q46 ?_;refine q12 G28 ?_;refine q0 ?_;refine q91 O4 ?_;have ⟨O,k,h⟩:=bE h;refine q6 (zLO k) ?_;refine Q83 ?_;refine z7P ?_;refine Q36 ?_;refine zX h (λh=>?_) (λh=>?_);refine Q2 ?_;refine q23 yD ?_;refine Q1 ?_;cases h;refine yB ?_;exact⟨⟨_,_,rfl,rfl,rfl⟩,⟨rfl,rfl,rfl,trivial⟩⟩;refine Q58 ?_;refine zN (xG (t:=11) 1011 3 eI.size lr lr rfl rfl) ?_;refine Q4 ?_;refine Q63 ?_;have ⟨y1,k,h⟩:=bE h;refine tl (.exit 0) ⟨[(0,.d (di H)),(1,.ptr 3001 0),(4,.ptr 3004 0),(11,.row 1011)],[(1011,.row 3 eI.size false (eI.all y1.1)),(3001,.box 158 [.row 3120]),(3004,.box 126 [.clo 126 [.ptr 3001 0,.d (.pt (bD.cells a2)),.d (.pt [(db a3)]),.ptr 3004 0]]),(3120,.map (wH kI (eL eI) y1.2))]⟩ ?_ ?_;refine zB (λx=>⟨[(0,.d (di H)),(1,.ptr 3001 0),(4,.ptr 3004 0),(11,.row 1011),(33,.d (zH eI O.1)),(34,.d (di (O.1.length:Int))),(35,.d (di x.1))],[(1011,.row 3 eI.size false (eI.all x.2.1)),(3001,.box 158 [.row 3120]),(3004,.box 126 [.clo 126 [.ptr 3001 0,.d (.pt (bD.cells a2)),.d (.pt [(db a3)]),.ptr 3004 0]]),(3120,.map (wH kI (eL eI) x.2.2))]⟩) k wc ?_
 rintro⟨aa,G,K⟩ Y D
 replace D:jJ O T a2 a3 aa G K=some Y:=D;unfold jJ at D;refine Q18 ?_;refine zX D (λD=>?_) (λD=>?_);refine Q32 ?_;have ⟨_,k,D⟩:=bE D;refine q11 yD k ?_;refine q36 O3 k ?_;refine Q1 ?_;refine Q26 ?_;refine q27 yOP ?_;refine q0 ?_;have ⟨Z,k,D⟩:=bE D;refine yE rfl (z3T [(3001,3001),(3004,3004),(3120,3120)] (ih k) lr (by decide) rfl ⟨rfl,rfl,rfl,rfl,rfl,trivial⟩ rfl rfl ⟨rfl,rfl,rfl,trivial⟩ rfl rfl rfl rfl) ?_;have ⟨_,k,D⟩:=bE D;refine yE rfl (yF (en:=eI) (l:=G) (m:=Z.1) lr yD rfl rfl rfl k (by decide) (by decide) rfl rfl) ?_;refine Q11 ?_;refine Q20 ?_;exact ew D;exact zE (ex D);refine Q0 ?_;refine q27 yOR ?_;refine q0 ?_;refine q10 ?_;refine zEI (zA8 (t:=47) lr rfl rfl) ?_ (by simp);refine yCI yQ7 K3 ?_;refine zK<|Q52 ?_;refine zN (zA8 (t:=6) lr rfl rfl) ?_;cases h;refine yB ?_;exact⟨⟨_,_,rfl,rfl,rfl⟩,⟨rfl,rfl,rfl,trivial⟩⟩
theorem zH8 {k} {a1} {r:Unit} (h:zDC k a1=some r):GCA Tryz.prog 98 [.d (bD.dv k),.d (db a1)] [] [] (.clo 126 [.ptr 5 0,.d (.pt (bD.cells k)),.d (.pt [(db a1)]),.ptr 6 0]) [(5,.box 158 [.row 7]),(6,.box 126 [.clo 126 [.ptr 5 0,.d (.pt (bD.cells k)),.d (.pt [(db a1)]),.ptr 6 0]]),(7,.map (wH kI (eL eI) []))]:=by refine yEV Tryz.func98 (by kernel_rfl) rfl lr lr rfl λw0 G D H=>?_;unfold zDC at h;refine Q33 ?_;refine q70 ?_;refine Q35 ?_;refine z68 ?_;refine yE rfl (kH (zs:=[(.map none)]) lr (by kernel_rfl) rfl rfl) ?_;refine q92 yOR ?_;refine Q54 ?_;refine yE rfl (kH (zs:=[.nilFunc]) lr (by kernel_rfl) rfl rfl) ?_;refine Q54 ?_;refine jT (zSA (cs:=[.ptr 5 0,.d (.pt (bD.cells k)),.d (.pt [(db a1)]),.ptr 6 0]) lr ⟨_,_,rfl,rfl,⟨_,_,rfl,rfl,⟨_,_,rfl,rfl,⟨_,_,rfl,rfl,rfl⟩⟩⟩⟩) ?_;refine yE rfl (zNX yOP rfl rfl lr rfl rfl rfl rfl) ?_;refine Q54 ?_;refine q27 yOP ?_;refine yGF ?_;refine zK ?_;cases h;refine yB ?_;exact⟨rfl,⟨rfl,rfl,rfl,trivial⟩⟩
theorem zMF {D r:(List Int)} (h:zB1 D=some r):GC Tryz.prog 66 [.d (zH eI D)] [] [] [.row 5] [(5,.row 3 eI.size false (eI.all r))]:=by
 unfold zB1 at h;cases D with
 | nil=>
  refine yFB (by decide) λB c=>?_;refine zDZ Tryz.func66 (by kernel_rfl) rfl lr lr λw0 H G K=>?_;refine Q43 ?_;refine jT (yBY lr Tryz.underlying37 rfl) ?_;refine zK ?_;refine zI8 rfl ⟨λk=>?_,λk=>?_⟩;obtain⟨rfl,_⟩:=zQV h;refine Q3 ?_;refine zN (xG (t:=2) 5 3 eI.size lr lr rfl rfl) ?_;refine yB ?_;exact⟨⟨_,_,rfl,rfl,rfl⟩,rfl,trivial⟩;refine zO ?_;refine Q0 ?_;refine z7D yD ?_;refine q0 ?_;refine zEI (z0J (t:=6) eI.size lr rfl) ?_ (by simp);refine yE rfl (yF (en:=eI) (l:=[]) (m:=[]) lr yD rfl rfl rfl h (by decide) (by decide) rfl rfl) ?_;refine Q11 ?_;refine yB ?_;exact⟨⟨_,_,rfl,rfl,rfl⟩,rfl,trivial⟩
 | cons x l=>
  refine zDZ Tryz.func66 (by kernel_rfl) rfl lr lr λw0 H G K=>?_;refine Q43 ?_;refine jT (yJU lr Tryz.underlying37 rfl (yOD (by decide))) ?_;refine zK ?_;refine zI8 rfl ⟨λk=>(by cases k),λk=>?_⟩;refine Q46 ?_;refine z7D yD ?_;refine q0 ?_;refine yE rfl (yF (en:=eI) (l:=[]) (m:=x::l) lr yD rfl rfl rfl h (by decide) (by decide) rfl rfl) ?_;refine Q11 ?_;refine yB ?_;exact⟨⟨_,_,rfl,rfl,rfl⟩,rfl,trivial⟩
theorem zRA {D a1 a2 r} (h:vU D a1 a2=some r):zC Tryz.prog 131 [(di D),(di a1),(.pt [(zH aR a2)])] [(di r)]:=by refine co Tryz.func131 ?_;intro _ _ _ _;unfold vU at h;refine Q3 ?_;refine yS ?_;refine zT MX rfl ?_;refine yGG O22 ?_;refine q8 ?_;have ⟨_,k,h⟩:=bE h;refine q20 (zG9 k) ?_;refine yGG O22 ?_;refine q8 ?_;have ⟨_,k,h⟩:=bE h;refine q20 (zG9 k) ?_;have ⟨_,k,h⟩:=bE h;refine q20 (vO k) ?_;refine Q44 ?_;exact er h
set_option maxHeartbeats 8000000 in
theorem zBK {aa:DV} {a0:(List Int)} {a1:Int} {a2:Int} {a3:Int->Int->Option (Int)} (am:∀x0 x1 y,a3 x0 x1=some y->FnC Tryz.prog aa [(di x0),(di x1)] [(di y)]) {r:(List Int)} (h:kV a0 a1 a2 a3=some r):GC Tryz.prog 196 [.row 3000,.d (di a1),.d (di a2),.d aa] [(3000,.win 3 eI.size 0 (eI.all a0))] [3000] [] [(3000,.win 3 eI.size 0 (eI.all r))]:=by
 refine zDZ Tryz.func196 (by kernel_rfl) rfl lr lr λw0 I0 aq p0=>?_;unfold kV at h;refine Q2 ?_;refine Q10 ?_;refine yW ?_;have ⟨y1,k,h⟩:=bE h;refine tl (.exit 0) ⟨[(0,.row 3000)],[(3000,.win 3 eI.size 0 (eI.all y1))]⟩ ?_ ?_;refine zB (λx=>⟨[(0,.row 3000),(1,.d (di a1)),(2,.d (di a2)),(3,.d aa),(8,.d (di x.1))],[(3000,.win 3 eI.size 0 (eI.all x.2))]⟩) k wc ?_
 rintro⟨v8,O⟩ an p1
 replace p1:zZ a2 a1 a3 v8 O=some an:=p1;unfold zZ at p1;refine Q75 ?_;refine zX p1 (λp1=>?_) (λp1=>?_);refine Q9 ?_;refine Q40 ?_;refine yW ?_;have ⟨y2,k,p1⟩:=bE p1;refine tl (.exit 2) ⟨[(0,.row 3000),(1,.d (di a1)),(2,.d (di a2)),(3,.d aa),(8,.d (di v8))],[(3000,.win 3 eI.size 0 (eI.all y2))]⟩ ?_ ?_;refine zB (λx=>⟨[(0,.row 3000),(1,.d (di a1)),(2,.d (di a2)),(3,.d aa),(8,.d (di v8)),(9,.d (di x.1))],[(3000,.win 3 eI.size 0 (eI.all x.2))]⟩) k wc ?_
 rintro⟨v9,O⟩ ao Y
 replace Y:z8 a1 a3 v9 O=some ao:=Y;unfold z8 at Y;refine yS<|yS ?_;refine zT MX rfl ?_;refine Q25 ?_;refine z69 ?_;have ⟨_,k,Y⟩:=bE Y;refine q47 k ?_;refine q48 (.d aa) ?_;refine yGD (.row 3000) ?_;refine q48 (.d (di v9)) ?_;have ⟨ai,ad,Y⟩:=bE Y;refine dat (.wp 3000 (v9.toNat*eI.size)) rfl (λhb=>by subst hb;exact zHL (en:=eI) (l:=O) lr yD rfl rfl rfl ad) ?_
 refine dat (.d (di ai)) rfl (λhb=>by subst hb;exact zMA (en:=eI) (l:=O) (i:=v9) (v:=ai) lr O3 rfl rfl ad rfl) ?_
 refine yGD (.row 3000) ?_;refine q48 (.d (di v9)) ?_;refine yCJ (.d (di (wi (v9-1)))) ?_;have ⟨aj,ag,Y⟩:=bE Y;refine dat (.wp 3000 ((wi (v9-1)).toNat*eI.size)) rfl (λhb=>by subst hb;exact zHL (en:=eI) (l:=O) lr yD rfl rfl rfl ag) ?_
 refine dat (.d (di aj)) rfl (λhb=>by subst hb;exact zMA (en:=eI) (l:=O) (i:=(wi (v9-1))) (v:=aj) lr O3 rfl rfl ag rfl) ?_
 have ⟨ak,ah,Y⟩:=bE Y;refine dat (.d (di ak)) rfl (λhb=>by subst hb;exact zKI lr rfl rfl (am _ _ _ ah)) ?_
 refine dat (.d (db (decide (ak<0)))) rfl (λhb=>by subst hb;exact zQO lr rfl rfl) ?_
 refine Q95 ?_;refine zX Y (λY=>?_) (λY=>?_);refine Q9 ?_;have ⟨_,k,Y⟩:=bE Y;have ⟨_,T,Y⟩:=bE Y;have ⟨_,H,Y⟩:=bE Y;have ⟨_,D,Y⟩:=bE Y;have ⟨_,K,Y⟩:=bE Y;have ⟨Z,G,Y⟩:=bE Y;refine tl .normal ⟨[(0,.row 3000),(1,.d (di a1)),(2,.d (di a2)),(3,.d aa),(8,.d (di v8)),(9,.d (di v9))],[(3000,.win 3 eI.size 0 (eI.all Z))]⟩ ?_ ?_;refine zFZ MX ?_;refine z7T ?_;refine xm 2 ?_;refine xm 3 ?_;refine zMB (i:=4) rfl lr rfl rfl rfl rfl rfl rfl ?_;refine xm 5 ?_;refine xm 6 ?_;refine zMB (i:=7) rfl lr rfl rfl rfl rfl rfl rfl ?_;refine xm 10 ?_;refine xm 11 ?_;refine xn [8,12] ?_;refine z4E yD k ?_ ?_;refine xn [9,12] ?_;refine q86 O3 k ?_ ?_;refine xn [12] ?_;refine q21 yD T ?_;refine xn [13] ?_;refine q38 O3 T ?_;refine xn [14] ?_;refine q21 yD H ?_;refine xn [15] ?_;refine q25 O3 H D ?_;refine xn [16] ?_;refine q21 yD K ?_;refine xn [17] ?_;refine q25 O3 K G ?_;exact ae;refine q21 yD T ?_;refine xn [9,13] ?_;refine q86 O3 k ?_ ?_;refine xn [13] ?_;refine q38 O3 T ?_;refine xn [14] ?_;refine q21 yD H ?_;refine xn [15] ?_;refine q25 O3 H D ?_;refine xn [16] ?_;refine q21 yD K ?_;refine xn [17] ?_;refine q25 O3 K G ?_;exact ae;refine q38 O3 T ?_;refine xn [9] ?_;refine q38 O3 k ?_;refine xn [14] ?_;refine q21 yD H ?_;refine xn [15] ?_;refine q25 O3 H D ?_;refine xn [16] ?_;refine q21 yD K ?_;refine xn [17] ?_;refine q25 O3 K G ?_;exact ae;refine q21 yD T ?_;refine xn [8,13] ?_;refine z4E yD k ?_ ?_;refine xn [9,13] ?_;refine q86 O3 k ?_ ?_;refine xn [13] ?_;refine q38 O3 T ?_;refine xn [14] ?_;refine q21 yD H ?_;refine xn [15] ?_;refine q25 O3 H D ?_;refine xn [16] ?_;refine q21 yD K ?_;refine xn [17] ?_;refine q25 O3 K G ?_;exact ae;refine q38 O3 T ?_;refine xn [9] ?_;refine q38 O3 k ?_;refine xn [14] ?_;refine q21 yD H ?_;refine xn [15] ?_;refine q25 O3 H D ?_;refine xn [16] ?_;refine q21 yD K ?_;refine xn [17] ?_;refine q25 O3 K G ?_;exact ae;refine q38 O3 T ?_;refine xn [8] ?_;refine q21 yD k ?_;refine xn [9] ?_;refine q38 O3 k ?_;refine xn [14] ?_;refine q21 yD H ?_;refine xn [15] ?_;refine q25 O3 H D ?_;refine xn [16] ?_;refine q21 yD K ?_;refine xn [17] ?_;refine q25 O3 K G ?_;exact ae;refine Q8 ?_;refine Q77 ?_;exact ew Y;exact zE (ex Y);refine Q13 ?_;exact ew p1;exact zE (ex p1);cases h;exact⟨rfl,⟨rfl,trivial⟩⟩
set_option maxHeartbeats 8000000 in
theorem u2 {aa:DV} {a0:(List Int)} {a1:Int} {a2:Int} {a3:Int} {a4:Int->Int->Option (Int)} (ai:∀x0 x1 y,a4 x0 x1=some y->FnC Tryz.prog aa [(di x0),(di x1)] [(di y)]) {r:(List Int)} (h:kX a0 a1 a2 a3 a4=some r):GC Tryz.prog 216 [.row 3000,.d (di a1),.d (di a2),.d (di a3),.d aa] [(3000,.win 3 eI.size 0 (eI.all a0))] [3000] [] [(3000,.win 3 eI.size 0 (eI.all r))]:=by
 refine zDZ Tryz.func216 (by kernel_rfl) rfl lr lr λw0 I0 ah p0=>?_;unfold kX at h;refine Q22 ?_;have ⟨y1,k,h⟩:=bE h;refine tl (.exit 0) ⟨[(0,.row 3000)],[(3000,.win 3 eI.size 0 (eI.all y1))]⟩ ?_ ?_;refine zB (λx=>⟨[(0,.row 3000),(1,.d (di a1)),(2,.d (di a2)),(3,.d (di a3)),(10,.d (di x.1))],[(3000,.win 3 eI.size 0 (eI.all x.2))]⟩) k wc ?_
 rintro⟨ab,Z⟩ ac T
 replace T:kF a3 a2 a1 ab Z=some ac:=T;unfold kF at T;refine Q75 ?_;refine zX T (λT=>?_) (λT=>?_);refine Q9 ?_;have ⟨_,k,T⟩:=bE T;have ⟨_,O,T⟩:=bE T;have ⟨_,H,T⟩:=bE T;have ⟨_,D,T⟩:=bE T;have ⟨_,K,T⟩:=bE T;have ⟨Y,G,T⟩:=bE T;refine tl .normal ⟨[(0,.row 3000),(1,.d (di a1)),(2,.d (di a2)),(3,.d (di a3)),(10,.d (di ab))],[(3000,.win 3 eI.size 0 (eI.all Y))]⟩ ?_ ?_;refine zFZ MX ?_;refine z7T ?_;refine xm 2 ?_;refine zOQ (i:=3) rfl lr rfl rfl rfl rfl rfl rfl ?_;refine xm 4 ?_;refine xm 5 ?_;refine xm 6 ?_;refine zOQ (i:=7) rfl lr rfl rfl rfl rfl rfl rfl ?_;refine xm 8 ?_;refine xm 9 ?_;refine xm 10 ?_;refine zOQ (i:=11) rfl lr rfl rfl rfl rfl rfl rfl ?_;refine xm 14 ?_;refine xm 15 ?_;refine xm 16 ?_;refine zOQ (i:=17) rfl lr rfl rfl rfl rfl rfl rfl ?_;refine xn [12,18] ?_;refine z4E yD k ?_ ?_;refine xn [13,18] ?_;refine q86 O3 k ?_ ?_;refine xn [18] ?_;refine q21 yD O ?_;refine xn [19] ?_;refine q38 O3 O ?_;refine xn [20] ?_;refine q21 yD H ?_;refine xn [21] ?_;refine q25 O3 H D ?_;refine xn [22] ?_;refine q21 yD K ?_;refine xn [23] ?_;refine q25 O3 K G ?_;exact ae;refine q21 yD O ?_;refine xn [13,19] ?_;refine q86 O3 k ?_ ?_;refine xn [19] ?_;refine q38 O3 O ?_;refine xn [20] ?_;refine q21 yD H ?_;refine xn [21] ?_;refine q25 O3 H D ?_;refine xn [22] ?_;refine q21 yD K ?_;refine xn [23] ?_;refine q25 O3 K G ?_;exact ae;refine q38 O3 O ?_;refine xn [13] ?_;refine q38 O3 k ?_;refine xn [20] ?_;refine q21 yD H ?_;refine xn [21] ?_;refine q25 O3 H D ?_;refine xn [22] ?_;refine q21 yD K ?_;refine xn [23] ?_;refine q25 O3 K G ?_;exact ae;refine q21 yD O ?_;refine xn [12,19] ?_;refine z4E yD k ?_ ?_;refine xn [13,19] ?_;refine q86 O3 k ?_ ?_;refine xn [19] ?_;refine q38 O3 O ?_;refine xn [20] ?_;refine q21 yD H ?_;refine xn [21] ?_;refine q25 O3 H D ?_;refine xn [22] ?_;refine q21 yD K ?_;refine xn [23] ?_;refine q25 O3 K G ?_;exact ae;refine q38 O3 O ?_;refine xn [13] ?_;refine q38 O3 k ?_;refine xn [20] ?_;refine q21 yD H ?_;refine xn [21] ?_;refine q25 O3 H D ?_;refine xn [22] ?_;refine q21 yD K ?_;refine xn [23] ?_;refine q25 O3 K G ?_;exact ae;refine q38 O3 O ?_;refine xn [12] ?_;refine q21 yD k ?_;refine xn [13] ?_;refine q38 O3 k ?_;refine xn [20] ?_;refine q21 yD H ?_;refine xn [21] ?_;refine q25 O3 H D ?_;refine xn [22] ?_;refine q21 yD K ?_;refine xn [23] ?_;refine q25 O3 K G ?_;exact ae;refine Q13 ?_;exact ew T;exact zE (ex T);cases h;exact⟨rfl,⟨rfl,trivial⟩⟩
theorem zJP {G:DV} {a0:(List Int)} {a1:Int} {a2:Int} {a3:Int} {T:Int->Int->Option (Int)} (K:∀x0 x1 y,T x0 x1=some y->FnC Tryz.prog G [(di x0),(di x1)] [(di y)]) {r:(List Int)} (h:xP a0 a1 a2 a3 T=some r):GC Tryz.prog 211 [.row 3000,.d (di a1),.d (di a2),.d (di a3),.d G] [(3000,.win 3 eI.size 0 (eI.all a0))] [3000] [] [(3000,.win 3 eI.size 0 (eI.all r))]:=by
 refine zDZ Tryz.func211 (by kernel_rfl) rfl lr lr λw0 I0 ag p0=>?_;unfold xP at h;refine Q27 ?_;refine q34 ?_;refine Q69 ?_;refine q34 ?_;refine Q90 ?_;have ⟨y1,k,h⟩:=bE h;refine tl (.exit 0) ⟨[(0,.row 3000),(2,.d (di a2)),(4,.d G),(10,.d (di y1.1))],[(3000,.win 3 eI.size 0 (eI.all y1.2))]⟩ ?_ ?_;refine zB (λx=>⟨[(0,.row 3000),(2,.d (di a2)),(4,.d G),(10,.d (di x.1)),(11,.d (di x.2.1))],[(3000,.win 3 eI.size 0 (eI.all x.2.2))]⟩) k wc ?_
 rintro⟨Z,aa,O⟩ Y H
 replace H:yU a2 T Z aa O=some Y:=H;unfold yU at H;refine Q14 ?_;refine Q37 ?_;refine zX H (λH=>?_) (λH=>?_);refine zO ?_;have ⟨y2,D,H⟩:=bE H;refine tl .normal ⟨[(0,.row 3000),(2,.d (di a2)),(4,.d G),(10,.d (di y2.1)),(11,.d (di y2.2.1))],[(3000,.win 3 eI.size 0 (eI.all y2.2.2))]⟩ ?_ ?_;refine z00 ?_;refine Q59 ?_;refine zX D (λD=>?_) (λD=>?_);refine z4L ?_;refine q34 ?_;refine Q62 ?_;have ⟨_,k,D⟩:=bE D;refine yE rfl (zEJ [(3000,3000)] (u2 K k) lr (by decide) ⟨rfl,rfl,rfl,rfl,rfl,trivial⟩ rfl rfl ⟨rfl,trivial⟩ rfl rfl rfl rfl) ?_;refine zK<|Q84 ?_;refine Q77 ?_;exact eo D;refine z4L ?_;refine q34 ?_;refine Q12 ?_;refine q3 ?_;refine q0 ?_;refine q34 ?_;refine Q12 ?_;have ⟨_,k,D⟩:=bE D;refine yE rfl (zEJ [(3000,3000)] (u2 K k) lr (by decide) ⟨rfl,rfl,rfl,rfl,rfl,trivial⟩ rfl rfl ⟨rfl,trivial⟩ rfl rfl rfl rfl) ?_;refine zK<|Q84 ?_;refine Q77 ?_;exact eo D;exact ew H;exact zE (ex H);refine Q71 ?_;refine q34 ?_;refine Q62 ?_;have ⟨_,k,h⟩:=bE h;refine yE rfl (zEJ [(3000,3000)] (u2 K k) lr (by decide) ⟨rfl,rfl,rfl,rfl,rfl,trivial⟩ rfl rfl ⟨rfl,trivial⟩ rfl rfl rfl rfl) ?_;refine zK ?_;cases h;exact⟨rfl,⟨rfl,trivial⟩⟩
set_option maxHeartbeats 8000000 in
theorem zDN:∀(n:Nat) {ab:DV} {a0:(List Int)} {a1:Int} {a2:Int} {a3:Int} {a4:Int->Int->Option (Int)} (ap:∀x0 x1 y,a4 x0 x1=some y->FnC Tryz.prog ab [(di x0),(di x1)] [(di y)]) {r:(List Int)} (h:kR n a0 a1 a2 a3 a4=some r),GC Tryz.prog 197 [.row 3000,.d (di a1),.d (di a2),.d (di a3),.d ab] [(3000,.win 3 eI.size 0 (eI.all a0))] [3000] [] [(3000,.win 3 eI.size 0 (eI.all r))]:=by
 intro n
 induction n with
 | zero=>intro ab a0 a1 a2 a3 a4 ap r h;cases h
 | succ n ih=>
 intro ab a0 a1 a2 a3 a4 ap r h;replace h:yR (kR n) a0 a1 a2 a3 a4=some r:=h;generalize kR n=bz at h ih;refine zDZ Tryz.func197 (by kernel_rfl) rfl lr lr λw0 I0 bx p0=>?_;unfold yR at h;refine Q14 ?_;refine q34 ?_;refine Q89 ?_;refine zX h (λh=>?_) (λh=>?_);refine Q2 ?_;refine Q15 ?_;refine Q90 ?_;have ⟨y1,k,h⟩:=bE h;refine tl (.exit 0) ⟨[(0,.row 3000),(1,.d (di a1)),(10,.d (di y1))],[(3000,.win 3 eI.size 0 (eI.all a0))]⟩ ?_ ?_;refine zB (λx=>⟨[(0,.row 3000),(1,.d (di a1)),(4,.d ab),(10,.d (di x.1)),(11,.d (di x.2))],[(3000,.win 3 eI.size 0 (eI.all a0))]⟩) k wc ?_
 rintro⟨bk,bl⟩ bf p1
 replace p1:kL a0 a1 a4 bk bl=some bf:=p1;unfold kL at p1;refine Q75 ?_;refine zX p1 (λp1=>?_) (λp1=>?_);refine zO ?_;have ⟨y2,ah,p1⟩:=bE p1;refine tl .normal ⟨[(0,.row 3000),(1,.d (di a1)),(4,.d ab),(10,.d (di y2.1)),(11,.d (di y2.2))],[(3000,.win 3 eI.size 0 (eI.all a0))]⟩ ?_ ?_;refine z00 ?_;refine z7Y ?_;refine Q16 ?_;refine zT MX rfl ?_;refine q8 ?_;refine Q97 ?_;have ⟨_,k,ah⟩:=bE ah;refine yCO yD k ?_;refine yCP O3 k ?_;refine Q97 ?_;have ⟨_,k,ah⟩:=bE ah;refine yCO yD k ?_;refine yCP O3 k ?_;have ⟨_,k,ah⟩:=bE ah;refine daa (zKI lr rfl rfl (ap _ _ _ k)) ?_;refine z65 ?_;refine wB ?_;refine zX ah (λah=>?_) (λah=>?_);refine Q13 ?_;exact eo ah;refine Q91 ?_;exact eo ah;exact ew p1;exact zE (ex p1);refine Q4 ?_;refine Q1 ?_;refine yW ?_;have ⟨y3,k,h⟩:=bE h;refine tl (.exit 2) ⟨[(0,.row 3000)],[(3000,.win 3 eI.size 0 (eI.all y3))]⟩ ?_ ?_;refine zB (λx=>⟨[(0,.row 3000),(10,.d (di y1)),(13,.d (di x.1))],[(3000,.win 3 eI.size 0 (eI.all x.2))]⟩) k wc ?_
 rintro⟨ba,aq⟩ bg p3
 replace p3:kM y1 ba aq=some bg:=p3;unfold kM at p3;refine Q14 ?_;refine q34 ?_;refine Q6 ?_;refine zX p3 (λp3=>?_) (λp3=>?_);refine Q9 ?_;have ⟨_,k,p3⟩:=bE p3;have ⟨_,ac,p3⟩:=bE p3;have ⟨_,Z,p3⟩:=bE p3;have ⟨_,D,p3⟩:=bE p3;have ⟨_,aa,p3⟩:=bE p3;have ⟨am,G,p3⟩:=bE p3;refine tl .normal ⟨[(0,.row 3000),(10,.d (di y1)),(13,.d (di ba))],[(3000,.win 3 eI.size 0 (eI.all am))]⟩ ?_ ?_;refine zFZ MX ?_;refine z7T ?_;refine xm 2 ?_;refine xm 3 ?_;refine zOQ (i:=4) rfl lr rfl rfl rfl rfl rfl rfl ?_;refine xm 5 ?_;refine xm 6 ?_;refine zOQ (i:=7) rfl lr rfl rfl rfl rfl rfl rfl ?_;refine xm 10 ?_;refine xm 11 ?_;refine xn [8,12] ?_;refine z4E yD k ?_ ?_;refine xn [9,12] ?_;refine q86 O3 k ?_ ?_;refine xn [12] ?_;refine q21 yD ac ?_;refine xn [13] ?_;refine q38 O3 ac ?_;refine xn [14] ?_;refine q21 yD Z ?_;refine xn [15] ?_;refine q25 O3 Z D ?_;refine xn [16] ?_;refine q21 yD aa ?_;refine xn [17] ?_;refine q25 O3 aa G ?_;exact ae;refine q21 yD ac ?_;refine xn [9,13] ?_;refine q86 O3 k ?_ ?_;refine xn [13] ?_;refine q38 O3 ac ?_;refine xn [14] ?_;refine q21 yD Z ?_;refine xn [15] ?_;refine q25 O3 Z D ?_;refine xn [16] ?_;refine q21 yD aa ?_;refine xn [17] ?_;refine q25 O3 aa G ?_;exact ae;refine q38 O3 ac ?_;refine xn [9] ?_;refine q38 O3 k ?_;refine xn [14] ?_;refine q21 yD Z ?_;refine xn [15] ?_;refine q25 O3 Z D ?_;refine xn [16] ?_;refine q21 yD aa ?_;refine xn [17] ?_;refine q25 O3 aa G ?_;exact ae;refine q21 yD ac ?_;refine xn [8,13] ?_;refine z4E yD k ?_ ?_;refine xn [9,13] ?_;refine q86 O3 k ?_ ?_;refine xn [13] ?_;refine q38 O3 ac ?_;refine xn [14] ?_;refine q21 yD Z ?_;refine xn [15] ?_;refine q25 O3 Z D ?_;refine xn [16] ?_;refine q21 yD aa ?_;refine xn [17] ?_;refine q25 O3 aa G ?_;exact ae;refine q38 O3 ac ?_;refine xn [9] ?_;refine q38 O3 k ?_;refine xn [14] ?_;refine q21 yD Z ?_;refine xn [15] ?_;refine q25 O3 Z D ?_;refine xn [16] ?_;refine q21 yD aa ?_;refine xn [17] ?_;refine q25 O3 aa G ?_;exact ae;refine q38 O3 ac ?_;refine xn [8] ?_;refine q21 yD k ?_;refine xn [9] ?_;refine q38 O3 k ?_;refine xn [14] ?_;refine q21 yD Z ?_;refine xn [15] ?_;refine q25 O3 Z D ?_;refine xn [16] ?_;refine q21 yD aa ?_;refine xn [17] ?_;refine q25 O3 aa G ?_;exact ae;refine Q13 ?_;exact ew p3;exact zE (ex p3);cases h;refine yB ?_;exact⟨rfl,⟨rfl,trivial⟩⟩;refine zO<|Q14 ?_;refine q34 ?_;refine Q89 ?_;refine zX h (λh=>?_) (λh=>?_);refine Q2 ?_;refine Q15 ?_;refine Q90 ?_;have ⟨y4,k,h⟩:=bE h;refine tl (.exit 4) ⟨[(0,.row 3000),(2,.d (di a2)),(14,.d (di y4))],[(3000,.win 3 eI.size 0 (eI.all a0))]⟩ ?_ ?_;refine zB (λx=>⟨[(0,.row 3000),(2,.d (di a2)),(4,.d ab),(14,.d (di x.1)),(15,.d (di x.2))],[(3000,.win 3 eI.size 0 (eI.all a0))]⟩) k wc ?_
 rintro⟨bm,bn⟩ bh p4
 replace p4:kN a0 a2 a4 bm bn=some bh:=p4;unfold kN at p4;refine Q75 ?_;refine zX p4 (λp4=>?_) (λp4=>?_);refine zO ?_;have ⟨y5,ai,p4⟩:=bE p4;refine tl .normal ⟨[(0,.row 3000),(2,.d (di a2)),(4,.d ab),(14,.d (di y5.1)),(15,.d (di y5.2))],[(3000,.win 3 eI.size 0 (eI.all a0))]⟩ ?_ ?_;refine z00 ?_;refine z7Y ?_;refine Q16 ?_;refine zT MX rfl ?_;refine q8 ?_;refine Q97 ?_;have ⟨_,k,ai⟩:=bE ai;refine yCO yD k ?_;refine yCP O3 k ?_;refine Q97 ?_;have ⟨_,k,ai⟩:=bE ai;refine yCO yD k ?_;refine yCP O3 k ?_;have ⟨_,k,ai⟩:=bE ai;refine daa (zKI lr rfl rfl (ap _ _ _ k)) ?_;refine z65 ?_;refine yGH ?_;refine wB ?_;refine zX ai (λai=>?_) (λai=>?_);refine Q13 ?_;exact eo ai;refine Q91 ?_;exact eo ai;exact ew p4;exact zE (ex p4);refine Q4 ?_;refine Q1 ?_;refine yW ?_;have ⟨y6,k,h⟩:=bE h;refine tl (.exit 6) ⟨[(0,.row 3000)],[(3000,.win 3 eI.size 0 (eI.all y6))]⟩ ?_ ?_;refine zB (λx=>⟨[(0,.row 3000),(14,.d (di y4)),(17,.d (di x.1))],[(3000,.win 3 eI.size 0 (eI.all x.2))]⟩) k wc ?_
 rintro⟨bb,aq⟩ bi p6
 replace p6:kO y4 bb aq=some bi:=p6;unfold kO at p6;refine Q14 ?_;refine Q59 ?_;refine zX p6 (λp6=>?_) (λp6=>?_);refine Q9 ?_;have ⟨_,k,p6⟩:=bE p6;have ⟨_,Y,p6⟩:=bE p6;have ⟨_,O,p6⟩:=bE p6;have ⟨_,H,p6⟩:=bE p6;have ⟨_,T,p6⟩:=bE p6;have ⟨an,K,p6⟩:=bE p6;refine tl .normal ⟨[(0,.row 3000),(14,.d (di y4)),(17,.d (di bb))],[(3000,.win 3 eI.size 0 (eI.all an))]⟩ ?_ ?_;refine zFZ MX ?_;refine z7T ?_;refine xm 2 ?_;refine xm 3 ?_;refine zMB (i:=4) rfl lr rfl rfl rfl rfl rfl rfl ?_;refine xm 5 ?_;refine xm 6 ?_;refine zMB (i:=7) rfl lr rfl rfl rfl rfl rfl rfl ?_;refine xm 10 ?_;refine xm 11 ?_;refine xn [8,12] ?_;refine z4E yD k ?_ ?_;refine xn [9,12] ?_;refine q86 O3 k ?_ ?_;refine xn [12] ?_;refine q21 yD Y ?_;refine xn [13] ?_;refine q38 O3 Y ?_;refine xn [14] ?_;refine q21 yD O ?_;refine xn [15] ?_;refine q25 O3 O H ?_;refine xn [16] ?_;refine q21 yD T ?_;refine xn [17] ?_;refine q25 O3 T K ?_;exact ae;refine q21 yD Y ?_;refine xn [9,13] ?_;refine q86 O3 k ?_ ?_;refine xn [13] ?_;refine q38 O3 Y ?_;refine xn [14] ?_;refine q21 yD O ?_;refine xn [15] ?_;refine q25 O3 O H ?_;refine xn [16] ?_;refine q21 yD T ?_;refine xn [17] ?_;refine q25 O3 T K ?_;exact ae;refine q38 O3 Y ?_;refine xn [9] ?_;refine q38 O3 k ?_;refine xn [14] ?_;refine q21 yD O ?_;refine xn [15] ?_;refine q25 O3 O H ?_;refine xn [16] ?_;refine q21 yD T ?_;refine xn [17] ?_;refine q25 O3 T K ?_;exact ae;refine q21 yD Y ?_;refine xn [8,13] ?_;refine z4E yD k ?_ ?_;refine xn [9,13] ?_;refine q86 O3 k ?_ ?_;refine xn [13] ?_;refine q38 O3 Y ?_;refine xn [14] ?_;refine q21 yD O ?_;refine xn [15] ?_;refine q25 O3 O H ?_;refine xn [16] ?_;refine q21 yD T ?_;refine xn [17] ?_;refine q25 O3 T K ?_;exact ae;refine q38 O3 Y ?_;refine xn [9] ?_;refine q38 O3 k ?_;refine xn [14] ?_;refine q21 yD O ?_;refine xn [15] ?_;refine q25 O3 O H ?_;refine xn [16] ?_;refine q21 yD T ?_;refine xn [17] ?_;refine q25 O3 T K ?_;exact ae;refine q38 O3 Y ?_;refine xn [8] ?_;refine q21 yD k ?_;refine xn [9] ?_;refine q38 O3 k ?_;refine xn [14] ?_;refine q21 yD O ?_;refine xn [15] ?_;refine q25 O3 O H ?_;refine xn [16] ?_;refine q21 yD T ?_;refine xn [17] ?_;refine q25 O3 T K ?_;exact ae;refine Q8 ?_;refine Q77 ?_;exact ew p6;exact zE (ex p6);cases h;refine yB ?_;exact⟨rfl,⟨rfl,trivial⟩⟩;refine zO<|Q27 ?_;refine z7Y ?_;refine Q69 ?_;refine Q10 ?_;refine Q0 ?_;refine Q51 ?_;refine Q14 ?_;refine Q59 ?_;have ⟨y7,ar,h⟩:=bE h;refine tl .normal ⟨[(0,.row 3000),(1,.d (di a1)),(2,.d (di a2)),(3,.d (di a3)),(4,.d ab),(18,.d (di (wi ((wu (wi (a1+a3)))/2 ^ 1)))),(19,.d (di (wi ((wi ((wu (wi (a1+a3)))/2 ^ 1))+a2)))),(20,.d (di y7.1)),(21,.d (di y7.2))],[(3000,.win 3 eI.size 0 (eI.all a0))]⟩ ?_ ?_;refine zX ar (λar=>?_) (λar=>?_);refine Q27 ?_;refine Q77 ?_;refine Q91 ?_;exact eo ar;refine Q40 ?_;refine Q91 ?_;exact eo ar;refine Q2 ?_;refine q34 ?_;refine Q90 ?_;have ⟨y8,k,h⟩:=bE h;refine tl (.exit 8) ⟨[(0,.row 3000),(1,.d (di a1)),(2,.d (di a2)),(3,.d (di a3)),(4,.d ab),(18,.d (di (wi ((wu (wi (a1+a3)))/2 ^ 1)))),(19,.d (di (wi ((wi ((wu (wi (a1+a3)))/2 ^ 1))+a2)))),(20,.d (di y8))],[(3000,.win 3 eI.size 0 (eI.all a0))]⟩ ?_ ?_;refine zB (λx=>⟨[(0,.row 3000),(1,.d (di a1)),(2,.d (di a2)),(3,.d (di a3)),(4,.d ab),(18,.d (di (wi ((wu (wi (a1+a3)))/2 ^ 1)))),(19,.d (di (wi ((wi ((wu (wi (a1+a3)))/2 ^ 1))+a2)))),(20,.d (di x.1)),(21,.d (di x.2)),(22,.d (di (wi ((wi ((wi ((wu (wi (a1+a3)))/2 ^ 1))+a2))-1))))],[(3000,.win 3 eI.size 0 (eI.all a0))]⟩) k wc ?_
 rintro⟨bo,bp⟩ bj p8
 replace p8:kP a0 a1 a3 a2 a4 bo bp=some bj:=p8;unfold kP at p8;refine Q75 ?_;refine zX p8 (λp8=>?_) (λp8=>?_);refine zO ?_;have ⟨y9,aj,p8⟩:=bE p8;refine tl .normal ⟨[(0,.row 3000),(1,.d (di a1)),(2,.d (di a2)),(3,.d (di a3)),(4,.d ab),(18,.d (di (wi ((wu (wi (a1+a3)))/2 ^ 1)))),(19,.d (di (wi ((wi ((wu (wi (a1+a3)))/2 ^ 1))+a2)))),(20,.d (di y9.1)),(21,.d (di y9.2)),(22,.d (di (wi ((wi ((wi ((wu (wi (a1+a3)))/2 ^ 1))+a2))-1))))],[(3000,.win 3 eI.size 0 (eI.all a0))]⟩ ?_ ?_;refine z00 ?_;refine z7Y ?_;refine Q16 ?_;refine zT MX rfl ?_;refine q8 ?_;refine q74 ?_;refine Q25 ?_;refine z4D ?_;have ⟨_,k,aj⟩:=bE aj;refine yCO yD k ?_;refine yCP O3 k ?_;refine Q97 ?_;have ⟨_,k,aj⟩:=bE aj;refine yCO yD k ?_;refine yCP O3 k ?_;have ⟨_,k,aj⟩:=bE aj;refine daa (zKI lr rfl rfl (ap _ _ _ k)) ?_;refine z65 ?_;refine yGH ?_;refine wB ?_;refine zX aj (λaj=>?_) (λaj=>?_);refine Q13 ?_;exact eo aj;refine Q91 ?_;exact eo aj;exact ew p8;exact zE (ex p8);refine Q27 ?_;refine Q77 ?_;refine Q14 ?_;refine q5 ?_;have ⟨_,k,h⟩:=bE h;refine q9 k ?_;refine q15 (.d (di a2)) ?_;refine q15 (.d (di (wi ((wi ((wi ((wu (wi (a1+a3)))/2 ^ 1))+a2))-y8)))) ?_;refine q82 (.d (db (decide (a2<(wi ((wi ((wi ((wu (wi (a1+a3)))/2 ^ 1))+a2))-y8)))))) ?_;refine Q39 ?_;have ⟨bq,ad,h⟩:=bE h;refine tl .normal ⟨[(0,.row 3000),(1,.d (di a1)),(3,.d (di a3)),(4,.d ab),(18,.d (di (wi ((wu (wi (a1+a3)))/2 ^ 1)))),(20,.d (di y8)),(24,.d (di (wi ((wi ((wi ((wu (wi (a1+a3)))/2 ^ 1))+a2))-y8))))],[(3000,.win 3 eI.size 0 (eI.all bq))]⟩ ?_ ?_;refine zX ad (λad=>?_) (λad=>?_);refine Q71 ?_;refine Q12 ?_;have ⟨_,k,ad⟩:=bE ad;refine yE rfl (zEJ [(3000,3000)] (zJP ap k) lr (by decide) ⟨rfl,rfl,rfl,rfl,rfl,trivial⟩ rfl rfl ⟨rfl,trivial⟩ rfl rfl rfl rfl) ?_;refine zK ?_;exact eo ad;refine zO ?_;exact eo ad;refine Q14 ?_;refine q5 ?_;have ⟨_,k,h⟩:=bE h;refine q9 k ?_;refine q15 (.d (di y8)) ?_;refine q15 (.d (di (wi ((wu (wi (a1+a3)))/2 ^ 1)))) ?_;refine q82 (.d (db (decide (y8<(wi ((wu (wi (a1+a3)))/2 ^ 1)))))) ?_;refine Q39 ?_;have ⟨br,ag,h⟩:=bE h;refine tl .normal ⟨[(0,.row 3000),(3,.d (di a3)),(4,.d ab),(18,.d (di (wi ((wu (wi (a1+a3)))/2 ^ 1)))),(24,.d (di (wi ((wi ((wi ((wu (wi (a1+a3)))/2 ^ 1))+a2))-y8))))],[(3000,.win 3 eI.size 0 (eI.all br))]⟩ ?_ ?_;refine zX ag (λag=>?_) (λag=>?_);refine Q71 ?_;refine Q12 ?_;have ⟨_,k,ag⟩:=bE ag;refine yE rfl (zEJ [(3000,3000)] (ih ap k) lr (by decide) ⟨rfl,rfl,rfl,rfl,rfl,trivial⟩ rfl rfl ⟨rfl,trivial⟩ rfl rfl rfl rfl) ?_;refine zK ?_;exact eo ag;refine zO ?_;exact eo ag;refine Q27 ?_;refine q5 ?_;have ⟨_,k,h⟩:=bE h;refine q9 k ?_;refine q15 (.d (di (wi ((wi ((wi ((wu (wi (a1+a3)))/2 ^ 1))+a2))-y8)))) ?_;refine q15 (.d (di a3)) ?_;refine q82 (.d (db (decide ((wi ((wi ((wi ((wu (wi (a1+a3)))/2 ^ 1))+a2))-y8))<a3)))) ?_;refine Q39 ?_;refine zX h (λh=>?_) (λh=>?_);refine Q71 ?_;refine Q12 ?_;have ⟨_,k,h⟩:=bE h;refine yE rfl (zEJ [(3000,3000)] (ih ap k) lr (by decide) ⟨rfl,rfl,rfl,rfl,rfl,trivial⟩ rfl rfl ⟨rfl,trivial⟩ rfl rfl rfl rfl) ?_;refine zK ?_;cases h;exact⟨rfl,⟨rfl,trivial⟩⟩;refine zO ?_;cases h;exact⟨rfl,⟨rfl,trivial⟩⟩
theorem zJQ {G:DV} {a0:(List Int)} {a1:Int} {a2:Int->Int->Option (Int)} (Y:∀x0 x1 y,a2 x0 x1=some y->FnC Tryz.prog G [(di x0),(di x1)] [(di y)]) {r:(List Int)} (h:uM a0 a1 a2=some r):GC Tryz.prog 172 [.row 3000,.d (di a1),.d G] [(3000,.win 3 eI.size 0 (eI.all a0))] [3000] [] [(3000,.win 3 eI.size 0 (eI.all r))]:=by
 refine zDZ Tryz.func172 (by kernel_rfl) rfl lr lr λw0 I0 ak p0=>?_;unfold uM at h;refine Q53 ?_;refine q1 ?_;refine Q90 ?_;have ⟨y1,k,h⟩:=bE h;refine tl (.exit 0) ⟨[(0,.row 3000),(1,.d (di a1)),(2,.d G),(6,.d (di 20)),(7,.d (di y1.1))],[(3000,.win 3 eI.size 0 (eI.all y1.2))]⟩ ?_ ?_;refine zB (λx=>⟨[(0,.row 3000),(1,.d (di a1)),(2,.d G),(6,.d (di 20)),(7,.d (di x.1)),(8,.d (di x.2.1))],[(3000,.win 3 eI.size 0 (eI.all x.2.2))]⟩) k wc ?_
 rintro⟨v7,v8,D⟩ aa O
 replace O:yL a1 a2 v7 v8 D=some aa:=O;unfold yL at O;refine Q14 ?_;refine z7N ?_;refine zX O (λO=>?_) (λO=>?_);refine zO<|yW<|z7W ?_;have ⟨_,k,O⟩:=bE O;refine yE rfl (zEJ [(3000,3000)] (zBK Y k) lr (by decide) ⟨rfl,rfl,rfl,rfl,trivial⟩ rfl rfl ⟨rfl,trivial⟩ rfl rfl rfl rfl) ?_;refine zK<|Q40 ?_;refine Q84 ?_;refine Q10 ?_;exact ew O;exact zE (ex O);refine z7W ?_;have ⟨_,k,h⟩:=bE h;refine yE rfl (zEJ [(3000,3000)] (zBK Y k) lr (by decide) ⟨rfl,rfl,rfl,rfl,trivial⟩ rfl rfl ⟨rfl,trivial⟩ rfl rfl rfl rfl) ?_;refine zK<|yW ?_;have ⟨y2,k,h⟩:=bE h;refine tl (.exit 2) ⟨[(0,.row 3000)],[(3000,.win 3 eI.size 0 (eI.all y2))]⟩ ?_ ?_;refine zB (λx=>⟨[(0,.row 3000),(1,.d (di a1)),(2,.d G),(6,.d (di x.1))],[(3000,.win 3 eI.size 0 (eI.all x.2))]⟩) k wc ?_
 rintro⟨Z,D⟩ ab K
 replace K:yV a1 a2 Z D=some ab:=K;unfold yV at K;refine Q75 ?_;refine zX K (λK=>?_) (λK=>?_);refine zO<|Q65 ?_;refine jT (yEX lr rfl rfl) ?_;refine q1 ?_;refine Q90 ?_;have ⟨y3,k,K⟩:=bE K;refine tl (.exit 4) ⟨[(0,.row 3000),(1,.d (di a1)),(2,.d G),(6,.d (di Z)),(7,.d (di y3.1))],[(3000,.win 3 eI.size 0 (eI.all y3.2))]⟩ ?_ ?_;refine zB (λx=>⟨[(0,.row 3000),(1,.d (di a1)),(2,.d G),(6,.d (di Z)),(7,.d (di x.1)),(8,.d (di x.2.1))],[(3000,.win 3 eI.size 0 (eI.all x.2.2))]⟩) k wc ?_
 rintro⟨v7,v8,D⟩ ac T
 replace T:yN a1 Z a2 v7 v8 D=some ac:=T;unfold yN at T;refine Q14 ?_;refine z7N ?_;refine zX T (λT=>?_) (λT=>?_);refine zO<|yW<|z7W ?_;refine q3 ?_;refine Q12 ?_;have ⟨_,k,T⟩:=bE T;refine yE rfl (zEJ [(3000,3000)] (zDN _ Y k) lr (by decide) ⟨rfl,rfl,rfl,rfl,rfl,trivial⟩ rfl rfl ⟨rfl,trivial⟩ rfl rfl rfl rfl) ?_;refine zK<|Q40 ?_;refine Q84 ?_;refine jT (yEX lr rfl rfl) ?_;refine Q10 ?_;exact ew T;exact zE (ex T);refine Q14 ?_;refine Q10 ?_;refine Q27 ?_;refine Q6 ?_;have ⟨y4,H,K⟩:=bE K;refine tl .normal ⟨[(0,.row 3000),(1,.d (di a1)),(2,.d G),(6,.d (di Z))],[(3000,.win 3 eI.size 0 (eI.all y4))]⟩ ?_ ?_;refine zX H (λH=>?_) (λH=>?_);refine Q71 ?_;refine Q12 ?_;have ⟨_,k,H⟩:=bE H;refine yE rfl (zEJ [(3000,3000)] (zDN _ Y k) lr (by decide) ⟨rfl,rfl,rfl,rfl,rfl,trivial⟩ rfl rfl ⟨rfl,trivial⟩ rfl rfl rfl rfl) ?_;refine zK ?_;exact eo H;refine zO ?_;exact eo H;refine Q8 ?_;refine jT (yEX lr rfl rfl) ?_;refine Q1 ?_;exact ew K;exact zE (ex K);cases h;exact⟨rfl,⟨rfl,trivial⟩⟩
theorem zGI {D:DV} {H:(List Int)} {a1:Int->Int->Option (Int)} (G:∀x0 x1 y,a1 x0 x1=some y->FnC Tryz.prog D [(di x0),(di x1)] [(di y)]) {r:(List Int)} (h:k8 H a1=some r):GC Tryz.prog 130 [.row 3000,.d D] [(3000,.win 3 eI.size 0 (eI.all H))] [3000] [] [(3000,.win 3 eI.size 0 (eI.all r))]:=by refine zDZ Tryz.func130 (by kernel_rfl) rfl lr lr λw0 O K T=>?_;unfold k8 at h;refine Q26 ?_;refine q10 ?_;refine yKZ yD ?_;refine q0 ?_;have ⟨_,k,h⟩:=bE h;refine yE rfl (zEJ [(3000,3000)] (zJQ G k) lr (by decide) ⟨rfl,rfl,rfl,trivial⟩ rfl rfl ⟨rfl,trivial⟩ rfl rfl rfl rfl) ?_;refine zK ?_;cases h;exact⟨rfl,⟨rfl,trivial⟩⟩
theorem zM1 {a0:List bM} {a1 r:List Int} (h:zB9 a0 a1=some r):GC Tryz.prog 99 [.d (zH aR a0),.d (zH eI a1)] [] [] [.row 100] [(100,.row 3 eI.size false (eI.all r))]:=by
 unfold zB9 at h;have ⟨t8,Y,G⟩:=bE h;clear h;have ⟨Z,K,h⟩:=bE G;clear G;have ⟨am,O,G⟩:=bE h;clear h;refine zDZ Tryz.func99 (by kernel_rfl) rfl lr lr λw0 I0 ag p0=>?_;refine Q0 ?_;refine yE rfl (z8Y lr rfl rfl rfl) ?_;refine Q35 ?_;refine q27 O22 ?_;refine q6 (zKU Y) ?_;refine q66 O22 ?_;refine zK ?_;refine zN (zR (t:=2) lr rfl rfl rfl) ?_;refine Q2 ?_;refine yE rfl (zCI [(5,100)] (zMF K) lr (by decide) ⟨rfl,trivial⟩ rfl rfl trivial rfl rfl rfl (λ_=>rfl) rfl) ?_;refine z7B ?_;refine q92 O37 ?_;refine z0Y ?_;refine q91 O22 ?_;refine q0 ?_;refine q6 zM0 ?_;refine zK<|yW ?_;refine zYU [(5,.ptr 5 0),(2,.d (.pt [zH aR t8])),(4,.d (.v (.slice none 0 0)))] [5] (λk=>[(5,.box 37 [.row 100]),(100,.row 3 eI.size false (eI.all (outK (λp=>k8 p (λx0 x1=>vU x0 x1 t8)) Range.Lo Range.Hi Z (xX (λc=>jC t8 c==some 0) a1 0 (-1)) k)))]) rfl (zKV O) rfl (λ_ _ _ _ h=>h) ?hk ?hT rfl (λ_=>rfl) ?hbx (λ_ _=>rfl) ?hl ?hpn ?rd ?hK
 case hk=>exact⟨rfl,rfl,rfl,trivial⟩
 case hT=>exact⟨rfl,rfl,trivial⟩
 case hbx=>intro k id hi;simp at hi;subst hi;exact λ(h:Blk.box _ _=Blk.none)=>by cases h
 case hl=>intro x T;obtain⟨y,_,rfl⟩:=eM.1 T;rfl
 case hpn=>intro p hp;simp at hp;subst hp;exact lr
 case rd=>
  intro w1 Iall X C0 an ac l1 D ak al ai k x T;rw[dW] at T;obtain⟨v,hv,rfl⟩:=e9.1 T;have H:=yB4 G hv;obtain⟨q0,q1,q2⟩:=yFI H;refine xW<|Q68 ?_;refine yW<|xW<|q27 O37 ?_;refine q52 zN4 ?_;refine q27 O3 ?_;refine q52 zKQ ?_;refine q27 O3 ?_;refine jT (z3U (en:=eI) lr yD rfl rfl rfl rfl q0 q1 q2) ?_;refine yKW ?_;refine yE rfl (yOF (en:=eI) lr rfl rfl rfl H yST (λm m' hm=>zGI (λ_ _ _ q=> .inl ⟨_,_,rfl,zRA q⟩) hm) rfl) ?_;refine zK ?_;exact⟨rfl,rfl,trivial⟩
 case hK=>
  rw[eZ,yFH G];refine Q0 ?_;refine q27 O37 ?_;refine Q11 ?_;refine yB ?_;exact⟨⟨_,_,rfl,rfl,rfl⟩,rfl,trivial⟩
theorem zSK {Z a1 a2 r} (h:vK Z a1 a2=some r):zC Tryz.prog 70 [(bD.dv Z),(zH eI a1),(db a2)] [(zH eI r)]:=by
 refine co Tryz.func70 ?_;intro _ _ _ _;unfold vK at h;refine Q0 ?_;refine z7Z ?_;refine jT ((k6 lr G28 rfl rfl rfl rfl).data rfl) ?_;have ⟨D,k,h⟩:=bE h;refine q6 (zJO k) ?_;refine q18 G28 ?_;refine Q54 ?_;refine jT ((k6 lr G28 rfl rfl rfl rfl).data rfl) ?_;refine q0 ?_;have ⟨_,k,h⟩:=bE h;refine yE rfl (z0M [(5,2515),(6,3015),(7,3515)] (zH8 k) lr (by decide) ⟨rfl,rfl,trivial⟩ rfl rfl trivial rfl rfl rfl (λ_=>rfl) rfl) ?_;refine yGF ?_;refine zK<|Q3 ?_;refine zN (xG (t:=8) 1008 3 eI.size lr lr rfl rfl) ?_;refine Q4 ?_;refine Q63 ?_;have ⟨y1,k,h⟩:=bE h;refine tl (.exit 0) ⟨[(3,.ptr 3 0),(8,.row 1008)],[(3,.box 28 [.d (zH aR D.aK),.d (zH aC D.aA),.d (zH aF D.aN.Ranges)]),(1008,.row 3 eI.size false (eI.all y1))]⟩ ?_ ?_;refine zB (λx=>⟨[(3,.ptr 3 0),(7,.clo 126 [.ptr 2515 0,.d (.pt (bD.cells ({aK:=D.aK,aA:=D.aA,aN:=({Ranges:=D.aN.Ranges}:Set)}:Norm))),.d (.pt [(db a2)]),.ptr 3015 0]),(8,.row 1008),(16,.d (zH eI a1)),(17,.d (di (a1.length:Int))),(18,.d (di x.1))],[(3,.box 28 [.d (zH aR D.aK),.d (zH aC D.aA),.d (zH aF D.aN.Ranges)]),(1008,.row 3 eI.size false (eI.all x.2.1)),(2515,.box 158 [.row 3515]),(3015,.box 126 [.clo 126 [.ptr 2515 0,.d (.pt (bD.cells ({aK:=D.aK,aA:=D.aA,aN:=({Ranges:=D.aN.Ranges}:Set)}:Norm))),.d (.pt [(db a2)]),.ptr 3015 0]]),(3515,.map (wH kI (eL eI) x.2.2))]⟩) k wc ?_
 rintro⟨Y,H,K⟩ O G
 replace G:xU a1 D a2 Y H K=some O:=G;unfold xU at G;refine Q18 ?_;refine zX G (λG=>?_) (λG=>?_);refine Q32 ?_;have ⟨_,k,G⟩:=bE G;refine q11 yD k ?_;refine q36 O3 k ?_;refine Q1 ?_;refine Q26 ?_;refine jT (zFJ lr rfl) ?_;refine q0 ?_;have ⟨T,k,G⟩:=bE G;refine yE rfl (zUK [(3001,2515),(3004,3015),(3120,3515)] (zF8 _ k) lr (by decide) rfl ⟨rfl,rfl,rfl,rfl,rfl,trivial⟩ rfl rfl ⟨rfl,rfl,rfl,trivial⟩ rfl rfl rfl (λ_=>rfl) rfl) ?_;have ⟨_,k,G⟩:=bE G;refine yE rfl (yF (en:=eI) (l:=H) (m:=T.1) lr yD rfl rfl rfl k (by decide) (by decide) rfl rfl) ?_;refine Q11 ?_;refine Q20 ?_;exact ew G;exact zE (ex G);refine Q0 ?_;refine q52 zAW ?_;refine q27 O22 ?_;refine q10 ?_;refine zEI (zA8 (t:=30) lr rfl rfl) ?_ (by simp);have ⟨_,k,h⟩:=bE h;refine yE rfl (zCI [(100,2531)] (zM1 k) lr (by decide) ⟨rfl,rfl,trivial⟩ rfl rfl trivial rfl rfl rfl (λ_=>rfl) rfl) ?_;refine Q11 ?_;exact er h
theorem zSL {Z} {a1} {a2} {r:(List Int)} (h:vK Z a1 a2=some r):GC Tryz.prog 70 [.d (bD.dv Z),.d (zH eI a1),.d (db a2)] [] [] [.row 2531] [(2531,.row 3 eI.size false (eI.all r))]:=by
 refine zDZ Tryz.func70 (by kernel_rfl) rfl lr lr λw0 I0 aa p0=>?_;unfold vK at h;refine Q0 ?_;refine z7Z ?_;refine jT ((k6 lr G28 rfl rfl rfl rfl).data rfl) ?_;have ⟨D,k,h⟩:=bE h;refine q6 (zJO k) ?_;refine q18 G28 ?_;refine Q54 ?_;refine jT ((k6 lr G28 rfl rfl rfl rfl).data rfl) ?_;refine q0 ?_;have ⟨_,k,h⟩:=bE h;refine yE rfl (z0M [(5,2515),(6,3015),(7,3515)] (zH8 k) lr (by decide) ⟨rfl,rfl,trivial⟩ rfl rfl trivial rfl rfl rfl (λ_=>rfl) rfl) ?_;refine yGF ?_;refine zK<|Q3 ?_;refine zN (xG (t:=8) 1008 3 eI.size lr lr rfl rfl) ?_;refine Q4 ?_;refine Q63 ?_;have ⟨y1,k,h⟩:=bE h;refine tl (.exit 0) ⟨[(3,.ptr 3 0),(8,.row 1008)],[(3,.box 28 [.d (zH aR D.aK),.d (zH aC D.aA),.d (zH aF D.aN.Ranges)]),(1008,.row 3 eI.size false (eI.all y1))]⟩ ?_ ?_;refine zB (λx=>⟨[(3,.ptr 3 0),(7,.clo 126 [.ptr 2515 0,.d (.pt (bD.cells ({aK:=D.aK,aA:=D.aA,aN:=({Ranges:=D.aN.Ranges}:Set)}:Norm))),.d (.pt [(db a2)]),.ptr 3015 0]),(8,.row 1008),(16,.d (zH eI a1)),(17,.d (di (a1.length:Int))),(18,.d (di x.1))],[(3,.box 28 [.d (zH aR D.aK),.d (zH aC D.aA),.d (zH aF D.aN.Ranges)]),(1008,.row 3 eI.size false (eI.all x.2.1)),(2515,.box 158 [.row 3515]),(3015,.box 126 [.clo 126 [.ptr 2515 0,.d (.pt (bD.cells ({aK:=D.aK,aA:=D.aA,aN:=({Ranges:=D.aN.Ranges}:Set)}:Norm))),.d (.pt [(db a2)]),.ptr 3015 0]]),(3515,.map (wH kI (eL eI) x.2.2))]⟩) k wc ?_
 rintro⟨Y,H,K⟩ O G
 replace G:xU a1 D a2 Y H K=some O:=G;unfold xU at G;refine Q18 ?_;refine zX G (λG=>?_) (λG=>?_);refine Q32 ?_;have ⟨_,k,G⟩:=bE G;refine q11 yD k ?_;refine q36 O3 k ?_;refine Q1 ?_;refine Q26 ?_;refine jT (zFJ lr rfl) ?_;refine q0 ?_;have ⟨T,k,G⟩:=bE G;refine yE rfl (zUK [(3001,2515),(3004,3015),(3120,3515)] (zF8 _ k) lr (by decide) rfl ⟨rfl,rfl,rfl,rfl,rfl,trivial⟩ rfl rfl ⟨rfl,rfl,rfl,trivial⟩ rfl rfl rfl (λ_=>rfl) rfl) ?_;have ⟨_,k,G⟩:=bE G;refine yE rfl (yF (en:=eI) (l:=H) (m:=T.1) lr yD rfl rfl rfl k (by decide) (by decide) rfl rfl) ?_;refine Q11 ?_;refine Q20 ?_;exact ew G;exact zE (ex G);refine Q0 ?_;refine q52 zAW ?_;refine q27 O22 ?_;refine q10 ?_;refine zEI (zA8 (t:=30) lr rfl rfl) ?_ (by simp);have ⟨_,k,h⟩:=bE h;refine yE rfl (zCI [(100,2531)] (zM1 k) lr (by decide) ⟨rfl,rfl,trivial⟩ rfl rfl trivial rfl rfl rfl (λ_=>rfl) rfl) ?_;refine Q11 ?_;cases h;refine yB ?_;exact⟨⟨_,_,rfl,rfl,rfl⟩,⟨rfl,trivial⟩⟩
theorem zDG {D a1 r} (h:j9 D a1=some r):zC Tryz.prog 110 [(.pt (a8.cells D)),(zH eI a1)] [(zH aG r.1),(db r.2)]:=by
 refine co Tryz.func110 ?_;intro _ _ _ _;unfold j9 at h;refine Q0 ?_;refine z7P ?_;refine q4 yD ?_;refine q40 ?_;have ⟨_,G,h⟩:=bE h;refine q9 G ?_;refine q42 (.d (zH eI a1)) ?_;refine q83 (.d (di (a1.length:Int))) yD ?_;refine q42 (.d (.pt (a8.cells D))) ?_;refine sqf (.d (.pt (a8.cells D))) rfl (λhb=>by subst hb;exact zHK lr rfl) ?_
 refine q24 (.ip (a8.cells D) (0+6)) z0Q ?_;refine q26 (.d (di D.bU)) O3 ?_;refine q59 (.d (db (decide (D.bU<(a1.length:Int))))) ?_;refine Q45 ?_;refine zX h (λh=>?_) (λh=>?_);refine Q0 ?_;refine Q51 ?_;refine zN (zGQ (t:=4) aG.size lr rfl) ?_;cases h;refine yB ?_;exact zHD rfl rfl;refine Q5 ?_;refine zT MX rfl ?_;refine z02 ?_;refine q13 yFP ?_;refine q19 yRA ?_;refine q8 ?_;have ⟨K,H,h⟩:=bE h;refine q20 (zKT H) ?_;refine daa (z6M (kv:=zGT) (ev:=(eL aG)) (mp:=D.entries) (k:=K) (zero:=[]) lr yQ6 yRC rfl rfl (yJR rfl) (λ_ _=> .nil _ _ _)) ?_;refine daa (zL4 lr rfl) ?_;refine yCQ ?_;refine yCQ ?_;refine q37 ?_;refine Q44 ?_;refine Q27 ?_;refine Q51 ?_;cases h;refine yB ?_;exact zHD rfl rfl
theorem zJR {D a1 r} (h:xQ D a1=some r):zC Tryz.prog 111 [(.pt (a8.cells D)),(di a1)] [(zH aG r)]:=by refine co Tryz.func111 ?_;intro _ _ _ _;unfold xQ at h;refine Q43 ?_;have ⟨_,k,h⟩:=bE h;refine q6 (zD1 k) ?_;refine Q36 ?_;refine zX h (λh=>?_) (λh=>?_);refine Q3 ?_;refine zN (zGQ (t:=4) aG.size lr rfl) ?_;exact er h;refine Q5 ?_;refine zT MX rfl ?_;refine z02 ?_;refine q13 z6Y ?_;refine q60 zPK ?_;refine q19 O3 ?_;refine q8 ?_;have ⟨_,k,h⟩:=bE h;refine daa (yMZ lr rfl rfl k) ?_;refine z4F ?_;refine z02 ?_;refine q13 z6Y ?_;refine q60 z9C ?_;refine q19 O3 ?_;refine z02 ?_;refine q13 z6Y ?_;refine q60 z9D ?_;refine q19 O3 ?_;refine daa (zFC lr B82 rfl rfl) ?_;refine q8 ?_;have ⟨_,k,h⟩:=bE h;refine daa (yM0 lr rfl rfl k) ?_;refine z4F ?_;refine daa (zFC lr B82 rfl rfl) ?_;refine yGC S79 ?_;refine Q44 ?_;exact er h
theorem zKB {D a1 a2 r} (h:vA D a1 a2=some r):zC Tryz.prog 159 [(di D),(.pt [(.pt (a8.cells a1))]),(.pt [(di a2)])] [(db r)]:=by refine co Tryz.func159 ?_;intro _ _ _ _;unfold vA at h;refine Q3 ?_;refine yS ?_;refine zT MX rfl ?_;refine yGG yFU ?_;refine q81 ?_;refine q13 zP0 ?_;refine q19 O22 ?_;refine q8 ?_;have ⟨G,k,h⟩:=bE h;refine q29 S22 k ?_;refine q60 zG7 ?_;refine daa (z6 (en:=aR) (l:=a1.bR) (i:=D) (v:=G) (off:=1) lr O3 rfl k rfl) ?_;refine yGG O3 ?_;refine daa (zNJ lr rfl rfl) ?_;refine Q44 ?_;exact er h
theorem zXU {H:DV} {T:Int} {a1:Int->Option (Bool)} (K:∀x0 y,a1 x0=some y->FnC Tryz.prog H [(di x0)] [(db y)]) {r:Int} (h:zKM T a1=some r):zC Tryz.prog 158 [(di T),H] [(di r)]:=by
 refine co Tryz.func158 ?_;intro _ _ _ _;unfold zKM at h;refine Q53 ?_;refine q1 ?_;refine Q90 ?_;have ⟨y1,k,h⟩:=bE h;refine tl (.exit 0) ⟨[(5,.d (di y1))],[]⟩ ?_ ?_;refine zB (λx=>⟨[(1,.d H),(5,.d (di x.1)),(6,.d (di x.2))],[]⟩) k wc ?_
 rintro⟨Z,v6⟩ O G
 replace G:zCR a1 Z v6=some O:=G;unfold zCR at G;refine Q75 ?_;refine zX G (λG=>?_) (λG=>?_);refine zO ?_;have ⟨Y,D,G⟩:=bE G;refine tl .normal ⟨[(1,.d H),(5,.d (di Y.1)),(6,.d (di Y.2))],[]⟩ ?_ ?_;refine z00 ?_;refine z7Y ?_;refine Q69 ?_;have ⟨_,k,D⟩:=bE D;refine yCL (K _ _ k) ?_;refine Q36 ?_;refine zX D (λD=>?_) (λD=>?_);refine Q13 ?_;exact eo D;refine Q91 ?_;exact eo D;exact ew G;exact zE (ex G);refine Q40 ?_;exact er h
theorem zLP {G a1 r} (h:vY G a1=some r):zC Tryz.prog 112 [(.pt (a8.cells G)),(di a1)] [(di r)]:=by
 refine co Tryz.func112 ?_;intro _ _ _ _;unfold vY at h;refine Q94 ?_;refine q70 ?_;refine Q35 ?_;refine q91 yFU ?_;refine yGI ?_;refine q2 zP0 ?_;refine q7 O22 ?_;refine q4 S22 ?_;refine yKW ?_;have ⟨D,k,h⟩:=bE h;refine q6 (zXU (λ_ _ q=> .inl ⟨_,_,rfl,zKB q⟩) k) ?_;refine Q16 ?_;refine yS ?_;refine zT MX rfl ?_;refine q8 ?_;refine yGG yFU ?_;refine q81 ?_;refine q13 zP0 ?_;refine q19 O22 ?_;refine yF5 S22 ?_;refine z65 ?_;have ⟨_,k,h⟩:=bE h;refine q47 k ?_;refine dat (.d (.pt (a8.cells G))) rfl (λhb=>by subst hb;exact zOK lr yFU rfl) ?_
 refine dat (.d (.pt (a8.cells G))) rfl (λhb=>by subst hb;exact zHK lr rfl) ?_
 refine z39 (.ip (a8.cells G) (0+7)) zP0 ?_;refine z4A (.d (zH aR G.bR)) O22 ?_;refine q48 (.d (di D)) ?_;have ⟨K,H,h⟩:=bE h;refine dat (.ip (aR.all G.bR) (D.toNat*aR.size)) rfl (λhb=>by subst hb;exact k4 (en:=aR) lr S22 rfl rfl H) ?_
 refine z4B (.ip (aR.all G.bR) (D.toNat*aR.size+0)) zG6 ?_;refine dat (.d (di K.Lo)) rfl (λhb=>by subst hb;exact z6 (en:=aR) (l:=G.bR) (i:=D) (v:=K) (off:=0) lr O3 rfl H rfl) ?_
 refine dat (.d (di a1)) rfl (λhb=>by subst hb;exact zOK lr O3 rfl) ?_
 refine dat (.d (db (decide (K.Lo<=a1)))) rfl (λhb=>by subst hb;exact zKE lr rfl rfl) ?_
 refine Q95 ?_;refine zX h (λh=>?_) (λh=>?_);refine Q0 ?_;refine q91 yFU ?_;refine yGI ?_;refine q2 zP0 ?_;refine q7 O22 ?_;refine q0 ?_;have ⟨O,k,h⟩:=bE h;refine q11 S22 k ?_;refine q58 zIK ?_;refine jT (z6 (en:=aR) (l:=G.bR) (i:=D) (v:=O) (off:=2) lr O3 rfl k rfl) ?_;refine Q1 ?_;exact er h;refine Q58 ?_;exact er h
end Go.Proofs.YtjnpmmedmedokaaGreatDoor.Walk


/- Each function of the program answers as its plain counterpart does, where that answers. Conditions: none. -/
import Derived.Test.YtedjilemjidllaaGreatDoorMir
import Derived.Test.YtedjilemjidllaaGreatDoorLa3
import Derived.Test.YtedjilemjidllaaGreatDoorProg
import Derived.Test.YtedjilemjidllaaGreatDoorLa4
import Derived.Test.YtedjilemjidllaaGreatDoorSh1
import Derived.Shelf.SlSortCmp.WholeK
import Derived.Shelf.SlicesG.Cmp
import Derived.Shelf.SlSortCmp.NoneTotal
import Derived.StillTailTactics
import Derived.Shelf.Spec.SlicesGrow
set_option linter.unusedSimpArgs false
set_option linter.unusedVariables false
set_option linter.unnecessarySimpa false
namespace Go.Proofs.YtedjilemjidllaaGreatDoor.Walk
open Go.AV Go.M Go.RowKit Go.Proofs
theorem z3K:ArTy Tryz.prog 181 4 1 39 [(.slice none 0 0),(.slice none 0 0),(.slice none 0 0),(.slice none 0 0)]:=ArTy.of Tryz.underlying181 (by kernel_rfl) (by decide) (by kernel_rfl) rfl
theorem z7I:ArTy Tryz.prog 186 4 1 3 [(.int IntKind.i64 (0)),(.int IntKind.i64 (0)),(.int IntKind.i64 (0)),(.int IntKind.i64 (0))]:=ArTy.of Tryz.underlying186 (by kernel_rfl) (by decide) (by kernel_rfl) rfl
theorem yYG:ArTy Tryz.prog 195 4 2 143 [(.int IntKind.i64 (0)),(.int IntKind.i64 (0)),(.int IntKind.i64 (0)),(.int IntKind.i64 (0)),(.int IntKind.i64 (0)),(.int IntKind.i64 (0)),(.int IntKind.i64 (0)),(.int IntKind.i64 (0))]:=ArTy.of Tryz.underlying195 (by kernel_rfl) (by decide) (by kernel_rfl) rfl
theorem zO1:ArTy Tryz.prog 286 2 1 3 [(.int IntKind.i64 (0)),(.int IntKind.i64 (0))]:=ArTy.of Tryz.underlying286 (by kernel_rfl) (by decide) (by kernel_rfl) rfl
theorem zXV:ArTy Tryz.prog 296 3 1 3 [(.int IntKind.i64 (0)),(.int IntKind.i64 (0)),(.int IntKind.i64 (0))]:=ArTy.of Tryz.underlying296 (by kernel_rfl) (by decide) (by kernel_rfl) rfl
theorem yYH:StTy Tryz.prog 102 [(0,2),(2,1),(3,2),(5,2),(7,1)] [(.string ⟨#[]⟩),(.int IntKind.i64 (0)),(.bool false),(.int IntKind.i64 (0)),(.slice none 0 0),(.int IntKind.i64 (0)),(.slice none 0 0),(.int IntKind.i64 (0))]:=fx Tryz.underlying102
theorem yWS:StTy Tryz.prog 107 [(0,1),(1,3),(4,1),(5,1)] [(.slice none 0 0),(.slice none 0 0),(.slice none 0 0),(.slice none 0 0),(.int IntKind.i64 (0)),(.bool false)]:=fx Tryz.underlying107
theorem yWT:StTy Tryz.prog 111 [(0,2),(2,1),(3,1),(4,1),(5,1)] [(.slice none 0 0),(.int IntKind.i64 (0)),(.slice none 0 0),(.int IntKind.i64 (0)),(.int IntKind.i64 (0)),(.bool false)]:=fx Tryz.underlying111
theorem yYI:StTy Tryz.prog 135 [(0,1),(1,1),(2,1)] [(.slice none 0 0),(.map none),(.slice none 0 0)]:=fx Tryz.underlying135
theorem yPI:StTy Tryz.prog 137 [(0,3)] [(.slice none 0 0),(.slice none 0 0),(.slice none 0 0)]:=fx Tryz.underlying137
theorem zXW:StTy Tryz.prog 143 [(0,1),(1,1)] [(.int IntKind.i64 (0)),(.int IntKind.i64 (0))]:=fx Tryz.underlying143
theorem yWU:StTy Tryz.prog 185 [(0,1),(1,1),(2,1),(3,1)] [(.int IntKind.i64 (0)),(.int IntKind.i64 (0)),(.int IntKind.i64 (0)),(.bool false)]:=fx Tryz.underlying185
theorem yYJ:StTy Tryz.prog 199 [(0,1),(1,1)] [(.int IntKind.i64 (0)),(.string ⟨#[]⟩)]:=fx Tryz.underlying199
theorem yYK:StTy Tryz.prog 219 [(0,3),(3,1),(4,1),(5,1)] [(.slice none 0 0),(.slice none 0 0),(.slice none 0 0),(.int IntKind.i64 (0)),(.bool false),(.slice none 0 0)]:=fx Tryz.underlying219
theorem yWV:StTy Tryz.prog 235 [(0,1),(1,1)] [(.int IntKind.i64 (0)),(.int IntKind.i64 (0))]:=fx Tryz.underlying235
theorem yYL:StTy Tryz.prog 244 [(0,5),(5,1),(6,1),(7,1),(8,1)] [(.slice none 0 0),(.slice none 0 0),(.int IntKind.i64 (0)),(.int IntKind.i64 (0)),(.int IntKind.i64 (0)),(.map none),(.int IntKind.i64 (0)),(.slice none 0 0),(.int IntKind.i64 (0))]:=fx Tryz.underlying244
theorem B26:StTy Tryz.prog 26 [(0,1)] [(.slice none 0 0)]:=fx Tryz.underlying26
theorem yYM:StTy Tryz.prog 266 [] []:=fx Tryz.underlying266
theorem B28:StTy Tryz.prog 28 [(0,1),(1,1),(2,1)] [(.slice none 0 0),(.slice none 0 0),(.slice none 0 0)]:=fx Tryz.underlying28
theorem B43:StTy Tryz.prog 43 [(0,1),(1,1)] [(.int IntKind.i64 (0)),(.slice none 0 0)]:=fx Tryz.underlying43
theorem B55:StTy Tryz.prog 55 [(0,1),(1,1),(2,1),(3,1)] [(.pointer none),(.pointer none),(.pointer none),(.slice none 0 0)]:=fx Tryz.underlying55
theorem B59:StTy Tryz.prog 59 [(0,1),(1,1)] [(.int IntKind.i64 (0)),(.int IntKind.i64 (0))]:=fx Tryz.underlying59
theorem B76:StTy Tryz.prog 76 [(0,1),(1,1),(2,1),(3,1)] [(.slice none 0 0),(.slice none 0 0),(.slice none 0 0),(.slice none 0 0)]:=fx Tryz.underlying76
theorem B81:StTy Tryz.prog 81 [(0,1),(1,1),(2,1)] [(.int IntKind.i64 (0)),(.slice none 0 0),(.string ⟨#[]⟩)]:=fx Tryz.underlying81
theorem B89:StTy Tryz.prog 89 [(0,1),(1,1),(2,1),(3,1)] [(.int IntKind.i64 (0)),(.int IntKind.i64 (0)),(.bool false),(.bool false)]:=fx Tryz.underlying89
theorem B95:StTy Tryz.prog 95 [(0,1),(1,1),(2,1),(3,1),(4,1)] [(.slice none 0 0),(.slice none 0 0),(.int IntKind.i64 (0)),(.int IntKind.i64 (0)),(.int IntKind.i64 (0))]:=fx Tryz.underlying95
theorem yYP:AggTy Tryz.prog 107 6:=fx Tryz.underlying107
theorem yYQ:AggTy Tryz.prog 111 6:=fx Tryz.underlying111
theorem z7J:AggTy Tryz.prog 115 2:=fx Tryz.underlying115
theorem zZN:AggTy Tryz.prog 137 3:=fx Tryz.underlying137
theorem u7:AggTy Tryz.prog 140 3:=fx Tryz.underlying140
theorem zSK:AggTy Tryz.prog 143 2:=fx Tryz.underlying143
theorem yTZ:AggTy Tryz.prog 185 4:=fx Tryz.underlying185
theorem yKU:AggTy Tryz.prog 186 4:=fx Tryz.underlying186
theorem yYR:AggTy Tryz.prog 195 8:=fx Tryz.underlying195
theorem yWW:AggTy Tryz.prog 199 2:=fx Tryz.underlying199
theorem yGL:AggTy Tryz.prog 219 6:=fx Tryz.underlying219
theorem G26:AggTy Tryz.prog 26 1:=fx Tryz.underlying26
theorem yYS:AggTy Tryz.prog 266 0:=fx Tryz.underlying266
theorem G28:AggTy Tryz.prog 28 3:=fx Tryz.underlying28
theorem yGM:AggTy Tryz.prog 286 2:=fx Tryz.underlying286
theorem z7K:AggTy Tryz.prog 296 3:=fx Tryz.underlying296
theorem G43:AggTy Tryz.prog 43 2:=fx Tryz.underlying43
theorem G59:AggTy Tryz.prog 59 2:=fx Tryz.underlying59
theorem G76:AggTy Tryz.prog 76 4:=fx Tryz.underlying76
theorem G81:AggTy Tryz.prog 81 3:=fx Tryz.underlying81
theorem G89:AggTy Tryz.prog 89 4:=fx Tryz.underlying89
theorem G95:AggTy Tryz.prog 95 5:=fx Tryz.underlying95
theorem K3:KeyTy Tryz.prog 3 kI:=yTG Tryz.underlying3
theorem zO3:FldTy Tryz.prog 100 0 0 1 9:=fx Tryz.underlying100
theorem yAZ:FldTy Tryz.prog 100 1 1 1 3:=fx Tryz.underlying100
theorem zRH:FldTy Tryz.prog 102 0 0 2 100:=fx Tryz.underlying102
theorem yKW:FldTy Tryz.prog 102 1 2 1 4:=fx Tryz.underlying102
theorem yKX:FldTy Tryz.prog 102 2 3 2 43:=fx Tryz.underlying102
theorem yT0:FldTy Tryz.prog 102 3 5 2 43:=fx Tryz.underlying102
theorem yT1:FldTy Tryz.prog 102 4 7 1 3:=fx Tryz.underlying102
theorem zO4:FldTy Tryz.prog 105 0 0 1 39:=fx Tryz.underlying105
theorem zXX:FldTy Tryz.prog 107 0 0 1 105:=fx Tryz.underlying107
theorem yA0:FldTy Tryz.prog 107 1 1 3 28:=fx Tryz.underlying107
theorem yA1:FldTy Tryz.prog 107 2 4 1 3:=fx Tryz.underlying107
theorem yKY:FldTy Tryz.prog 107 3 5 1 4:=fx Tryz.underlying107
theorem zO5:FldTy Tryz.prog 109 0 0 1 39:=fx Tryz.underlying109
theorem zKF:FldTy Tryz.prog 109 1 1 1 3:=fx Tryz.underlying109
theorem zO6:FldTy Tryz.prog 111 0 0 2 109:=fx Tryz.underlying111
theorem z3L:FldTy Tryz.prog 111 1 2 1 29:=fx Tryz.underlying111
theorem yKZ:FldTy Tryz.prog 111 2 3 1 3:=fx Tryz.underlying111
theorem z3M:FldTy Tryz.prog 111 3 4 1 3:=fx Tryz.underlying111
theorem yK0:FldTy Tryz.prog 111 4 5 1 4:=fx Tryz.underlying111
theorem zT6:FldTy Tryz.prog 115 0 0 1 3:=fx Tryz.underlying115
theorem zKG:FldTy Tryz.prog 115 1 1 1 3:=fx Tryz.underlying115
theorem zT7:FldTy Tryz.prog 135 0 0 1 29:=fx Tryz.underlying135
theorem yK1:FldTy Tryz.prog 135 1 1 1 132:=fx Tryz.underlying135
theorem zT8:FldTy Tryz.prog 135 2 2 1 133:=fx Tryz.underlying135
theorem yA2:FldTy Tryz.prog 137 0 0 3 28:=fx Tryz.underlying137
theorem zI7:FldTy Tryz.prog 140 0 0 1 3:=fx Tryz.underlying140
theorem zI8:FldTy Tryz.prog 140 1 1 1 3:=fx Tryz.underlying140
theorem zLR:FldTy Tryz.prog 140 2 2 1 3:=fx Tryz.underlying140
theorem zNA:FldTy Tryz.prog 143 0 0 1 3:=fx Tryz.underlying143
theorem zH6:FldTy Tryz.prog 143 1 1 1 3:=fx Tryz.underlying143
theorem yT2:FldTy Tryz.prog 185 0 0 1 3:=fx Tryz.underlying185
theorem yT3:FldTy Tryz.prog 185 1 1 1 3:=fx Tryz.underlying185
theorem yT4:FldTy Tryz.prog 185 2 2 1 3:=fx Tryz.underlying185
theorem yK2:FldTy Tryz.prog 219 0 0 3 28:=fx Tryz.underlying219
theorem yK3:FldTy Tryz.prog 219 2 4 1 4:=fx Tryz.underlying219
theorem yK4:FldTy Tryz.prog 219 3 5 1 26:=fx Tryz.underlying219
theorem yA3:FldTy Tryz.prog 244 0 0 5 95:=fx Tryz.underlying244
theorem yT5:FldTy Tryz.prog 244 2 6 1 3:=fx Tryz.underlying244
theorem yK5:FldTy Tryz.prog 244 3 7 1 22:=fx Tryz.underlying244
theorem zEB:FldTy Tryz.prog 26 0 0 1 24:=fx Tryz.underlying26
theorem z3N:FldTy Tryz.prog 274 0 0 1 272:=fx Tryz.underlying274
theorem zO7:FldTy Tryz.prog 274 1 1 1 30:=fx Tryz.underlying274
theorem zMC:FldTy Tryz.prog 28 0 0 1 22:=fx Tryz.underlying28
theorem zSL:FldTy Tryz.prog 28 1 1 1 23:=fx Tryz.underlying28
theorem z7L:FldTy Tryz.prog 28 2 2 1 26:=fx Tryz.underlying28
theorem yDG:FldTy Tryz.prog 32 0 0 3 28:=fx Tryz.underlying32
theorem yDH:FldTy Tryz.prog 32 1 3 1 3:=fx Tryz.underlying32
theorem yDI:FldTy Tryz.prog 32 2 4 1 29:=fx Tryz.underlying32
theorem yK6:FldTy Tryz.prog 32 3 5 1 9:=fx Tryz.underlying32
theorem ySE:FldTy Tryz.prog 32 4 6 1 30:=fx Tryz.underlying32
theorem z1N:FldTy Tryz.prog 43 0 0 1 3:=fx Tryz.underlying43
theorem yWX:FldTy Tryz.prog 55 0 0 1 44:=fx Tryz.underlying55
theorem ySF:FldTy Tryz.prog 55 1 1 1 47:=fx Tryz.underlying55
theorem yK7:FldTy Tryz.prog 55 2 2 1 50:=fx Tryz.underlying55
theorem zXY:FldTy Tryz.prog 55 3 3 1 39:=fx Tryz.underlying55
theorem zXZ:FldTy Tryz.prog 59 0 0 1 35:=fx Tryz.underlying59
theorem zSM:FldTy Tryz.prog 76 0 0 1 73:=fx Tryz.underlying76
theorem zKH:FldTy Tryz.prog 76 1 1 1 73:=fx Tryz.underlying76
theorem zSN:FldTy Tryz.prog 76 2 2 1 73:=fx Tryz.underlying76
theorem zSO:FldTy Tryz.prog 76 3 3 1 74:=fx Tryz.underlying76
theorem zJD:FldTy Tryz.prog 81 0 0 1 3:=fx Tryz.underlying81
theorem zFL:FldTy Tryz.prog 81 1 1 1 39:=fx Tryz.underlying81
theorem zG4:FldTy Tryz.prog 81 2 2 1 9:=fx Tryz.underlying81
theorem yK8:FldTy Tryz.prog 89 0 0 1 3:=fx Tryz.underlying89
theorem ySG:FldTy Tryz.prog 89 1 1 1 3:=fx Tryz.underlying89
theorem yWY:FldTy Tryz.prog 89 2 2 1 4:=fx Tryz.underlying89
theorem yWZ:FldTy Tryz.prog 89 3 3 1 4:=fx Tryz.underlying89
theorem yW0:FldTy Tryz.prog 95 0 0 1 92:=fx Tryz.underlying95
theorem yK9:FldTy Tryz.prog 95 2 2 1 3:=fx Tryz.underlying95
theorem ySH:FldTy Tryz.prog 95 3 3 1 3:=fx Tryz.underlying95
theorem ySI:FldTy Tryz.prog 95 4 4 1 3:=fx Tryz.underlying95
theorem yW1:MapTy Tryz.prog 132 235 3 (.int IntKind.i64 (0)):=MapTy.of Tryz.underlying132 (by kernel_rfl)
theorem yPJ:MapTy Tryz.prog 194 3 4 (.bool false):=MapTy.of Tryz.underlying194 (by kernel_rfl)
theorem yW2:MapTy Tryz.prog 197 199 4 (.bool false):=MapTy.of Tryz.underlying197 (by kernel_rfl)
theorem yT6:MapTy Tryz.prog 205 3 3 (.int IntKind.i64 (0)):=MapTy.of Tryz.underlying205 (by kernel_rfl)
theorem M236:MapTy Tryz.prog 236 286 3 (.int IntKind.i64 (0)):=MapTy.of Tryz.underlying236 (by kernel_rfl)
theorem yW3:MapTy Tryz.prog 253 3 39 (.slice none 0 0):=MapTy.of Tryz.underlying253 (by kernel_rfl)
theorem yW4:OneTy Tryz.prog 132:=fx Tryz.underlying132
theorem yGN:OneTy Tryz.prog 133:=fx Tryz.underlying133
theorem yT7:OneTy Tryz.prog 147:=fx Tryz.underlying147
theorem yPK:OneTy Tryz.prog 205:=fx Tryz.underlying205
theorem O22:OneTy Tryz.prog 22:=fx Tryz.underlying22
theorem O23:OneTy Tryz.prog 23:=fx Tryz.underlying23
theorem O24:OneTy Tryz.prog 24:=fx Tryz.underlying24
theorem yT8:OneTy Tryz.prog 253:=fx Tryz.underlying253
theorem yPL:OneTy Tryz.prog 272:=fx Tryz.underlying272
theorem O29:OneTy Tryz.prog 29:=fx Tryz.underlying29
theorem O3:OneTy Tryz.prog 3:=fx Tryz.underlying3
theorem O30:OneTy Tryz.prog 30:=fx Tryz.underlying30
theorem O35:OneTy Tryz.prog 35:=fx Tryz.underlying35
theorem O39:OneTy Tryz.prog 39:=fx Tryz.underlying39
theorem O4:OneTy Tryz.prog 4:=fx Tryz.underlying4
theorem O44:OneTy Tryz.prog 44:=fx Tryz.underlying44
theorem O47:OneTy Tryz.prog 47:=fx Tryz.underlying47
theorem O5:OneTy Tryz.prog 5:=fx Tryz.underlying5
theorem O50:OneTy Tryz.prog 50:=fx Tryz.underlying50
theorem O73:OneTy Tryz.prog 73:=fx Tryz.underlying73
theorem O74:OneTy Tryz.prog 74:=fx Tryz.underlying74
theorem O82:OneTy Tryz.prog 82:=fx Tryz.underlying82
theorem O9:OneTy Tryz.prog 9:=fx Tryz.underlying9
theorem O92:OneTy Tryz.prog 92:=fx Tryz.underlying92
theorem zRI:SlTy Tryz.prog 133 39 1 24 (.slice none 0 0):=fx Tryz.underlying133
theorem yPM:SlTy Tryz.prog 151 185 4 32 (.agg #[(.int IntKind.i64 (0)),(.int IntKind.i64 (0)),(.int IntKind.i64 (0)),(.bool false)]):=fx Tryz.underlying151
theorem S22:SlTy Tryz.prog 22 140 3 24 (.agg #[(.int IntKind.i64 (0)),(.int IntKind.i64 (0)),(.int IntKind.i64 (0))]):=fx Tryz.underlying22
theorem S23:SlTy Tryz.prog 23 81 3 48 (.agg #[(.int IntKind.i64 (0)),(.slice none 0 0),(.string ⟨#[]⟩)]):=fx Tryz.underlying23
theorem S24:SlTy Tryz.prog 24 143 2 16 (.agg #[(.int IntKind.i64 (0)),(.int IntKind.i64 (0))]):=fx Tryz.underlying24
theorem yLB:SlTy Tryz.prog 263 73 1 24 (.slice none 0 0):=fx Tryz.underlying263
theorem S29:SlTy Tryz.prog 29 76 4 96 (.agg #[(.slice none 0 0),(.slice none 0 0),(.slice none 0 0),(.slice none 0 0)]):=fx Tryz.underlying29
theorem S30:SlTy Tryz.prog 30 5 1 1 (.int IntKind.u8 (0)):=fx Tryz.underlying30
theorem yP:SlTy Tryz.prog 39 3 1 8 (.int IntKind.i64 (0)):=fx Tryz.underlying39
theorem S56:SlTy Tryz.prog 56 9 1 16 (.string ⟨#[]⟩):=fx Tryz.underlying56
theorem S73:SlTy Tryz.prog 73 26 1 24 (.agg #[(.slice none 0 0)]):=fx Tryz.underlying73
theorem S74:SlTy Tryz.prog 74 115 2 16 (.agg #[(.int IntKind.i64 (0)),(.int IntKind.i64 (0))]):=fx Tryz.underlying74
theorem S84:SlTy Tryz.prog 84 4 1 1 (.bool false):=fx Tryz.underlying84
theorem S92:SlTy Tryz.prog 92 246 2 48 (.agg #[(.slice none 0 0),(.slice none 0 0)]):=fx Tryz.underlying92
theorem Z0:vF Tryz.prog 0=some [.int .i64 4352,.int .i64 4370,.int .i64 4449,.int .i64 4469,.int .i64 4520,.int .i64 4546,.int .i64 44032,.int .i64 55203]:=by kernel_rfl
set_option maxRecDepth 10000 in
theorem yW5:EqTy Tryz.prog 143 aF:=EqTy.of (vals:=λ(x:Range)=>[.int IntKind.i64 x.Lo,.int IntKind.i64 x.Hi]) (cs:=λ(a b:Range)=>[decide (a.Lo=b.Lo),decide (a.Hi=b.Hi)]) Tryz.underlying143 (by kernel_rfl) (by kernel_rfl) (λ_=>rfl) (λa b w=>(zSB (d:=9998) rfl O3 (zSB (d:=9998) rfl O3 z2W Tryz.underlying3 rfl rfl) Tryz.underlying3 rfl rfl)) (λa b=>by cases a;cases b;simp)
theorem yYU:EqTy Tryz.prog 186 dr:=EqTy.ofA (vals:=λ(x:dc)=>[.int IntKind.i64 x.x0,.int IntKind.i64 x.x1,.int IntKind.i64 x.x2,.int IntKind.i64 x.x3]) (cs:=λ(a b:dc)=>[decide (a.x0=b.x0),decide (a.x1=b.x1),decide (a.x2=b.x2),decide (a.x3=b.x3)]) z7I O3 (by kernel_rfl) (λ_=>rfl) (λa b w=>(Pw.cons ⟨_,_,rfl,rfl,Go.AV.run_equalIn_int Tryz.underlying3 _ _ _ _⟩ (Pw.cons ⟨_,_,rfl,rfl,Go.AV.run_equalIn_int Tryz.underlying3 _ _ _ _⟩ (Pw.cons ⟨_,_,rfl,rfl,Go.AV.run_equalIn_int Tryz.underlying3 _ _ _ _⟩ (Pw.cons ⟨_,_,rfl,rfl,Go.AV.run_equalIn_int Tryz.underlying3 _ _ _ _⟩ Pw.nil))))) (λa b=>by cases a;cases b;simp)
set_option maxRecDepth 10000 in
theorem yYV:EqTy Tryz.prog 199 dC:=EqTy.of (vals:=λ(x:bT)=>[.int IntKind.i64 x.aY,.string ⟨x.dK.toArray⟩]) (cs:=λ(a b:bT)=>[decide (a.aY=b.aY),decide (a.dK=b.dK)]) Tryz.underlying199 (by kernel_rfl) (by kernel_rfl) (λ_=>rfl) (λa b w=>(zSB (d:=9998) rfl O3 (yOW (d:=9998) rfl O9 z2W Tryz.underlying9 rfl rfl) Tryz.underlying3 rfl rfl)) (λa b=>by cases a;cases b;simp)
set_option maxRecDepth 10000 in
theorem yYW:EqTy Tryz.prog 235 zVP:=EqTy.of (vals:=λ(x:aP)=>[.int IntKind.i64 x.c9,.int IntKind.i64 x.code]) (cs:=λ(a b:aP)=>[decide (a.c9=b.c9),decide (a.code=b.code)]) Tryz.underlying235 (by kernel_rfl) (by kernel_rfl) (λ_=>rfl) (λa b w=>(zSB (d:=9998) rfl O3 (zSB (d:=9998) rfl O3 z2W Tryz.underlying3 rfl rfl) Tryz.underlying3 rfl rfl)) (λa b=>by cases a;cases b;simp)
theorem yUB:EqTy Tryz.prog 286 yAY:=EqTy.ofA (vals:=λ(x:bD)=>[.int IntKind.i64 x.x0,.int IntKind.i64 x.x1]) (cs:=λ(a b:bD)=>[decide (a.x0=b.x0),decide (a.x1=b.x1)]) zO1 O3 (by kernel_rfl) (λ_=>rfl) (λa b w=>(Pw.cons ⟨_,_,rfl,rfl,Go.AV.run_equalIn_int Tryz.underlying3 _ _ _ _⟩ (Pw.cons ⟨_,_,rfl,rfl,Go.AV.run_equalIn_int Tryz.underlying3 _ _ _ _⟩ Pw.nil))) (λa b=>by cases a;cases b;simp)
theorem yYX:EqTy Tryz.prog 296 dG:=EqTy.ofA (vals:=λ(x:dB)=>[.int IntKind.i64 x.x0,.int IntKind.i64 x.x1,.int IntKind.i64 x.x2]) (cs:=λ(a b:dB)=>[decide (a.x0=b.x0),decide (a.x1=b.x1),decide (a.x2=b.x2)]) zXV O3 (by kernel_rfl) (λ_=>rfl) (λa b w=>(Pw.cons ⟨_,_,rfl,rfl,Go.AV.run_equalIn_int Tryz.underlying3 _ _ _ _⟩ (Pw.cons ⟨_,_,rfl,rfl,Go.AV.run_equalIn_int Tryz.underlying3 _ _ _ _⟩ (Pw.cons ⟨_,_,rfl,rfl,Go.AV.run_equalIn_int Tryz.underlying3 _ _ _ _⟩ Pw.nil)))) (λa b=>by cases a;cases b;simp)
theorem yW6:KeyTy Tryz.prog 199 zJK:=yAD (vals:=λ(x:bT)=>[.int IntKind.i64 x.aY,.string ⟨x.dK.toArray⟩]) Tryz.underlying199 yYV (λ_=>rfl) (λ_=>rfl) (λ_=>rfl) (λ_=>by simp[Instr.sameBits,z2S]) (λa b w=>zXO Tryz.underlying199 (List.forall_mem_cons.2 ⟨⟨O3,⟨_,Tryz.underlying3,rfl⟩,lq rfl⟩,(List.forall_mem_cons.2 ⟨⟨O9,⟨_,Tryz.underlying9,rfl⟩,lq rfl⟩,(λ_ h=>by cases h)⟩)⟩) b w)
theorem yW7:KeyTy Tryz.prog 235 yG:=yAD (vals:=λ(x:aP)=>[.int IntKind.i64 x.c9,.int IntKind.i64 x.code]) Tryz.underlying235 yYW (λ_=>rfl) (λ_=>rfl) (λ_=>rfl) (λ_=>by simp[Instr.sameBits,z2S]) (λa b w=>zXO Tryz.underlying235 (List.forall_mem_cons.2 ⟨⟨O3,⟨_,Tryz.underlying3,rfl⟩,lq rfl⟩,(List.forall_mem_cons.2 ⟨⟨O3,⟨_,Tryz.underlying3,rfl⟩,lq rfl⟩,(λ_ h=>by cases h)⟩)⟩) b w)
theorem yUC:KeyTy Tryz.prog 286 zEX:=yAD (vals:=λ(x:bD)=>[.int IntKind.i64 x.x0,.int IntKind.i64 x.x1]) Tryz.underlying286 yUB (λ_=>rfl) (λ_=>rfl) (λ_=>rfl) (λ_=>by simp[Instr.sameBits,z2S]) (λa b w=>yF5 zO1 O3 Tryz.underlying3 rfl rfl b w)
theorem MX:Tryz.prog.follows .mixedOrders=true:=by kernel_rfl
section
variable {P:Program} {r:Option Nat} {E:Env} {S S':AState} {ops:Array Oper} {o:Oper} {rest:List Oper} {J:AState->Prop} {d j t:Nat} {x:AV} {b:Bool} {G H I F0 F1 F2 F3 F4 F5 F6 F7:Prop}
theorem q0 (k:H) (h:H->G:=by exact k6 (kW lr rfl)):G:=h k
theorem q1 (k:H) (h:H->G:=by exact k6 (zJ0 lr rfl)):G:=h k
theorem q2 (k:H) (h:H->G:=by exact k6 (z6H lr rfl rfl)):G:=h k
theorem q3 (k:H) (h:H->G:=by exact k6 (zW7 lr rfl rfl)):G:=h k
theorem q4 (f0:F0) (k:H) (h:F0->H->G:=by exact λf0=>k6 ((kW lr rfl).bool (iH f0))):G:=h f0 k
theorem q5 (f0:F0) (k:H) (h:F0->H->G:=by exact λf0=>k6 (wA lr rfl f0)):G:=h f0 k
theorem q6 (f0:F0) (k:H) (h:F0->H->G:=by exact λf0=>k6 (z6I lr f0 rfl)):G:=h f0 k
theorem q7 (f0:F0) (k:H) (h:F0->H->G:=by exact λf0=>k6 (yV lr f0 rfl rfl)):G:=h f0 k
theorem q8 (f0:F0) (k:H) (h:F0->H->G:=by exact λf0=>k6 (zAA lr f0 rfl)):G:=h f0 k
theorem q9 (k:H) (h:H->G:=by exact daa (kW lr rfl)):G:=h k
theorem q10 (f0:F0) (k:H) (h:F0->H->G:=by exact λf0=>k6 (zBS lr f0 rfl)):G:=h f0 k
theorem q11 (k:H) (h:H->G:=by exact k6 (zGI lr rfl)):G:=h k
theorem q12 (f0:F0) (f1:F1) (k:H) (h:F0->F1->H->G:=by exact λf0 f1=>k6 (jB lr f0 rfl rfl f1)):G:=h f0 f1 k
theorem q13 (f0:F0) (k:H) (h:F0->H->G:=by exact λf0=>zU rfl (zM5 f0 rfl rfl rfl rfl rfl rfl)):G:=h f0 k
theorem q14 (k:H) (h:H->G:=by exact k6 (zMZ lr rfl)):G:=h k
theorem q15 (k:H) (h:H->G:=by exact k6 (z2L lr rfl)):G:=h k
theorem q16 (x:AV) (k:Sq P r E ops rest (S.put d (.cond (gd true b) x)) J) (ha:GdO o ops S E j t d b true:=by exact rfl) (h:b=true->AOp P r E S o d x:=by exact λhb=>by subst hb;exact kW lr rfl):Sq P r E ops (o::rest) S J:=sqt x ha h k
theorem q17 (k:H) (h:H->G:=by exact k6 (zPM lr rfl rfl)):G:=h k
theorem q18 (k:H) (h:H->G:=by exact k6 (zL8 lr rfl)):G:=h k
theorem q19 (k:H) (h:H->G:=by exact k6 (zHZ lr rfl rfl)):G:=h k
theorem q20 (f0:F0) (k:H) (h:F0->H->G:=by exact λf0=>k6 (wY lr f0 rfl rfl rfl)):G:=h f0 k
theorem q21 (k:H) (h:H->G:=by exact k6 (zTT lr rfl rfl)):G:=h k
theorem q22 (k:H) (h:H->G:=by exact k6 (zW8 lr rfl rfl)):G:=h k
theorem q23 (f0:F0) (f1:F1) (k:H) (h:F0->F1->H->G:=by exact λf0 f1=>xc rfl (zL9 lr f0 rfl rfl rfl f1)):G:=h f0 f1 k
theorem q24 (f0:F0) (k:H) (h:F0->H->G:=by exact λf0=>xd rfl (zM5 f0 rfl rfl rfl rfl rfl rfl)):G:=h f0 k
theorem q25 (f0:F0) (k:H) (h:F0->H->G:=by exact λf0 k=>zVO rfl rfl (zM5 f0 rfl rfl rfl rfl rfl rfl) k trivial):G:=h f0 k
theorem q26 (f0:F0) (k:H) (h:F0->H->G:=by exact λf0=>k6 (zL6 lr f0 rfl rfl)):G:=h f0 k
theorem q27 (f0:F0) (f1:F1) (f2:F2) (k:H) (h:F0->F1->F2->H->G:=by exact λf0 f1 f2=>xd rfl (yJ5 f0 rfl rfl rfl f1 f2 rfl rfl rfl rfl)):G:=h f0 f1 f2 k
theorem q28 (x:AV) (k:Sq P r E ops rest (S.put d (.cond (gd false b) x)) J) (ha:GdO o ops S E j t d b false:=by exact rfl) (h:b=false->AOp P r E S o d x:=by exact λhb=>by subst hb;exact kW lr rfl):Sq P r E ops (o::rest) S J:=sqf x ha h k
theorem q29 (k:H) (h:H->G:=by exact k6 (zQS lr rfl)):G:=h k
theorem q30 (f0:F0) (k:H) (h:F0->H->G:=by exact λf0 k=>k6 (yCV lr f0 rfl rfl rfl rfl (by decide) rfl) k):G:=h f0 k
theorem q31 (k:H) (h:H->G:=by exact k6 (z0S lr rfl rfl)):G:=h k
theorem q32 (f0:F0) (k:H) (h:F0->H->G:=by exact λf0=>daa (zBS lr f0 rfl)):G:=h f0 k
theorem q33 (x:AV) (f0:F0) (k:Sq P r E ops rest (S.put d (.cond (gd false b) x)) J) (ha:GdO o ops S E j t d b false:=by exact rfl) (h:F0->b=false->AOp P r E S o d x:=by exact λf0 hb=>by subst hb;exact zAA lr f0 rfl):Sq P r E ops (o::rest) S J:=sqf x ha (h f0) k
theorem q34 (x:AV) (f0:F0) (k:Sq P r E ops rest (S.put d (.cond (gd false b) x)) J) (ha:GdO o ops S E j t d b false:=by exact rfl) (h:F0->b=false->AOp P r E S o d x:=by exact λf0 hb=>by subst hb;exact yV lr f0 rfl rfl):Sq P r E ops (o::rest) S J:=sqf x ha (h f0) k
theorem q35 (k:H) (h:H->G:=by exact k6 (z03 lr rfl rfl)):G:=h k
theorem q36 (f0:F0) (f1:F1) (k:H) (h:F0->F1->H->G:=by exact λf0 f1=>daa (jB lr f0 rfl rfl f1)):G:=h f0 f1 k
theorem q37 (f0:F0) (k:H) (h:F0->H->G:=by exact λf0=>daa (wA lr rfl f0)):G:=h f0 k
theorem q38 (f0:F0) (f1:F1) (k:H) (h:F0->F1->H->G:=by exact λf0 f1=>xc rfl (zPS lr f0 rfl rfl f1 rfl)):G:=h f0 f1 k
theorem q39 (k:H) (h:H->G:=by exact k6 (zU5 (size:=3) lr rfl rfl)):G:=h k
theorem q40 (k:H) (h:H->G:=by exact k6 (yCT lr rfl rfl)):G:=h k
theorem q41 (f0:F0) (k:H) (h:F0->H->G:=by exact λf0=>k6 (zBK lr f0 rfl rfl)):G:=h f0 k
theorem q42 (k:H) (h:H->G:=by exact λk=>zVO rfl rfl (yW (zs:=[(.int IntKind.i64 (0)),(.int IntKind.i64 (0))]) lr (by kernel_rfl) rfl rfl) k trivial):G:=h k
theorem q43 (k:H) (h:H->G:=by exact k6 (zGJ lr rfl)):G:=h k
theorem q44 (f0:F0) (f1:F1) (k:H) (h:F0->F1->H->G:=by exact λf0 f1 k=>zDR rfl rfl (yA (en:=eI) (off:=0) lr f0 rfl f1 rfl) k trivial):G:=h f0 f1 k
theorem q45 (f0:F0) (k:H) (h:F0->H->G:=by exact λf0 k=>zDR rfl rfl (wA lr rfl f0) k trivial):G:=h f0 k
theorem q46 (f0:F0) (f1:F1) (k:H) (h:F0->F1->H->G:=by exact λf0 f1=>k6 (yA (en:=eI) (off:=0) lr f0 rfl f1 rfl)):G:=h f0 f1 k
theorem q47 (k:H) (h:H->G:=by exact daa (zJ0 lr rfl)):G:=h k
theorem q48 (f0:F0) (k:H) (h:F0->H->G:=by exact λf0 k=>zDR rfl rfl (zXM lr f0 rfl rfl) k trivial):G:=h f0 k
theorem q49 (k:H) (h:H->G:=by exact zU rfl (yW (zs:=[(.int IntKind.i64 (0)),(.int IntKind.i64 (0))]) lr (by kernel_rfl) rfl rfl)):G:=h k
theorem q50 (k:H) (h:H->G:=by exact k6 (zM6 lr rfl rfl)):G:=h k
theorem q51 (k:H) (h:H->G:=by exact daa (zMZ lr rfl)):G:=h k
theorem q52 (k:H) (h:H->G:=by exact daa (zL8 lr rfl)):G:=h k
theorem q53 (k:H) (h:H->G:=by exact k6 (z0R lr rfl rfl)):G:=h k
theorem q54 (k:H) (h:H->G:=by exact xd rfl (yW (zs:=[(.int IntKind.i64 (0)),(.int IntKind.i64 (0)),(.int IntKind.i64 (0))]) lr (by kernel_rfl) rfl rfl)):G:=h k
theorem q55 (x:AV) (k:Sq P r E ops rest (S.put d (.cond (gd false b) x)) J) (ha:GdO o ops S E j t d b false:=by exact rfl) (h:b=false->AOp P r E S o d x:=by exact λhb=>by subst hb;exact z0R lr rfl rfl):Sq P r E ops (o::rest) S J:=sqf x ha h k
theorem q56 (f0:F0) (k:H) (h:F0->H->G:=by exact λf0=>daa (zAA lr f0 rfl)):G:=h f0 k
theorem q57 (f0:F0) (k:H) (h:F0->H->G:=by exact λf0=>daa (yV lr f0 rfl rfl)):G:=h f0 k
theorem q58 (f0:F0) (k:H) (h:F0->H->G:=by exact λf0=>zU rfl (zVL lr f0 rfl rfl rfl rfl (by decide) rfl)):G:=h f0 k
theorem q59 (f0:F0) (f1:F1) (k:H) (m:I) (h:F0->F1->H->I->G:=by exact λf0 f1=>xa rfl (uU (en:=aH) (off:=0) lr f0 rfl f1 rfl rfl (by decide))):G:=h f0 f1 k m
theorem q60 (x:AV) (k:Sq P r E ops rest (S.put d (.cond (gd true b) x)) J) (ha:GdO o ops S E j t d b true:=by exact rfl) (h:b=true->AOp P r E S o d x:=by exact λhb=>by subst hb;exact zQR lr rfl rfl):Sq P r E ops (o::rest) S J:=sqt x ha h k
theorem q61 (f0:F0) (f1:F1) (k:H) (h:F0->F1->H->G:=by exact λf0 f1=>k6 (yTD lr f0 f1 rfl)):G:=h f0 f1 k
theorem q62 (f0:F0) (k:H) (h:F0->H->G:=by exact λf0=>zU rfl (zNL f0 rfl rfl lr rfl rfl rfl)):G:=h f0 k
theorem q63 (f0:F0) (k:H) (h:F0->H->G:=by exact λf0 k=>zVO rfl rfl (z3C f0 rfl rfl rfl rfl rfl rfl) k trivial):G:=h f0 k
theorem q64 (f0:F0) (k:H) (h:F0->H->G:=by exact λf0 k=>zDR rfl rfl (zBK lr f0 rfl rfl) k trivial):G:=h f0 k
theorem q65 (k:H) (h:H->G:=by exact λk=>zDR rfl rfl (zJ0 lr rfl) k trivial):G:=h k
theorem q66 (f0:F0) (k:H) (h:F0->H->G:=by exact λf0=>k6 (jT lr f0 rfl)):G:=h f0 k
theorem q67 (f0:F0) (k:H) (h:F0->H->G:=by exact λf0=>daa (zL6 lr f0 rfl rfl)):G:=h f0 k
theorem q68 (f0:F0) (k:H) (h:F0->H->G:=by exact λf0=>zU rfl (zQT f0 rfl rfl lr rfl rfl rfl)):G:=h f0 k
theorem q69 (f0:F0) (f1:F1) (k:H) (m:I) (h:F0->F1->H->I->G:=by exact λf0 f1=>zDR rfl rfl (yA (en:=eI) (off:=0) lr f0 rfl f1 rfl)):G:=h f0 f1 k m
theorem q70 (x:AV) (f0:F0) (k:Sq P r E ops rest (S.put d (.cond (gd true b) x)) J) (ha:GdO o ops S E j t d b true:=by exact rfl) (h:F0->b=true->AOp P r E S o d x:=by exact λf0 hb=>by subst hb;exact zAA lr f0 rfl):Sq P r E ops (o::rest) S J:=sqt x ha (h f0) k
theorem q71 (f0:F0) (k:H) (h:F0->H->G:=by exact λf0=>daa (wY lr f0 rfl rfl rfl)):G:=h f0 k
theorem q72 (k:H) (h:H->G:=by exact k6 (zU5 (size:=1) lr rfl rfl)):G:=h k
theorem q73 (x:AV) (f0:F0) (k:Sq P r E ops rest (S.put d (.cond (gd true b) x)) J) (ha:GdO o ops S E j t d b true:=by exact rfl) (h:F0->b=true->AOp P r E S o d x:=by exact λf0 hb=>by subst hb;exact yV lr f0 rfl rfl):Sq P r E ops (o::rest) S J:=sqt x ha (h f0) k
theorem q74 (x:AV) (f0:F0) (k:Sq P r E ops rest (S.put d (.cond (gd false b) x)) J) (ha:GdO o ops S E j t d b false:=by exact rfl) (h:F0->b=false->AOp P r E S o d x:=by exact λf0 hb=>by subst hb;exact z6I lr f0 rfl):Sq P r E ops (o::rest) S J:=sqf x ha (h f0) k
theorem q75 (x:AV) (k:DA P r E ops rest (S.put d (.cond (gd false b) x)) J) (ha:GdO o ops S E j t d b false:=by exact rfl) (h:b=false->AOp P r E S o d x:=by exact λhb=>by subst hb;exact kW lr rfl):DA P r E ops (o::rest) S J:=daf x ha h k
theorem q76 (k:H) (h:H->G:=by exact λk=>zVO rfl rfl (yW (zs:=[(.slice none 0 0),(.slice none 0 0),(.slice none 0 0)]) lr (by kernel_rfl) rfl rfl) k trivial):G:=h k
theorem q77 (f0:F0) (k:H) (h:F0->H->G:=by exact λf0 k=>zDR rfl rfl (zMB lr f0 rfl rfl) k trivial):G:=h f0 k
theorem q78 (f0:F0) (k:H) (h:F0->H->G:=by exact λf0=>daa (jT lr f0 rfl)):G:=h f0 k
theorem q79 (f0:F0) (k:H) (h:F0->H->G:=by exact λf0=>daa ((kW lr rfl).bool (iH f0))):G:=h f0 k
theorem q80 (x:AV) (k:DA P r E ops rest (S.put d (.cond (gd true b) x)) J) (ha:GdO o ops S E j t d b true:=by exact rfl) (h:b=true->AOp P r E S o d x:=by exact λhb=>by subst hb;exact kW lr rfl):DA P r E ops (o::rest) S J:=dat x ha h k
theorem q81 (f0:F0) (f1:F1) (k:H) (h:F0->F1->H->G:=by exact λf0 f1=>daa (yA (en:=eI) (off:=0) lr f0 rfl f1 rfl)):G:=h f0 f1 k
theorem q83 (k:H) (h:H->G:=by exact k6 (zQR lr rfl rfl)):G:=h k
theorem q84 (x:AV) (k:Sq P r E ops rest (S.put d (.cond (gd true b) x)) J) (ha:GdO o ops S E j t d b true:=by exact rfl) (h:b=true->AOp P r E S o d x:=by exact λhb=>by subst hb;exact zW7 lr rfl rfl):Sq P r E ops (o::rest) S J:=sqt x ha h k
theorem q85 (k:H) (h:H->G:=by exact zU rfl (yW (zs:=[(.slice none 0 0)]) lr (by kernel_rfl) rfl rfl)):G:=h k
theorem q86 (f0:F0) (f1:F1) (k:H) (h:F0->F1->H->G:=by exact λf0 f1=>xc rfl (uU (en:=aH) (off:=0) lr f0 rfl f1 rfl rfl (by decide))):G:=h f0 f1 k
theorem q87 (k:H) (h:H->G:=by exact λk=>zDR rfl rfl (zPM lr rfl rfl) k trivial):G:=h k
theorem q88 (x:AV) (k:Sq P r E ops rest (S.put d (.cond (gd false b) x)) J) (ha:GdO o ops S E j t d b false:=by exact rfl) (h:b=false->AOp P r E S o d x:=by exact λhb=>by subst hb;exact zQS lr rfl):Sq P r E ops (o::rest) S J:=sqf x ha h k
theorem q89 (f0:F0) (k:H) (h:F0->H->G:=by exact λf0=>k6 (zT1 lr f0 rfl)):G:=h f0 k
theorem q90 (k:H) (h:H->G:=by exact k6 (zJG lr rfl)):G:=h k
theorem q91 (k:H) (m:I) (h:H->I->G:=by exact zDR rfl rfl (zPM lr rfl rfl)):G:=h k m
theorem q92 (f0:F0) (f1:F1) (k:H) (h:F0->F1->H->G:=by exact λf0 f1=>k6 (zR9 lr f0 rfl rfl rfl f1)):G:=h f0 f1 k
theorem q93 (f0:F0) (f1:F1) (k:H) (m:I) (h:F0->F1->H->I->G:=by exact λf0 f1=>xa rfl (zPS lr f0 rfl rfl f1 rfl)):G:=h f0 f1 k m
theorem q94 (k:H) (h:H->G:=by exact k6 (zU5 (size:=2) lr rfl rfl)):G:=h k
theorem q95 (k:H) (h:H->G:=by exact k6 (z6O lr rfl)):G:=h k
theorem q96 (x:AV) (k:Sq P r E ops rest (S.put d (.cond (gd true b) x)) J) (ha:GdO o ops S E j t d b true:=by exact rfl) (h:b=true->AOp P r E S o d x:=by exact λhb=>by subst hb;exact zQS lr rfl):Sq P r E ops (o::rest) S J:=sqt x ha h k
theorem q97 (k:H) (h:H->G:=by exact k6 (yWA lr rfl rfl (by decide))):G:=h k
theorem q98 (k:H) (h:H->G:=by exact daa (zGI lr rfl)):G:=h k
theorem q99 (x:AV) (k:Sq P r E ops rest (S.put d (.cond (gd true b) x)) J) (ha:GdO o ops S E j t d b true:=by exact rfl) (h:b=true->AOp P r E S o d x:=by exact λhb=>by subst hb;exact zW8 lr rfl rfl):Sq P r E ops (o::rest) S J:=sqt x ha h k
theorem z3Q (f0:F0) (k:H) (h:F0->H->G:=by exact λf0=>k6 (zXM lr f0 rfl rfl)):G:=h f0 k
theorem zZR (f0:F0) (f1:F1) (k:H) (h:F0->F1->H->G:=by exact λf0 f1=>k6 (uU (en:=aB) (off:=0) lr f0 rfl f1 rfl rfl (by decide))):G:=h f0 f1 k
theorem z7M (k:H) (h:H->G:=by exact zU rfl (yFX lr rfl)):G:=h k
theorem zZS (f0:F0) (k:H) (h:F0->H->G:=by exact λf0=>k6 (zVN lr f0 rfl rfl (by decide))):G:=h f0 k
theorem zZT (f0:F0) (k:H) (h:F0->H->G:=by exact λf0=>k6 (yF0 lr f0 rfl rfl (by decide))):G:=h f0 k
theorem zZU (k:H) (h:H->G:=by exact zU rfl (yFP lr rfl rfl)):G:=h k
theorem z7N (f0:F0) (k:H) (h:F0->H->G:=by exact λf0=>k6 (yF4 lr f0 rfl)):G:=h f0 k
theorem z3R (f0:F0) (k:H) (h:F0->H->G:=by exact λf0=>k6 (zVA lr f0 rfl rfl rfl rfl)):G:=h f0 k
theorem z3S (x:AV) (f0:F0) (k:DA P r E ops rest (S.put d (.cond (gd false b) x)) J) (ha:GdO o ops S E j t d b false:=by exact rfl) (h:F0->b=false->AOp P r E S o d x:=by exact λf0 hb=>by subst hb;exact jT lr f0 rfl):DA P r E ops (o::rest) S J:=daf x ha (h f0) k
theorem z3T (k:H) (h:H->G:=by exact daa (zTT lr rfl rfl)):G:=h k
theorem z3U (k:H) (h:H->G:=by exact daa (z03 lr rfl rfl)):G:=h k
theorem z7O (x:AV) (k:Sq P r E ops rest (S.put d (.cond (gd false b) x)) J) (ha:GdO o ops S E j t d b false:=by exact rfl) (h:b=false->AOp P r E S o d x:=by exact λhb=>by subst hb;exact zW8 lr rfl rfl):Sq P r E ops (o::rest) S J:=sqf x ha h k
theorem z3V (f0:F0) (k:H) (h:F0->H->G:=by exact λf0=>k6 (yR6 lr rfl rfl f0)):G:=h f0 k
theorem yXB (k:H) (h:H->G:=by exact k6 (zU5 (size:=4) lr rfl rfl)):G:=h k
theorem yBB (f0:F0) (k:H) (h:F0->H->G:=by exact λf0=>k6 (z04 lr f0 rfl)):G:=h f0 k
theorem z3W (f0:F0) (f1:F1) (k:H) (m:I) (h:F0->F1->H->I->G:=by exact λf0 f1=>zDR rfl rfl (jB lr f0 rfl rfl f1)):G:=h f0 f1 k m
theorem z3X (f0:F0) (f1:F1) (k:H) (h:F0->F1->H->G:=by exact λf0 f1 k=>zDR rfl rfl (jB lr f0 rfl rfl f1) k trivial):G:=h f0 f1 k
theorem z3Y (x:AV) (k:Sq P r E ops rest (S.put d (.cond (gd false b) x)) J) (ha:GdO o ops S E j t d b false:=by exact rfl) (h:b=false->AOp P r E S o d x:=by exact λhb=>by subst hb;exact zMZ lr rfl):Sq P r E ops (o::rest) S J:=sqf x ha h k
theorem z7P (f0:F0) (f1:F1) (k:H) (h:F0->F1->H->G:=by exact λf0 f1=>k6 (yA (en:=aB) (off:=1) lr f0 rfl f1 rfl)):G:=h f0 f1 k
theorem yGS (f0:F0) (f1:F1) (k:H) (h:F0->F1->H->G:=by exact λf0 f1=>k6 (zOR lr f0 rfl rfl f1)):G:=h f0 f1 k
theorem yLE (x:AV) (k:Sq P r E ops rest (S.put d (.cond (gd false b) x)) J) (ha:GdO o ops S E j t d b false:=by exact rfl) (h:b=false->AOp P r E S o d x:=by exact λhb=>by subst hb;exact yCT lr rfl rfl):Sq P r E ops (o::rest) S J:=sqf x ha h k
theorem yGT (x:AV) (k:Sq P r E ops rest (S.put d (.cond (gd false b) x)) J) (ha:GdO o ops S E j t d b false:=by exact rfl) (h:b=false->AOp P r E S o d x:=by exact λhb=>by subst hb;exact zHZ lr rfl rfl):Sq P r E ops (o::rest) S J:=sqf x ha h k
theorem yBC (f0:F0) (k:H) (h:F0->H->G:=by exact λf0=>k6 (yTF lr f0 rfl rfl)):G:=h f0 k
theorem z7Q (f0:F0) (k:H) (h:F0->H->G:=by exact λf0=>k6 (zGH lr f0 rfl rfl rfl)):G:=h f0 k
theorem yY3 (k:H) (h:H->G:=by exact zU rfl (yW (zs:=[(.int IntKind.i64 (0)),(.slice none 0 0),(.string ⟨#[]⟩)]) lr (by kernel_rfl) rfl rfl)):G:=h k
theorem yLF (x:AV) (f0:F0) (k:DA P r E ops rest (S.put d (.cond (gd true b) x)) J) (ha:GdO o ops S E j t d b true:=by exact rfl) (h:F0->b=true->AOp P r E S o d x:=by exact λf0 hb=>by subst hb;exact zAA lr f0 rfl):DA P r E ops (o::rest) S J:=dat x ha (h f0) k
theorem z7R (k:H) (h:H->G:=by exact zU rfl (yW (zs:=[(.slice none 0 0),(.slice none 0 0),(.slice none 0 0)]) lr (by kernel_rfl) rfl rfl)):G:=h k
theorem z7S (f0:F0) (f1:F1) (k:H) (m:I) (h:F0->F1->H->I->G:=by exact λf0 f1=>xa rfl (zL9 lr f0 rfl rfl rfl f1)):G:=h f0 f1 k m
theorem yBD (k:H) (h:H->G:=by exact daa (zQS lr rfl)):G:=h k
theorem yY4 (k:H) (h:H->G:=by exact daa (zHZ lr rfl rfl)):G:=h k
theorem yGU (k:H) (h:H->G:=by exact k6 (yAB lr rfl rfl)):G:=h k
theorem yBE (x:AV) (k:Sq P r E ops rest (S.put d (.cond (gd true b) x)) J) (ha:GdO o ops S E j t d b true:=by exact rfl) (h:b=true->AOp P r E S o d x:=by exact λhb=>by subst hb;exact yCT lr rfl rfl):Sq P r E ops (o::rest) S J:=sqt x ha h k
theorem yBF (x:AV) (f0:F0) (k:Sq P r E ops rest (S.put d (.cond (gd true b) x)) J) (ha:GdO o ops S E j t d b true:=by exact rfl) (h:F0->b=true->AOp P r E S o d x:=by exact λf0 hb=>by subst hb;exact z6I lr f0 rfl):Sq P r E ops (o::rest) S J:=sqt x ha (h f0) k
theorem yBG (f0:F0) (f1:F1) (k:H) (h:F0->F1->H->G:=by exact λf0 f1=>k6 (uU (en:=aC) (off:=0) lr f0 rfl f1 rfl rfl (by decide))):G:=h f0 f1 k
theorem yPO (x:AV) (f0:F0) (k:DA P r E ops rest (S.put d (.cond (gd true b) x)) J) (ha:GdO o ops S E j t d b true:=by exact rfl) (h:F0->b=true->AOp P r E S o d x:=by exact λf0 hb=>by subst hb;exact yV lr f0 rfl rfl):DA P r E ops (o::rest) S J:=dat x ha (h f0) k
theorem yLG (f0:F0) (f1:F1) (k:H) (h:F0->F1->H->G:=by exact λf0 f1=>zU rfl (z6M f0 f1 rfl rfl rfl rfl rfl rfl)):G:=h f0 f1 k
theorem yLH (k:H) (h:H->G:=by exact daa (zPM lr rfl rfl)):G:=h k
theorem yBH (f0:F0) (k:H) (m:I) (h:F0->H->I->G:=by exact λf0=>zDR rfl rfl (wA lr rfl f0)):G:=h f0 k m
theorem yBI (f0:F0) (k:H) (h:F0->H->G:=by exact λf0 k=>zDR rfl rfl (yCV lr f0 rfl rfl rfl rfl (by decide) rfl) k trivial):G:=h f0 k
theorem yBJ (f0:F0) (f1:F1) (k:H) (h:F0->F1->H->G:=by exact λf0 f1 k=>zVO rfl rfl (zY lr f0 rfl rfl rfl f1 (by decide) (by decide) rfl rfl) k trivial):G:=h f0 f1 k
theorem yY5 (k:H) (h:H->G:=by exact λk=>zDR rfl rfl (zL8 lr rfl) k trivial):G:=h k
theorem yY6 (f0:F0) (k:H) (h:F0->H->G:=by exact λf0 k=>zDR rfl rfl (zBS lr f0 rfl) k trivial):G:=h f0 k
theorem yY7 (f0:F0) (k:H) (h:F0->H->G:=by exact λf0 k=>zVO rfl rfl (zNL f0 rfl rfl lr rfl rfl rfl) k trivial):G:=h f0 k
theorem yGV (x:AV) (f0:F0) (k:Sq P r E ops rest (S.put d (.cond (gd false b) x)) J) (ha:GdO o ops S E j t d b false:=by exact rfl) (h:F0->b=false->AOp P r E S o d x:=by exact λf0 hb=>by subst hb;exact jT lr f0 rfl):Sq P r E ops (o::rest) S J:=sqf x ha (h f0) k
theorem yGW (f0:F0) (f1:F1) (k:H) (h:F0->F1->H->G:=by exact λf0 f1=>k6 (uU (en:=bA) (off:=0) lr f0 rfl f1 rfl rfl (by decide))):G:=h f0 f1 k
theorem yPP (x:AV) (f0:F0) (k:DA P r E ops rest (S.put d (.cond (gd true b) x)) J) (ha:GdO o ops S E j t d b true:=by exact rfl) (h:F0->b=true->AOp P r E S o d x:=by exact λf0 hb=>by subst hb;exact jT lr f0 rfl):DA P r E ops (o::rest) S J:=dat x ha (h f0) k
theorem yGX (x:AV) (f0:F0) (k:Sq P r E ops rest (S.put d (.cond (gd true b) x)) J) (ha:GdO o ops S E j t d b true:=by exact rfl) (h:F0->b=true->AOp P r E S o d x:=by exact λf0 hb=>by subst hb;exact jT lr f0 rfl):Sq P r E ops (o::rest) S J:=sqt x ha (h f0) k
theorem yGY (f0:F0) (k:H) (h:F0->H->G:=by exact λf0=>k6 (yR5 lr rfl rfl f0)):G:=h f0 k
theorem yGZ (k:H) (h:H->G:=by exact k6 (yR2 lr rfl rfl)):G:=h k
theorem yG0 (x:AV) (k:Sq P r E ops rest (S.put d (.cond (gd true b) x)) J) (ha:GdO o ops S E j t d b true:=by exact rfl) (h:b=true->AOp P r E S o d x:=by exact λhb=>by subst hb;exact z0S lr rfl rfl):Sq P r E ops (o::rest) S J:=sqt x ha h k
theorem yG1 (f0:F0) (k:H) (h:F0->H->G:=by exact λf0=>xd rfl (zQT f0 rfl rfl lr rfl rfl rfl)):G:=h f0 k
theorem yG2 (x:AV) (k:Sq P r E ops rest (S.put d (.cond (gd false b) x)) J) (ha:GdO o ops S E j t d b false:=by exact rfl) (h:b=false->AOp P r E S o d x:=by exact λhb=>by subst hb;exact z0S lr rfl rfl):Sq P r E ops (o::rest) S J:=sqf x ha h k
theorem yG3 (f0:F0) (k:H) (m:I) (h:F0->H->I->G:=by exact λf0=>zDR rfl rfl (zXM lr f0 rfl rfl)):G:=h f0 k m
theorem yG4 (f0:F0) (f1:F1) (k:H) (h:F0->F1->H->G:=by exact λf0 f1=>daa (zL9 lr f0 rfl rfl rfl f1)):G:=h f0 f1 k
theorem yG5 (f0:F0) (f1:F1) (k:H) (h:F0->F1->H->G:=by exact λf0 f1=>daa (zPS lr f0 rfl rfl f1 rfl)):G:=h f0 f1 k
theorem yG6 (k:H) (h:H->G:=by exact k6 (yKF lr rfl)):G:=h k
theorem yG7 (f0:F0) (k:H) (h:F0->H->G:=by exact λf0=>k6 (yKG lr rfl rfl f0)):G:=h f0 k
theorem yUF (k:H) (h:H->G:=by exact daa (z6R lr rfl)):G:=h k
theorem yG8 (x:AV) (f0:F0) (k:Sq P r E ops rest (S.put d (.cond (gd true b) x)) J) (ha:GdO o ops S E j t d b true:=by exact rfl) (h:F0->b=true->AOp P r E S o d x:=by exact λf0 hb=>by subst hb;exact zL6 lr f0 rfl rfl):Sq P r E ops (o::rest) S J:=sqt x ha (h f0) k
theorem yG9 (f0:F0) (k:H) (h:F0->H->G:=by exact λf0 k=>zDR rfl rfl (jT lr f0 rfl) k trivial):G:=h f0 k
theorem yHA (f0:F0) (k:H) (h:F0->H->G:=by exact λf0 k=>zVO rfl rfl (wL [(5,2510)] f0 lr (by decide) ⟨rfl,trivial⟩ rfl rfl trivial rfl rfl rfl (λ_=>rfl) rfl) k trivial):G:=h f0 k
theorem yHB (f0:F0) (k:H) (m:I) (h:F0->H->I->G:=by exact λf0=>zDR rfl rfl (wY lr f0 rfl rfl rfl)):G:=h f0 k m
theorem yHC (f0:F0) (k:H) (h:F0->H->G:=by exact λf0=>k6 (z3B lr f0 rfl)):G:=h f0 k
theorem yHD (x:AV) (f0:F0) (k:Sq P r E ops rest (S.put d (.cond (gd false b) x)) J) (ha:GdO o ops S E j t d b false:=by exact rfl) (h:F0->b=false->AOp P r E S o d x:=by exact λf0 hb=>by subst hb;exact wY lr f0 rfl rfl rfl):Sq P r E ops (o::rest) S J:=sqf x ha (h f0) k
theorem yHE (k:H) (h:H->G:=by exact λk=>zDR rfl rfl (zM6 lr rfl rfl) k trivial):G:=h k
theorem yLI (f0:F0) (f1:F1) (k:H) (h:F0->F1->H->G:=by exact λf0 f1=>daa (yA (en:=aB) (off:=0) lr f0 rfl f1 rfl)):G:=h f0 f1 k
theorem yLJ (k:H) (h:H->G:=by exact daa (zW8 lr rfl rfl)):G:=h k
theorem yLK (f0:F0) (k:H) (h:F0->H->G:=by exact λf0 k=>daa (yCV lr f0 rfl rfl rfl rfl (by decide) rfl) k):G:=h f0 k
theorem yPQ (x:AV) (k:Sq P r E ops rest (S.put d (.cond (gd true b) x)) J) (ha:GdO o ops S E j t d b true:=by exact rfl) (h:b=true->AOp P r E S o d x:=by exact λhb=>by subst hb;exact zTT lr rfl rfl):Sq P r E ops (o::rest) S J:=sqt x ha h k
theorem yLL (k:H) (h:H->G:=by exact k6 (yWC lr rfl rfl)):G:=h k
theorem yLM (k:H) (h:H->G:=by exact zU rfl (yW (zs:=[(.int IntKind.i64 (0)),(.int IntKind.i64 (0)),(.int IntKind.i64 (0))]) lr (by kernel_rfl) rfl rfl)):G:=h k
theorem yPR (x:AV) (k:Sq P r E ops rest (S.put d (.cond (gd false b) x)) J) (ha:GdO o ops S E j t d b false:=by exact rfl) (h:b=false->AOp P r E S o d x:=by exact λhb=>by subst hb;exact zW7 lr rfl rfl):Sq P r E ops (o::rest) S J:=sqf x ha h k
theorem yLN (k:H) (m:I) (h:H->I->G:=by exact xb rfl (yW (zs:=[(.int IntKind.i64 (0)),(.int IntKind.i64 (0)),(.int IntKind.i64 (0))]) lr (by kernel_rfl) rfl rfl)):G:=h k m
theorem yPS (f0:F0) (k:H) (h:F0->H->G:=by exact λf0=>k6 (zM4 lr rfl rfl f0)):G:=h f0 k
theorem yPT (k:H) (h:H->G:=by exact k6 (z96 lr rfl)):G:=h k
theorem yLO (k:H) (h:H->G:=by exact k6 (yWG lr rfl rfl)):G:=h k
theorem yLP (k:H) (h:H->G:=by exact k6 (zLA lr rfl)):G:=h k
theorem yXC (f0:F0) (k:H) (h:F0->H->G:=by exact λf0=>daa (z04 lr f0 rfl)):G:=h f0 k
theorem yPU (k:H) (h:H->G:=by exact daa (zW7 lr rfl rfl)):G:=h k
theorem yPV (k:H) (h:H->G:=by exact k6 (zU5 (size:=5) lr rfl rfl)):G:=h k
theorem yLQ (k:H) (h:H->G:=by exact daa (z6H lr rfl rfl)):G:=h k
theorem yPW (f0:F0) (k:H) (h:F0->H->G:=by exact λf0=>daa (z6I lr f0 rfl)):G:=h f0 k
theorem yLR (f0:F0) (f1:F1) (k:H) (h:F0->F1->H->G:=by exact λf0 f1=>k6 (yA (en:=(eL eI)) (off:=0) lr f0 rfl f1 rfl)):G:=h f0 f1 k
theorem yLS (x:AV) (f0:F0) (k:Sq P r E ops rest (S.put d (.cond (gd true b) x)) J) (ha:GdO o ops S E j t d b true:=by exact rfl) (h:F0->b=true->AOp P r E S o d x:=by exact λf0 hb=>by subst hb;exact yCV lr f0 rfl rfl rfl rfl (by decide) rfl):Sq P r E ops (o::rest) S J:=sqt x ha (h f0) k
theorem yLT (f0:F0) (k:H) (m:I) (h:F0->H->I->G:=by exact λf0=>zVO rfl rfl (wL [(5,2510)] f0 lr (by decide) ⟨rfl,trivial⟩ rfl rfl trivial rfl rfl rfl (λ_=>rfl) rfl)):G:=h f0 k m
theorem yLU (x:AV) (k:Sq P r E ops rest (S.put d (.cond (gd false b) x)) J) (ha:GdO o ops S E j t d b false:=by exact rfl) (h:b=false->AOp P r E S o d x:=by exact λhb=>by subst hb;exact zL8 lr rfl):Sq P r E ops (o::rest) S J:=sqf x ha h k
theorem yLV (x:AV) (f0:F0) (k:Sq P r E ops rest (S.put d (.cond (gd false b) x)) J) (ha:GdO o ops S E j t d b false:=by exact rfl) (h:F0->b=false->AOp P r E S o d x:=by exact λf0 hb=>by subst hb;exact zBS lr f0 rfl):Sq P r E ops (o::rest) S J:=sqf x ha (h f0) k
theorem yLW (f0:F0) (k:H) (h:F0->H->G:=by exact λf0=>daa (zVA lr f0 rfl rfl rfl rfl)):G:=h f0 k
theorem yPX (f0:F0) (f1:F1) (k:H) (h:F0->F1->H->G:=by exact λf0 f1=>daa (uU (en:=aB) (off:=0) lr f0 rfl f1 rfl rfl (by decide))):G:=h f0 f1 k
theorem yPY (f0:F0) (k:H) (h:F0->H->G:=by exact λf0=>daa (zBK lr f0 rfl rfl)):G:=h f0 k
theorem yPZ (k:H) (h:H->G:=by exact k6 (yAA lr rfl rfl)):G:=h k
theorem yP0 (f0:F0) (f1:F1) (k:H) (h:F0->F1->H->G:=by exact λf0 f1=>k6 (uU (en:=b6) (off:=0) lr f0 rfl f1 rfl rfl (by decide))):G:=h f0 f1 k
theorem yP1 (f0:F0) (f1:F1) (k:H) (h:F0->F1->H->G:=by exact λf0 f1=>k6 (uU (en:=aF) (off:=0) lr f0 rfl f1 rfl rfl (by decide))):G:=h f0 f1 k
theorem yUG (k:H) (h:H->G:=by exact daa (z0R lr rfl rfl)):G:=h k
theorem yP2 (f0:F0) (f1:F1) (k:H) (h:F0->F1->H->G:=by exact λf0 f1=>daa (zR9 lr f0 rfl rfl rfl f1)):G:=h f0 f1 k
theorem yP3 (x:AV) (f0:F0) (k:DA P r E ops rest (S.put d (.cond (gd false b) x)) J) (ha:GdO o ops S E j t d b false:=by exact rfl) (h:F0->b=false->AOp P r E S o d x:=by exact λf0 hb=>by subst hb;exact zAA lr f0 rfl):DA P r E ops (o::rest) S J:=daf x ha (h f0) k
theorem yP4 (f0:F0) (k:H) (h:F0->H->G:=by exact λf0=>xc rfl (zL6 lr f0 rfl rfl)):G:=h f0 k
theorem yP5 (k:H) (h:H->G:=by exact zU rfl (yW (zs:=[(.slice none 0 0),(.slice none 0 0),(.slice none 0 0),(.slice none 0 0)]) lr (by kernel_rfl) rfl rfl)):G:=h k
theorem yP6 (f0:F0) (f1:F1) (k:H) (h:F0->F1->H->G:=by exact λf0 f1=>k6 (zT4 lr f0 rfl rfl f1)):G:=h f0 f1 k
theorem yP7 (k:H) (h:H->G:=by exact k6 (yWO lr rfl rfl)):G:=h k
section
variable {l:List Oper} {fl:List (Nat×Nat)} {fuel:Nat} {listed:List Bool}
theorem yn0 (is:List Nat) (k:AnyG P r E l J fl fuel listed S is) (h:FlA P r E l S fl:=by exact(fa (ff rfl rfl (yV lr O39 rfl rfl) rfl)<|fa (ff rfl rfl (yV lr O39 rfl rfl) rfl)<|fz)) (q1:r=none:=by rfl) (q2:zLO l fl=true:=by kernel_rfl) (q3:zKZ l fl listed=true:=by kernel_rfl) (q4:rdy l listed=is:=by kernel_rfl) (q5:is.isEmpty=false:=by rfl):AnyF P r E l J fl (fuel+1) listed S:=yGA _ h k q1 q2 q3 q4 q5
theorem ye0 (k:J S) (h:FlA P r E l S fl:=by exact(fa (ff rfl rfl (yV lr O39 rfl rfl) rfl)<|fa (ff rfl rfl (yV lr O39 rfl rfl) rfl)<|fz)) (q1:r=none:=by rfl) (q2:zLO l fl=true:=by kernel_rfl) (q3:zKZ l fl listed=true:=by kernel_rfl) (q4:rdy l listed= []:=by kernel_rfl):AnyF P r E l J fl fuel listed S:=zXP h k q1 q2 q3 q4
theorem yn1 (is:List Nat) (k:AnyG P r E l J fl fuel listed S is) (h:FlA P r E l S fl:=by exact(fa (ff rfl rfl (yV lr O23 rfl rfl) rfl)<|fa (ff rfl rfl (yV lr O22 rfl rfl) rfl)<|fz)) (q1:r=none:=by rfl) (q2:zLO l fl=true:=by kernel_rfl) (q3:zKZ l fl listed=true:=by kernel_rfl) (q4:rdy l listed=is:=by kernel_rfl) (q5:is.isEmpty=false:=by rfl):AnyF P r E l J fl (fuel+1) listed S:=yGA _ h k q1 q2 q3 q4 q5
theorem yn2 (is:List Nat) (k:AnyG P r E l J fl fuel listed S is) (h:FlA P r E l S fl:=by exact(fa (ff rfl rfl (yV lr O24 rfl rfl) rfl)<|fa (ff rfl rfl (yV lr O23 rfl rfl) rfl)<|fa (ff rfl rfl (yV lr O22 rfl rfl) rfl)<|fz)) (q1:r=none:=by rfl) (q2:zLO l fl=true:=by kernel_rfl) (q3:zKZ l fl listed=true:=by kernel_rfl) (q4:rdy l listed=is:=by kernel_rfl) (q5:is.isEmpty=false:=by rfl):AnyF P r E l J fl (fuel+1) listed S:=yGA _ h k q1 q2 q3 q4 q5
theorem ye2 (k:J S) (h:FlA P r E l S fl:=by exact(fa (ff rfl rfl (yV lr O24 rfl rfl) rfl)<|fa (ff rfl rfl (yV lr O23 rfl rfl) rfl)<|fa (ff rfl rfl (yV lr O22 rfl rfl) rfl)<|fz)) (q1:r=none:=by rfl) (q2:zLO l fl=true:=by kernel_rfl) (q3:zKZ l fl listed=true:=by kernel_rfl) (q4:rdy l listed= []:=by kernel_rfl):AnyF P r E l J fl fuel listed S:=zXP h k q1 q2 q3 q4
theorem yn3 (is:List Nat) (k:AnyG P r E l J fl fuel listed S is) (h:FlA P r E l S fl:=by exact(fa (ff rfl rfl (yV lr O74 rfl rfl) rfl)<|fa (ff rfl rfl (yV lr O73 rfl rfl) rfl)<|fa (ff rfl rfl (yV lr O73 rfl rfl) rfl)<|fa (ff rfl rfl (yV lr O73 rfl rfl) rfl)<|fz)) (q1:r=none:=by rfl) (q2:zLO l fl=true:=by kernel_rfl) (q3:zKZ l fl listed=true:=by kernel_rfl) (q4:rdy l listed=is:=by kernel_rfl) (q5:is.isEmpty=false:=by rfl):AnyF P r E l J fl (fuel+1) listed S:=yGA _ h k q1 q2 q3 q4 q5
theorem ye3 (k:J S) (h:FlA P r E l S fl:=by exact(fa (ff rfl rfl (yV lr O74 rfl rfl) rfl)<|fa (ff rfl rfl (yV lr O73 rfl rfl) rfl)<|fa (ff rfl rfl (yV lr O73 rfl rfl) rfl)<|fa (ff rfl rfl (yV lr O73 rfl rfl) rfl)<|fz)) (q1:r=none:=by rfl) (q2:zLO l fl=true:=by kernel_rfl) (q3:zKZ l fl listed=true:=by kernel_rfl) (q4:rdy l listed= []:=by kernel_rfl):AnyF P r E l J fl fuel listed S:=zXP h k q1 q2 q3 q4
theorem yn4 (is:List Nat) (k:AnyG P r E l J fl fuel listed S is) (h:FlA P r E l S fl:=by exact(fa (ff rfl rfl (wY lr O3 rfl rfl rfl) rfl)<|fa (ff rfl rfl ((zB4 (n:=2) lr G43 rfl rfl rfl rfl).data rfl) rfl)<|fa (ff rfl rfl ((zB4 (n:=2) lr G43 rfl rfl rfl rfl).data rfl) rfl)<|fz)) (q1:r=none:=by rfl) (q2:zLO l fl=true:=by kernel_rfl) (q3:zKZ l fl listed=true:=by kernel_rfl) (q4:rdy l listed=is:=by kernel_rfl) (q5:is.isEmpty=false:=by rfl):AnyF P r E l J fl (fuel+1) listed S:=yGA _ h k q1 q2 q3 q4 q5
theorem ye4 (k:J S) (h:FlA P r E l S fl:=by exact(fa (ff rfl rfl (wY lr O3 rfl rfl rfl) rfl)<|fa (ff rfl rfl ((zB4 (n:=2) lr G43 rfl rfl rfl rfl).data rfl) rfl)<|fa (ff rfl rfl ((zB4 (n:=2) lr G43 rfl rfl rfl rfl).data rfl) rfl)<|fz)) (q1:r=none:=by rfl) (q2:zLO l fl=true:=by kernel_rfl) (q3:zKZ l fl listed=true:=by kernel_rfl) (q4:rdy l listed= []:=by kernel_rfl):AnyF P r E l J fl fuel listed S:=zXP h k q1 q2 q3 q4
theorem yn5 (is:List Nat) (k:AnyG P r E l J fl fuel listed S is) (h:FlA P r E l S fl:=by exact(fz)) (q1:r=none:=by rfl) (q2:zLO l fl=true:=by kernel_rfl) (q3:zKZ l fl listed=true:=by kernel_rfl) (q4:rdy l listed=is:=by kernel_rfl) (q5:is.isEmpty=false:=by rfl):AnyF P r E l J fl (fuel+1) listed S:=yGA _ h k q1 q2 q3 q4 q5
theorem ye5 (k:J S) (h:FlA P r E l S fl:=by exact(fz)) (q1:r=none:=by rfl) (q2:zLO l fl=true:=by kernel_rfl) (q3:zKZ l fl listed=true:=by kernel_rfl) (q4:rdy l listed= []:=by kernel_rfl):AnyF P r E l J fl fuel listed S:=zXP h k q1 q2 q3 q4
end
end
section
variable {G H:Prop} (k:H)
include k
theorem Q0 (h:H->G:=by intro k;apply zQ _;exact xM k):G:=h k
theorem Q1 (h:H->G:=by intro k;apply q1 _;exact zF k):G:=h k
theorem Q2 (h:H->G:=by intro k;apply Q0 _;exact q0 k):G:=h k
theorem Q3 (h:H->G:=by intro k;apply Q0 _;exact Q1 k):G:=h k
theorem Q4 (h:H->G:=by intro k;apply zQ _;exact Q2 k):G:=h k
theorem Q5 (h:H->G:=by intro k;apply zH _;exact zQ k):G:=h k
theorem Q6 (h:H->G:=by intro k;apply q3 _;exact zF k):G:=h k
theorem Q7 (h:H->G:=by intro k;apply q0 _;exact zF k):G:=h k
theorem Q8 (h:H->G:=by intro k;apply q1 _;exact Q1 k):G:=h k
theorem Q9 (h:H->G:=by intro k;apply xM _;exact q0 k):G:=h k
theorem Q10 (h:H->G:=by intro k;apply Q5 _;exact kV k):G:=h k
theorem Q11 (h:H->G:=by intro k;apply q15 _;exact zF k):G:=h k
theorem Q12 (h:H->G:=by intro k;apply zQ _;exact Q0 k):G:=h k
theorem Q13 (h:H->G:=by intro k;apply Q2 _;exact q0 k):G:=h k
theorem Q14 (h:H->G:=by intro k;apply Q0 _;exact Q6 k):G:=h k
theorem Q15 (h:H->G:=by intro k;apply Q14 _;exact zQ k):G:=h k
theorem Q16 (h:H->G:=by intro k;apply Q4 _;exact q0 k):G:=h k
theorem Q17 (h:H->G:=by intro k;apply q2 _;exact Q1 k):G:=h k
theorem Q18 (h:H->G:=by intro k;apply xM _;exact q2 k):G:=h k
theorem Q19 (h:H->G:=by intro k;apply Q18 _;exact Q7 k):G:=h k
theorem Q20 (h:H->G:=by intro k;apply Q7 _;exact kV k):G:=h k
theorem Q21 (h:H->G:=by intro k;apply Q9 _;exact Q17 k):G:=h k
theorem Q22 (h:H->G:=by intro k;apply Q0 _;exact q14 k):G:=h k
theorem Q23 (h:H->G:=by intro k;apply Q3 _;exact zK k):G:=h k
theorem Q24 (h:H->G:=by intro k;apply Q3 _;exact kV k):G:=h k
theorem Q25 (h:H->G:=by intro k;apply Q3 _;exact Q4 k):G:=h k
theorem Q26 (h:H->G:=by intro k;apply q0 _;exact q0 k):G:=h k
theorem Q27 (h:H->G:=by intro k;apply Q0 _;exact q11 k):G:=h k
theorem Q28 (h:H->G:=by intro k;apply q22 _;exact Q1 k):G:=h k
theorem Q29 (h:H->G:=by intro k;apply Q2 _;exact Q1 k):G:=h k
theorem Q30 (h:H->G:=by intro k;apply xM _;exact q11 k):G:=h k
theorem Q31 (h:H->G:=by intro k;apply Q10 _;exact Q0 k):G:=h k
theorem Q32 (h:H->G:=by intro k;apply zH _;exact Q0 k):G:=h k
theorem Q33 (h:H->G:=by intro k;apply q17 _;exact q17 k):G:=h k
theorem Q34 (h:H->G:=by intro k;apply yn0 [10] _;exact q25 yGM k):G:=h k
theorem Q35 (h:H->G:=by intro k;apply Q34 _;exact ye0 k):G:=h k
theorem Q36 (h:H->G:=by intro k;apply q21 _;exact zF k):G:=h k
theorem Q37 (h:H->G:=by intro k;apply zQ _;exact kV k):G:=h k
theorem Q38 (h:H->G:=by intro k;apply zQ _;exact Q24 k):G:=h k
theorem Q39 (h:H->G:=by intro k;apply q19 _;exact zF k):G:=h k
theorem Q40 (h:H->G:=by intro k;apply Q1 _;exact Q2 k):G:=h k
theorem Q41 (h:H->G:=by intro k;apply q31 _;exact zF k):G:=h k
theorem Q42 (h:H->G:=by intro k;apply q43 _;exact Q33 k):G:=h k
theorem Q43 (h:H->G:=by intro k;apply Q0 _;exact q39 k):G:=h k
theorem Q44 (h:H->G:=by intro k;apply q9 _;exact q9 k):G:=h k
theorem Q45 (h:H->G:=by intro k;apply q29 _;exact zF k):G:=h k
theorem Q46 (h:H->G:=by intro k;apply xn [12] _;exact q24 u7 k):G:=h k
theorem Q47 (h:H->G:=by intro k;apply yn0 [8] _;exact q48 zO1 k):G:=h k
theorem Q48 (h:H->G:=by intro k;apply Q47 _;exact Q35 k):G:=h k
theorem Q49 (h:H->G:=by intro k;apply Q1 _;exact Q0 k):G:=h k
theorem Q50 (h:H->G:=by intro k;apply zH _;exact Q21 k):G:=h k
theorem Q51 (h:H->G:=by intro k;apply q19 _;exact Q1 k):G:=h k
theorem Q52 (h:H->G:=by intro k;apply Q0 _;exact Q8 k):G:=h k
theorem Q53 (h:H->G:=by intro k;apply Q22 _;exact q18 k):G:=h k
theorem Q54 (h:H->G:=by intro k;apply q51 _;exact q52 k):G:=h k
theorem Q55 (h:H->G:=by intro k;apply q14 _;exact q18 k):G:=h k
theorem Q56 (h:H->G:=by intro k;apply zH _;exact Q19 k):G:=h k
theorem Q57 (h:H->G:=by intro k;apply xn [11] _;exact q24 u7 k):G:=h k
theorem Q58 (h:H->G:=by intro k;apply Q57 _;exact Q46 k):G:=h k
theorem Q59 (h:H->G:=by intro k;apply q53 _;exact zF k):G:=h k
theorem Q60 (h:H->G:=by intro k;apply Q0 _;exact Q28 k):G:=h k
theorem Q61 (h:H->G:=by intro k;apply zF _;exact Q0 k):G:=h k
theorem Q62 (h:H->G:=by intro k;apply Q3 _;exact Q2 k):G:=h k
theorem Q63 (h:H->G:=by intro k;apply q47 _;exact wZ k):G:=h k
theorem Q64 (h:H->G:=by intro k;apply Q42 _;exact Q8 k):G:=h k
theorem Q65 (h:H->G:=by intro k;apply yn2 [13] _;exact q63 G28 k):G:=h k
theorem Q66 (h:H->G:=by intro k;apply Q65 _;exact ye2 k):G:=h k
theorem Q67 (h:H->G:=by intro k;apply Q4 _;exact zF k):G:=h k
theorem Q68 (h:H->G:=by intro k;apply zH _;exact Q3 k):G:=h k
theorem Q69 (h:H->G:=by intro k;apply q6 yP _;exact Q20 k):G:=h k
theorem Q70 (h:H->G:=by intro k;apply Q9 _;exact q0 k):G:=h k
theorem Q71 (h:H->G:=by intro k;apply yn2 [11] _;exact q77 B28 k):G:=h k
theorem Q72 (h:H->G:=by intro k;apply Q71 _;exact Q66 k):G:=h k
theorem Q73 (h:H->G:=by intro k;apply Q16 _;exact q6 S23 k):G:=h k
theorem Q74 (h:H->G:=by intro k;apply Q1 _;exact Q12 k):G:=h k
theorem Q75 (h:H->G:=by intro k;apply yn4 [23] _;exact q25 G59 k):G:=h k
theorem Q76 (h:H->G:=by intro k;apply Q75 _;exact ye4 k):G:=h k
theorem Q77 (h:H->G:=by intro k;apply Q10 _;exact Q13 k):G:=h k
theorem Q78 (h:H->G:=by intro k;apply Q73 _;exact Q6 k):G:=h k
theorem Q79 (h:H->G:=by intro k;apply Q27 _;exact Q11 k):G:=h k
theorem Q80 (h:H->G:=by intro k;apply q1 _;exact Q8 k):G:=h k
theorem Q81 (h:H->G:=by intro k;apply Q5 _;exact Q0 k):G:=h k
theorem Q82 (h:H->G:=by intro k;apply kV _;exact Q0 k):G:=h k
theorem Q83 (h:H->G:=by intro k;apply Q11 _;exact zK k):G:=h k
theorem Q84 (h:H->G:=by intro k;apply Q1 _;exact Q4 k):G:=h k
theorem Q85 (h:H->G:=by intro k;apply yn2 [10] _;exact q64 B26 k):G:=h k
theorem Q86 (h:H->G:=by intro k;apply Q85 _;exact Q72 k):G:=h k
theorem Q87 (h:H->G:=by intro k;apply q13 G59 _;exact zF k):G:=h k
theorem Q88 (h:H->G:=by intro k;apply Q3 _;exact Q38 k):G:=h k
theorem Q89 (h:H->G:=by intro k;apply q0 _;exact q30 yP k):G:=h k
theorem Q90 (h:H->G:=by intro k;apply zH _;exact Q2 k):G:=h k
theorem Q91 (h:H->G:=by intro k;apply q50 _;exact q50 k):G:=h k
theorem Q92 (h:H->G:=by intro k;apply Q0 _;exact q72 k):G:=h k
theorem Q93 (h:H->G:=by intro k;apply Q16 _;exact Q6 k):G:=h k
theorem Q94 (h:H->G:=by intro k;apply zH _;exact Q4 k):G:=h k
theorem Q95 (h:H->G:=by intro k;apply q22 _;exact zF k):G:=h k
theorem Q96 (h:H->G:=by intro k;apply q62 O39 _;exact zF k):G:=h k
theorem Q97 (h:H->G:=by intro k;apply kV _;exact Q37 k):G:=h k
theorem Q98 (h:H->G:=by intro k;apply Q22 _;exact Q55 k):G:=h k
theorem Q99 (h:H->G:=by intro k;apply q1 _;exact Q87 k):G:=h k
theorem yUK (h:H->G:=by intro k;apply q8 zEB _;exact q7 O24 k):G:=h k
theorem zVR (h:H->G:=by intro k;apply Q10 _;exact zQ k):G:=h k
theorem zVS (h:H->G:=by intro k;apply q35 _;exact Q1 k):G:=h k
theorem zVT (h:H->G:=by intro k;apply q54 _;exact Q58 k):G:=h k
theorem zVU (h:H->G:=by intro k;apply Q97 _;exact zQ k):G:=h k
theorem zVV (h:H->G:=by intro k;apply q95 _;exact Q91 k):G:=h k
theorem yZA (h:H->G:=by intro k;apply yn4 [22] _;exact q65 k):G:=h k
theorem zVW (h:H->G:=by intro k;apply yZA _;exact Q76 k):G:=h k
theorem zX2 (h:H->G:=by intro k;apply Q43 _;exact Q49 k):G:=h k
theorem zZZ (h:H->G:=by intro k;apply yUK _;exact q6 S24 k):G:=h k
theorem zZ0 (h:H->G:=by intro k;apply q8 zJD _;exact q7 O3 k):G:=h k
theorem z3Z (h:H->G:=by intro k;apply Q40 _;exact Q41 k):G:=h k
theorem z30 (h:H->G:=by intro k;apply Q9 _;exact Q1 k):G:=h k
theorem z31 (h:H->G:=by intro k;apply Q1 _;exact zQ k):G:=h k
theorem z32 (h:H->G:=by intro k;apply kV _;exact Q13 k):G:=h k
theorem zZ1 (h:H->G:=by intro k;apply Q27 _;exact Q26 k):G:=h k
theorem zZ2 (h:H->G:=by intro k;apply q8 zSL _;exact q7 O23 k):G:=h k
theorem zZ3 (h:H->G:=by intro k;apply q7 O73 _;exact q6 S73 k):G:=h k
theorem z7U (h:H->G:=by intro k;apply Q3 _;exact zQ k):G:=h k
theorem zZ4 (h:H->G:=by intro k;apply Q12 _;exact Q28 k):G:=h k
theorem z33 (h:H->G:=by intro k;apply Q0 _;exact q94 k):G:=h k
theorem z34 (h:H->G:=by intro k;apply Q30 _;exact Q26 k):G:=h k
theorem z35 (h:H->G:=by intro k;apply zF _;exact kV k):G:=h k
theorem yL0 (h:H->G:=by intro k;apply q40 _;exact zF k):G:=h k
theorem z36 (h:H->G:=by intro k;apply kV _;exact Q2 k):G:=h k
theorem z7V (h:H->G:=by intro k;apply q68 O3 _;exact zF k):G:=h k
theorem yXD (h:H->G:=by intro k;apply Q64 _;exact Q2 k):G:=h k
theorem z37 (h:H->G:=by intro k;apply q1 _;exact q49 k):G:=h k
theorem z7W (h:H->G:=by intro k;apply q83 _;exact Q1 k):G:=h k
theorem z7X (h:H->G:=by intro k;apply q6 yP _;exact Q6 k):G:=h k
theorem z7Y (h:H->G:=by intro k;apply Q3 _;exact Q13 k):G:=h k
theorem yBO (h:H->G:=by intro k;apply q47 _;exact Q63 k):G:=h k
theorem yBP (h:H->G:=by intro k;apply Q10 _;exact Q2 k):G:=h k
theorem z7Z (h:H->G:=by intro k;apply q13 G26 _;exact zF k):G:=h k
theorem yBQ (h:H->G:=by intro k;apply Q0 _;exact yXB k):G:=h k
theorem yBR (h:H->G:=by intro k;apply xm 0 _;exact xm 1 k):G:=h k
theorem z71 (h:H->G:=by intro k;apply q6 S23 _;exact Q20 k):G:=h k
theorem yZB (h:H->G:=by intro k;apply yY3 _;exact q13 G81 k):G:=h k
theorem z72 (h:H->G:=by intro k;apply yZB _;exact zF k):G:=h k
theorem yBS (h:H->G:=by intro k;apply Q1 _;exact Q13 k):G:=h k
theorem yHO (h:H->G:=by intro k;apply zF _;exact Q19 k):G:=h k
theorem z73 (h:H->G:=by intro k;apply Q64 _;exact Q4 k):G:=h k
theorem z74 (h:H->G:=by intro k;apply yXD _;exact zF k):G:=h k
theorem z75 (h:H->G:=by intro k;apply zF _;exact Q12 k):G:=h k
theorem z78 (h:H->G:=by intro k;apply Q4 _;exact Q69 k):G:=h k
theorem yL1 (h:H->G:=by intro k;apply yY4 _;exact wZ k):G:=h k
theorem yBT (h:H->G:=by intro k;apply kV _;exact zQ k):G:=h k
theorem yHP (h:H->G:=by intro k;apply q2 _;exact q0 k):G:=h k
theorem yHQ (h:H->G:=by intro k;apply Q30 _;exact q0 k):G:=h k
theorem yBU (h:H->G:=by intro k;apply q49 _;exact q13 zSK k):G:=h k
theorem yBV (h:H->G:=by intro k;apply q98 _;exact q9 k):G:=h k
theorem yZC (h:H->G:=by intro k;apply q2 _;exact q61 Tryz.underlying3 Tryz.underlying171 k):G:=h k
theorem yZD (h:H->G:=by intro k;apply yZC _;exact q97 k):G:=h k
theorem yHR (h:H->G:=by intro k;apply yZD _;exact q61 Tryz.underlying171 Tryz.underlying3 k):G:=h k
theorem yHS (h:H->G:=by intro k;apply xM _;exact q14 k):G:=h k
theorem yBW (h:H->G:=by intro k;apply Q12 _;exact Q55 k):G:=h k
theorem yZE (h:H->G:=by intro k;apply yn3 [20] _;exact yY5 k):G:=h k
theorem yZF (h:H->G:=by intro k;apply yZE _;exact yn3 [21] k):G:=h k
theorem yZG (h:H->G:=by intro k;apply yZF _;exact yY6 z3L k):G:=h k
theorem yZH (h:H->G:=by intro k;apply yZG _;exact yn3 [22] k):G:=h k
theorem yZI (h:H->G:=by intro k;apply yZH _;exact yY7 O29 k):G:=h k
theorem yBX (h:H->G:=by intro k;apply yZI _;exact ye3 k):G:=h k
theorem yBY (h:H->G:=by intro k;apply Q54 _;exact q32 zO6 k):G:=h k
end
theorem yDQ:∀args w,(callMethod (.iface 266 (.agg #[])) "unicodetext/convert.step" args).run Tryz.prog w=(callFunc 250 (#[.agg #[]]++args)).run Tryz.prog w:=yKM λ_=>by kernel_rfl
theorem zZ5 {a0 r} (h:zLF a0=some r):zB Tryz.prog 20 [(zJ aH a0)] [(db r)]:=by refine co Tryz.func20 ?_;intro _ _ _ _;unfold zLF at h;apply Q62 _;apply q6 S22 _;apply z7W _;exact er h
theorem zZ6 {a0 r} (h:zIN a0=some r):zB Tryz.prog 21 [(zJ aB a0)] [(db r)]:=by
 refine co Tryz.func21 ?_;intro _ _ _ _;unfold zIN at h;apply Q88 _;have ⟨O,k,h⟩:=bE h;apply zT O (.exit 0) (λO=>⟨[(0,.d (zJ aB a0))],[]⟩) .ret (λO=>⟨[(2,.d (db O))],[]⟩) _ _ _;apply zD (λx=>⟨[(0,.d (zJ aB a0)),(3,.d (di x))],[]⟩) k wc _
 rintro K T D
 replace D:zCW a0 K=some T:=D;unfold zCW at D;apply Q73 _;apply q3 _;have ⟨_,k,D⟩:=bE D;apply q4 k _;apply q16 (.d (di K)) _;apply q84 (.d (db (decide (K<30)))) _;apply Q39 _;apply zX D (λD=>?_) (λD=>?_);apply Q77 _;have ⟨_,k,D⟩:=bE D;apply q12 S23 k _;apply q66 zFL _;apply z7P O39 k _;apply q6 yP _;apply q53 _;have ⟨_,k,D⟩:=bE D;apply q4 k _;apply q28 (.d (zJ aB a0)) _;apply q28 (.d (di K)) _;have ⟨G,H,D⟩:=bE D;refine sqf (.ip (aB.all a0) (K.toNat*aB.size)) rfl (λhb=>by subst hb;exact jB (en:=aB) lr S23 rfl rfl H) ?_
 apply yGV (.ip (aB.all a0) (K.toNat*aB.size+2)) zG4 _;refine sqf (.d (ds G.bU)) rfl (λhb=>by subst hb;exact yA (en:=aB) (l:=a0) (i:=K) (v:=G) (off:=2) lr O9 rfl H rfl) ?_
 refine sqf (.d (di (G.bU.length:Int))) rfl (λhb=>by subst hb;exact zT1 (s:=G.bU) lr Tryz.underlying9 rfl) ?_
 apply q55 (.d (db (decide (40<(G.bU.length:Int))))) _;apply Q36 _;apply zX D (λD=>?_) (λD=>?_);apply Q23 _;cases D;intro q;cases q;exact⟨rfl,wc⟩;apply Q50 _;exact ew D;apply zC _;cases D;intro q;cases q;exact⟨rfl,wc⟩
 rintro O rfl
 replace h:=eL h;apply Q2 _;apply q6 S23 _;apply z7W _;exact er h
 rintro O rfl
 replace h:=eR h;exact es h
theorem zQ1 {a0 r} (h:zGY a0=some r):zB Tryz.prog 22 [(bA.dv a0)] [(db r)]:=by refine co Tryz.func22 ?_;intro _ _ _ _;unfold zGY at h;apply Q92 _;apply Q49 _;apply zZZ _;apply z7W _;exact er h
theorem zZ7 {a0 r} (h:zIO a0=some r):zB Tryz.prog 4 [(aU.dv a0)] [(db r)]:=by
 refine co Tryz.func4 ?_;intro _ _ _ _;unfold zIO at h;apply zX2 _;apply q8 zMC _;apply q7 O22 _;have ⟨_,k,h⟩:=bE h;apply q5 (zZ5 k) _;have ⟨_,k,h⟩:=bE h;apply q4 k _;apply q70 (.ip (aU.cells a0) (0+1)) zSL _;apply q73 (.d (zJ aB a0.aA)) O23 _;have ⟨K,G,h⟩:=bE h;refine sqt (.d (db K)) rfl (λhb=>by subst hb;exact wA lr rfl (zZ6 G)) ?_
 apply q19 _;have ⟨_,k,h⟩:=bE h;apply q4 k _;apply q70 (.ip (aU.cells a0) (0+2)) z7L _;refine sqt (.d (bA.dv a0.aL)) rfl (λhb=>by subst hb;exact zGH lr G26 rfl rfl rfl) ?_
 have ⟨H,D,h⟩:=bE h;refine sqt (.d (db H)) rfl (λhb=>by subst hb;exact wA lr rfl (zQ1 D)) ?_
 apply Q51 _;exact er h
theorem zNC {a0 r} (h:zCE a0=some r):zB Tryz.prog 23 [(zJ bA a0)] [(db r)]:=by
 refine co Tryz.func23 ?_;intro _ _ _ _;unfold zCE at h;apply Q88 _;have ⟨G,k,h⟩:=bE h;apply zT G (.exit 0) (λG=>⟨[(0,.d (zJ bA a0))],[]⟩) .ret (λG=>⟨[(2,.d (db G))],[]⟩) _ _ _;apply zD (λx=>⟨[(0,.d (zJ bA a0)),(3,.d (di x))],[]⟩) k wc _
 rintro K H D
 replace D:zEF a0 K=some H:=D;unfold zEF at D;apply Q16 _;apply q6 S73 _;apply q3 _;have ⟨_,k,D⟩:=bE D;apply q4 k _;apply q16 (.d (di K)) _;apply q84 (.d (db (decide (K<20)))) _;apply Q39 _;apply zX D (λD=>?_) (λD=>?_);apply Q77 _;have ⟨_,k,D⟩:=bE D;apply q12 S73 k _;apply yGW G26 k _;have ⟨_,k,D⟩:=bE D;apply q5 (zQ1 k) _;apply Q45 _;apply zX D (λD=>?_) (λD=>?_);apply Q23 _;cases D;intro q;cases q;exact⟨rfl,wc⟩;apply Q50 _;exact ew D;apply zC _;cases D;intro q;cases q;exact⟨rfl,wc⟩
 rintro G rfl
 replace h:=eL h;apply Q2 _;apply q6 S73 _;apply z7W _;exact er h
 rintro G rfl
 replace h:=eR h;exact es h
theorem zZ8 {a0 r} (h:zIP a0=some r):zB Tryz.prog 5 [(zJ aC a0)] [(db r)]:=by
 refine co Tryz.func5 ?_;intro _ _ _ _;unfold zIP at h;apply Q88 _;have ⟨Z,k,h⟩:=bE h;apply zT Z (.exit 0) (λZ=>⟨[(0,.d (zJ aC a0))],[]⟩) .ret (λZ=>⟨[(2,.d (db Z))],[]⟩) _ _ _;apply zD (λx=>⟨[(0,.d (zJ aC a0)),(3,.d (di x))],[]⟩) k wc _
 rintro G ai D
 replace D:zCX a0 G=some ai:=D;unfold zCX at D;apply Q16 _;apply q6 S29 _;apply q3 _;have ⟨_,k,D⟩:=bE D;apply q4 k _;apply q16 (.d (di G)) _;apply q84 (.d (db (decide (G<10)))) _;apply Q39 _;apply zX D (λD=>?_) (λD=>?_);apply Q77 _;have ⟨aj,k,D⟩:=bE D;apply q12 S29 k _;apply q66 zSM _;apply k6 (yA (en:=aC) (l:=a0) (i:=G) (v:=aj) (off:=0) lr O73 rfl k rfl) _;have ⟨_,k,D⟩:=bE D;apply q5 (zNC k) _;apply q29 _;have ⟨_,k,D⟩:=bE D;apply q4 k _;apply q28 (.d (zJ aC a0)) _;apply q28 (.d (di G)) _;have ⟨ac,K,D⟩:=bE D;refine sqf (.ip (aC.all a0) (G.toNat*aC.size)) rfl (λhb=>by subst hb;exact jB (en:=aC) lr S29 rfl rfl K) ?_
 apply yGV (.ip (aC.all a0) (G.toNat*aC.size+1)) zKH _;refine sqf (.d (zJ bA ac.aX)) rfl (λhb=>by subst hb;exact yA (en:=aC) (l:=a0) (i:=G) (v:=ac) (off:=1) lr O73 rfl K rfl) ?_
 have ⟨ad,aa,D⟩:=bE D;refine sqf (.d (db ad)) rfl (λhb=>by subst hb;exact wA lr rfl (zNC aa)) ?_
 apply q88 (.d (db (!ad))) _;apply q21 _;have ⟨_,k,D⟩:=bE D;apply q4 k _;apply q28 (.d (zJ aC a0)) _;apply q28 (.d (di G)) _;have ⟨ag,O,D⟩:=bE D;refine sqf (.ip (aC.all a0) (G.toNat*aC.size)) rfl (λhb=>by subst hb;exact jB (en:=aC) lr S29 rfl rfl O) ?_
 apply yGV (.ip (aC.all a0) (G.toNat*aC.size+2)) zSN _;refine sqf (.d (zJ bA ag.bP)) rfl (λhb=>by subst hb;exact yA (en:=aC) (l:=a0) (i:=G) (v:=ag) (off:=2) lr O73 rfl O rfl) ?_
 have ⟨ah,ab,D⟩:=bE D;refine sqf (.d (db ah)) rfl (λhb=>by subst hb;exact wA lr rfl (zNC ab)) ?_
 apply q88 (.d (db (!ah))) _;apply q21 _;have ⟨_,k,D⟩:=bE D;apply q4 k _;apply q28 (.d (zJ aC a0)) _;apply q28 (.d (di G)) _;have ⟨H,T,D⟩:=bE D;refine sqf (.ip (aC.all a0) (G.toNat*aC.size)) rfl (λhb=>by subst hb;exact jB (en:=aC) lr S29 rfl rfl T) ?_
 apply yGV (.ip (aC.all a0) (G.toNat*aC.size+3)) zSO _;refine sqf (.d (zJ b6 H.Result)) rfl (λhb=>by subst hb;exact yA (en:=aC) (l:=a0) (i:=G) (v:=H) (off:=3) lr O74 rfl T rfl) ?_
 apply q74 (.d (di (H.Result.length:Int))) S74 _;apply q55 (.d (db (decide (20<(H.Result.length:Int))))) _;apply Q36 _;apply zX D (λD=>?_) (λD=>?_);apply Q23 _;cases D;intro q;cases q;exact⟨rfl,wc⟩;apply Q50 _;exact ew D;apply zC _;cases D;intro q;cases q;exact⟨rfl,wc⟩
 rintro Z rfl
 replace h:=eL h;apply Q2 _;apply q6 S29 _;apply z7W _;exact er h
 rintro Z rfl
 replace h:=eR h;exact es h
theorem zCN {a0 r} (h:zAY a0=some r):zB Tryz.prog 63 [(di a0)] [(db r)]:=by refine co Tryz.func63 ?_;intro _ _ _ _;unfold zAY at h;apply Q62 _;apply q40 _;have ⟨_,k,h⟩:=bE h;apply q4 k _;apply q16 (.d (di a0)) _;apply q60 (.d (db (decide (a0<=1114111)))) _;apply Q51 _;exact er h
theorem zX3 {r} (h:ref20_hangul=some r):zB Tryz.prog 64 [] [(zJ aF r)]:=by refine co Tryz.func64 ?_;intro _ _ _ _;unfold ref20_hangul at h;apply Q3 _;apply Q0 _;apply q41 zXW _;apply q41 zXW _;apply q41 zXW _;apply q41 zXW _;apply q30 S24 _;apply Q1 _;exact er h
theorem zQ2 {a0 r} (h:zGZ a0=some r):zB Tryz.prog 24 [(zJ aH a0)] [(di r)]:=by
 refine co Tryz.func24 ?_;intro _ _ _ _;unfold zGZ at h;apply Q88 _;have ⟨y1,k,h⟩:=bE h;apply zT y1 (.exit 0) (λy1=>⟨[(0,.d (zJ aH a0))],[]⟩) .ret (λy1=>⟨[(2,.d (di y1))],[]⟩) _ _ _;apply zD (λx=>⟨[(0,.d (zJ aH a0)),(3,.d (di x))],[]⟩) k wc _
 rintro Z bn G
 replace G:zCY a0 Z=some bn:=G;unfold zCY at G;apply Q16 _;apply q6 S22 _;apply Q6 _;apply zX G (λG=>?_) (λG=>?_);apply zVR _;apply yH MX rfl _;apply Q44 _;have ⟨br,k,G⟩:=bE G;apply q36 S22 k _;apply q78 zI7 _;apply daa (yA (en:=aH) (l:=a0) (i:=Z) (v:=br) (off:=0) lr O3 rfl k rfl) _;have ⟨_,k,G⟩:=bE G;apply q37 (zCN k) _;apply yBD _;have ⟨_,k,G⟩:=bE G;apply q79 k _;apply q75 (.d (zJ aH a0)) _;apply q75 (.d (di Z)) _;have ⟨bl,am,G⟩:=bE G;refine daf (.ip (aH.all a0) (Z.toNat*aH.size)) rfl (λhb=>by subst hb;exact jB (en:=aH) lr S22 rfl rfl am) ?_
 apply z3S (.ip (aH.all a0) (Z.toNat*aH.size+1)) zI8 _;refine daf (.d (di bl.Hi)) rfl (λhb=>by subst hb;exact yA (en:=aH) (l:=a0) (i:=Z) (v:=bl) (off:=1) lr O3 rfl am rfl) ?_
 have ⟨bm,bi,G⟩:=bE G;refine daf (.d (db bm)) rfl (λhb=>by subst hb;exact wA lr rfl (zCN bi)) ?_
 refine daf (.d (db (!bm))) rfl (λhb=>by subst hb;exact zQS lr rfl) ?_
 apply z3T _;have ⟨_,k,G⟩:=bE G;apply q79 k _;apply q75 (.d (zJ aH a0)) _;apply q75 (.d (di Z)) _;have ⟨aw,an,G⟩:=bE G;refine daf (.ip (aH.all a0) (Z.toNat*aH.size)) rfl (λhb=>by subst hb;exact jB (en:=aH) lr S22 rfl rfl an) ?_
 apply z3S (.ip (aH.all a0) (Z.toNat*aH.size+0)) zI7 _;refine daf (.d (di aw.Lo)) rfl (λhb=>by subst hb;exact yA (en:=aH) (l:=a0) (i:=Z) (v:=aw) (off:=0) lr O3 rfl an rfl) ?_
 apply q75 (.d (zJ aH a0)) _;apply q75 (.d (di Z)) _;have ⟨ax,ao,G⟩:=bE G;refine daf (.ip (aH.all a0) (Z.toNat*aH.size)) rfl (λhb=>by subst hb;exact jB (en:=aH) lr S22 rfl rfl ao) ?_
 apply z3S (.ip (aH.all a0) (Z.toNat*aH.size+1)) zI8 _;refine daf (.d (di ax.Hi)) rfl (λhb=>by subst hb;exact yA (en:=aH) (l:=a0) (i:=Z) (v:=ax) (off:=1) lr O3 rfl ao rfl) ?_
 refine daf (.d (db (decide (ax.Hi<aw.Lo)))) rfl (λhb=>by subst hb;exact z0R lr rfl rfl) ?_
 apply z3T _;have ⟨_,k,G⟩:=bE G;apply q79 k _;apply q75 (.d (zJ aH a0)) _;apply q75 (.d (di Z)) _;have ⟨ay,ap,G⟩:=bE G;refine daf (.ip (aH.all a0) (Z.toNat*aH.size)) rfl (λhb=>by subst hb;exact jB (en:=aH) lr S22 rfl rfl ap) ?_
 apply z3S (.ip (aH.all a0) (Z.toNat*aH.size+2)) zLR _;refine daf (.d (di ay.Value)) rfl (λhb=>by subst hb;exact yA (en:=aH) (l:=a0) (i:=Z) (v:=ay) (off:=2) lr O3 rfl ap rfl) ?_
 refine daf (.d (db (decide (ay.Value<1)))) rfl (λhb=>by subst hb;exact zW7 lr rfl rfl) ?_
 apply z3T _;have ⟨_,k,G⟩:=bE G;apply q79 k _;apply q75 (.d (zJ aH a0)) _;apply q75 (.d (di Z)) _;have ⟨az,aq,G⟩:=bE G;refine daf (.ip (aH.all a0) (Z.toNat*aH.size)) rfl (λhb=>by subst hb;exact jB (en:=aH) lr S22 rfl rfl aq) ?_
 apply z3S (.ip (aH.all a0) (Z.toNat*aH.size+2)) zLR _;refine daf (.d (di az.Value)) rfl (λhb=>by subst hb;exact yA (en:=aH) (l:=a0) (i:=Z) (v:=az) (off:=2) lr O3 rfl aq rfl) ?_
 refine daf (.d (db (decide (254<az.Value)))) rfl (λhb=>by subst hb;exact z0R lr rfl rfl) ?_
 apply z3T _;apply wZ _;apply zX G (λG=>?_) (λG=>?_);apply Q23 _;cases G;intro q;cases q;exact⟨rfl,wc⟩;apply Q50 _;exact ew G;apply zC _;cases G;intro q;cases q;exact⟨rfl,wc⟩
 rintro y1 rfl
 replace h:=eL h;apply Q38 _;have ⟨y2,k,h⟩:=bE h;apply zT y2 (.exit 2) (λy2=>⟨[(0,.d (zJ aH a0))],[]⟩) .ret (λy2=>⟨[(2,.d (di y2))],[]⟩) _ _ _;apply zD (λx=>⟨[(0,.d (zJ aH a0)),(4,.d (di x))],[]⟩) k wc _
 rintro v4 bo O
 replace O:zCZ a0 v4=some bo:=O;unfold zCZ at O;apply Q16 _;apply q6 S22 _;apply Q6 _;apply zX O (λO=>?_) (λO=>?_);apply zVR _;apply yH MX rfl _;apply Q44 _;have ⟨bt,k,O⟩:=bE O;apply q36 S22 k _;apply q78 zI7 _;apply daa (yA (en:=aH) (l:=a0) (i:=v4) (v:=bt) (off:=0) lr O3 rfl k rfl) _;apply Q44 _;apply z3U _;have ⟨bu,k,O⟩:=bE O;apply q36 S22 k _;apply q78 zI8 _;apply daa (yA (en:=aH) (l:=a0) (i:=(wi (v4-1))) (v:=bu) (off:=1) lr O3 rfl k rfl) _;apply daa (zQR lr rfl rfl) _;have ⟨_,k,O⟩:=bE O;apply q79 k _;apply q75 (.d (zJ aH a0)) _;apply q75 (.d (di v4)) _;have ⟨ba,ar,O⟩:=bE O;refine daf (.ip (aH.all a0) (v4.toNat*aH.size)) rfl (λhb=>by subst hb;exact jB (en:=aH) lr S22 rfl rfl ar) ?_
 apply z3S (.ip (aH.all a0) (v4.toNat*aH.size+0)) zI7 _;refine daf (.d (di ba.Lo)) rfl (λhb=>by subst hb;exact yA (en:=aH) (l:=a0) (i:=v4) (v:=ba) (off:=0) lr O3 rfl ar rfl) ?_
 apply q75 (.d (zJ aH a0)) _;apply q75 (.d (di v4)) _;refine daf (.d (di (wi (v4-1)))) rfl (λhb=>by subst hb;exact z03 lr rfl rfl) ?_
 have ⟨aj,au,O⟩:=bE O;refine daf (.ip (aH.all a0) ((wi (v4-1)).toNat*aH.size)) rfl (λhb=>by subst hb;exact jB (en:=aH) lr S22 rfl rfl au) ?_
 apply z3S (.ip (aH.all a0) ((wi (v4-1)).toNat*aH.size+1)) zI8 _;refine daf (.d (di aj.Hi)) rfl (λhb=>by subst hb;exact yA (en:=aH) (l:=a0) (i:=(wi (v4-1))) (v:=aj) (off:=1) lr O3 rfl au rfl) ?_
 refine daf (.d (di (wi (aj.Hi+1)))) rfl (λhb=>by subst hb;exact z6H lr rfl rfl) ?_
 refine daf (.d (db (decide (ba.Lo=(wi (aj.Hi+1)))))) rfl (λhb=>by subst hb;exact zW8 lr rfl rfl) ?_
 have ⟨K,bh,O⟩:=bE O;refine daf (.d (db K)) rfl (λhb=>by subst hb;exact(kW lr rfl).bool (oi bh)) ?_
 refine zFU (x:= .d (zJ aH a0)) rfl rfl rfl lr lr rfl (λhb=>by obtain⟨hb,D⟩:=zS hb;obtain rfl:=gF hb;obtain rfl:K=true:=D;exact kW lr rfl) ?_
 refine zFU (x:= .d (di v4)) rfl rfl rfl lr lr rfl (λhb=>by obtain⟨hb,D⟩:=zS hb;obtain rfl:=gF hb;obtain rfl:K=true:=D;exact kW lr rfl) ?_
 have ⟨ak,k,O⟩:=bE O;refine zFU (x:= .ip (aH.all a0) (v4.toNat*aH.size)) rfl rfl rfl lr lr rfl (λhb=>by obtain⟨hb,D⟩:=zS hb;obtain rfl:=gF hb;obtain rfl:K=true:=D;exact jB (en:=aH) lr S22 rfl rfl k) ?_
 refine zFU (x:= .ip (aH.all a0) (v4.toNat*aH.size+2)) rfl rfl rfl lr lr rfl (λhb=>by obtain⟨hb,D⟩:=zS hb;obtain rfl:=gF hb;obtain rfl:K=true:=D;exact jT lr zLR rfl) ?_
 refine zFU (x:= .d (di ak.Value)) rfl rfl rfl lr lr rfl (λhb=>by obtain⟨hb,D⟩:=zS hb;obtain rfl:=gF hb;obtain rfl:K=true:=D;exact yA (en:=aH) (l:=a0) (i:=v4) (v:=ak) (off:=2) lr O3 rfl k rfl) ?_
 refine zFU (x:= .d (zJ aH a0)) rfl rfl rfl lr lr rfl (λhb=>by obtain⟨hb,D⟩:=zS hb;obtain rfl:=gF hb;obtain rfl:K=true:=D;exact kW lr rfl) ?_
 refine zFU (x:= .d (di v4)) rfl rfl rfl lr lr rfl (λhb=>by obtain⟨hb,D⟩:=zS hb;obtain rfl:=gF hb;obtain rfl:K=true:=D;exact kW lr rfl) ?_
 refine zFU (x:= .d (di (wi (v4-1)))) rfl rfl rfl lr lr rfl (λhb=>by obtain⟨hb,D⟩:=zS hb;obtain rfl:=gF hb;obtain rfl:K=true:=D;exact z03 lr rfl rfl) ?_
 have ⟨ac,k,O⟩:=bE O;refine zFU (x:= .ip (aH.all a0) ((wi (v4-1)).toNat*aH.size)) rfl rfl rfl lr lr rfl (λhb=>by obtain⟨hb,D⟩:=zS hb;obtain rfl:=gF hb;obtain rfl:K=true:=D;exact jB (en:=aH) lr S22 rfl rfl k) ?_
 refine zFU (x:= .ip (aH.all a0) ((wi (v4-1)).toNat*aH.size+2)) rfl rfl rfl lr lr rfl (λhb=>by obtain⟨hb,D⟩:=zS hb;obtain rfl:=gF hb;obtain rfl:K=true:=D;exact jT lr zLR rfl) ?_
 refine zFU (x:= .d (di ac.Value)) rfl rfl rfl lr lr rfl (λhb=>by obtain⟨hb,D⟩:=zS hb;obtain rfl:=gF hb;obtain rfl:K=true:=D;exact yA (en:=aH) (l:=a0) (i:=(wi (v4-1))) (v:=ac) (off:=2) lr O3 rfl k rfl) ?_
 refine zFU (x:= .d (db (decide (ak.Value=ac.Value)))) rfl rfl rfl lr lr rfl (λhb=>by obtain⟨hb,D⟩:=zS hb;obtain rfl:=gF hb;obtain rfl:K=true:=D;exact zW8 lr rfl rfl) ?_
 refine daf (.d (db (K&&(decide (ak.Value=ac.Value))))) rfl (λhb=>by subst hb;exact zHZ lr rfl rfl) ?_
 apply z3T _;apply wZ _;apply zX O (λO=>?_) (λO=>?_);apply Q23 _;cases O;intro q;cases q;exact⟨rfl,wc⟩;apply Q50 _;exact ew O;apply zC _;cases O;intro q;cases q;exact⟨rfl,wc⟩
 rintro y2 rfl
 replace h:=eL h;apply Q0 _;have ⟨H,k,h⟩:=bE h;apply q5 (zX3 k) _;apply Q1 _;apply Q38 _;have ⟨y3,k,h⟩:=bE h;apply zT y3 (.exit 4) (λy3=>⟨[],[]⟩) .ret (λy3=>⟨[(2,.d (di y3))],[]⟩) _ _ _;apply zD (λx=>⟨[(0,.d (zJ aH a0)),(5,.d (zJ aF H)),(6,.d (di x))],[]⟩) k wc _
 rintro v6 bp p3
 replace p3:zC0 a0 H v6=some bp:=p3;unfold zC0 at p3;apply Q16 _;apply q6 S22 _;apply Q6 _;apply zX p3 (λp3=>?_) (λp3=>?_);apply Q10 _;apply Q24 _;have ⟨y4,k,p3⟩:=bE p3;apply zT y4 (.exit 6) (λy4=>⟨[(0,.d (zJ aH a0)),(5,.d (zJ aF H)),(6,.d (di v6))],[]⟩) .ret (λy4=>⟨[(2,.d (di y4))],[]⟩) _ _ _;apply zD (λx=>⟨[(0,.d (zJ aH a0)),(5,.d (zJ aF H)),(6,.d (di v6)),(7,.d (di x))],[]⟩) k wc _
 rintro v7 bq T
 replace T:uW H a0 v6 v7=some bq:=T;unfold uW at T;apply Q16 _;apply q6 S24 _;apply Q6 _;apply zX T (λT=>?_) (λT=>?_);apply zVR _;apply yH MX rfl _;apply Q44 _;have ⟨bj,k,T⟩:=bE T;apply q36 S22 k _;apply q78 zI7 _;apply daa (yA (en:=aH) (l:=a0) (i:=v6) (v:=bj) (off:=0) lr O3 rfl k rfl) _;apply Q44 _;have ⟨bk,k,T⟩:=bE T;apply q36 S24 k _;apply q78 zH6 _;apply daa (yA (en:=aF) (l:=H) (i:=v7) (v:=bk) (off:=1) lr O3 rfl k rfl) _;apply daa (zQR lr rfl rfl) _;have ⟨_,k,T⟩:=bE T;apply q79 k _;apply q80 (.d (zJ aF H)) _;apply q80 (.d (di v7)) _;have ⟨ah,ad,T⟩:=bE T;refine dat (.ip (aF.all H) (v7.toNat*aF.size)) rfl (λhb=>by subst hb;exact jB (en:=aF) lr S24 rfl rfl ad) ?_
 apply yPP (.ip (aF.all H) (v7.toNat*aF.size+0)) zNA _;refine dat (.d (di ah.Lo)) rfl (λhb=>by subst hb;exact yA (en:=aF) (l:=H) (i:=v7) (v:=ah) (off:=0) lr O3 rfl ad rfl) ?_
 apply q80 (.d (zJ aH a0)) _;apply q80 (.d (di v6)) _;have ⟨ai,ag,T⟩:=bE T;refine dat (.ip (aH.all a0) (v6.toNat*aH.size)) rfl (λhb=>by subst hb;exact jB (en:=aH) lr S22 rfl rfl ag) ?_
 apply yPP (.ip (aH.all a0) (v6.toNat*aH.size+1)) zI8 _;refine dat (.d (di ai.Hi)) rfl (λhb=>by subst hb;exact yA (en:=aH) (l:=a0) (i:=v6) (v:=ai) (off:=1) lr O3 rfl ag rfl) ?_
 refine dat (.d (db (decide (ah.Lo<=ai.Hi)))) rfl (λhb=>by subst hb;exact zQR lr rfl rfl) ?_
 apply yL1 _;apply zX T (λT=>?_) (λT=>?_);apply Q23 _;cases T;intro q;cases q;exact⟨rfl,wc⟩;apply Q50 _;exact ew T;apply zC _;cases T;intro q;cases q;exact⟨rfl,wc⟩
 rintro y4 rfl
 replace p3:=eL p3;apply Q21 _;exact ew p3
 rintro y4 rfl
 replace p3:=eR p3;cases p3;intro q;cases q;exact⟨rfl,wc⟩;apply zC _;cases p3;intro q;cases q;exact⟨rfl,wc⟩
 rintro y3 rfl
 replace h:=eL h;apply Q3 _;exact er h
 rintro y3 rfl
 replace h:=eR h;exact es h
 rintro y2 rfl
 replace h:=eR h;exact es h
 rintro y1 rfl
 replace h:=eR h;exact es h
theorem zZ9 {a0 r} (h:zIQ a0=some r):zB Tryz.prog 109 [(aB.dv a0)] [(db r)]:=by
 refine co Tryz.func109 ?_;intro _ _ _ _;unfold zIQ at h;apply Q43 _;apply Q1 _;apply Q38 _;have ⟨G,k,h⟩:=bE h;apply zT G (.exit 0) (λG=>⟨[(1,.d (.pt (aB.cells a0)))],[]⟩) .ret (λG=>⟨[(2,.d (db G))],[]⟩) _ _ _;apply zD (λx=>⟨[(1,.d (.pt (aB.cells a0))),(3,.d (di x))],[]⟩) k wc _
 rintro K H D
 replace D:zC1 a0 K=some H:=D;unfold zC1 at D;apply Q4 _;apply q8 zFL _;apply q7 O39 _;apply z7X _;apply zX D (λD=>?_) (λD=>?_);apply Q31 _;apply q8 zFL _;apply q7 O39 _;apply q0 _;have ⟨_,k,D⟩:=bE D;apply q12 yP k _;apply q46 O3 k _;have ⟨_,k,D⟩:=bE D;apply q5 (zCN k) _;apply Q45 _;apply zX D (λD=>?_) (λD=>?_);apply Q23 _;cases D;intro q;cases q;exact⟨rfl,wc⟩;apply Q50 _;exact ew D;apply zC _;cases D;intro q;cases q;exact⟨rfl,wc⟩
 rintro G rfl
 replace h:=eL h;apply Q0 _;apply zZ0 _;have ⟨_,k,h⟩:=bE h;apply q5 (zCN k) _;apply Q1 _;exact er h
 rintro G rfl
 replace h:=eR h;exact es h
theorem z38 {a0 r} (h:zJ8 a0=some r):zB Tryz.prog 110 [(ds a0)] [(db r)]:=by
 refine co Tryz.func110 ?_;intro _ _ _ _;unfold zJ8 at h;apply Q88 _;have ⟨T,k,h⟩:=bE h;apply zT T (.exit 0) (λT=>⟨[(0,.d (ds a0))],[]⟩) .ret (λT=>⟨[(2,.d (db T))],[]⟩) _ _ _;apply zD (λx=>⟨[(0,.d (ds a0)),(3,.d (di x))],[]⟩) k wc _
 rintro v3 ab G
 replace G:zIE a0 v3=some ab:=G;unfold zIE at G;apply Q16 _;apply q89 Tryz.underlying9 _;apply Q6 _;apply zX G (λG=>?_) (λG=>?_);apply Q77 _;have ⟨D,k,G⟩:=bE G;apply yGS Tryz.underlying9 k _;apply Q40 _;apply q40 _;have ⟨_,k,G⟩:=bE G;apply q4 k _;apply q16 (.d (dby D)) _;apply q60 (.d (db (decide (D<=90)))) _;apply q19 _;have ⟨_,k,G⟩:=bE G;apply q4 k _;apply q28 (.d (dby D)) _;apply yLE (.d (db (decide (97<=D)))) _;have ⟨K,Z,G⟩:=bE G;refine sqf (.d (db K)) rfl (λhb=>by subst hb;exact(kW lr rfl).bool (oi Z)) ?_
 refine vI (x:= .d (dby D)) rfl rfl rfl lr lr rfl (λhb=>by obtain⟨hb,H⟩:=zS hb;obtain rfl:=gF hb;obtain rfl:K=true:=H;exact kW lr rfl) ?_
 refine vI (x:= .d (db (decide (D<=122)))) rfl rfl rfl lr lr rfl (λhb=>by obtain⟨hb,H⟩:=zS hb;obtain rfl:=gF hb;obtain rfl:K=true:=H;exact zQR lr rfl rfl) ?_
 apply yGT (.d (db (K&&(decide (D<=122))))) _;apply q21 _;have ⟨_,k,G⟩:=bE G;apply q4 k _;apply q28 (.d (dby D)) _;apply yLE (.d (db (decide (48<=D)))) _;have ⟨O,aa,G⟩:=bE G;refine sqf (.d (db O)) rfl (λhb=>by subst hb;exact(kW lr rfl).bool (oi aa)) ?_
 refine vI (x:= .d (dby D)) rfl rfl rfl lr lr rfl (λhb=>by obtain⟨hb,H⟩:=zS hb;obtain rfl:=gF hb;obtain rfl:O=true:=H;exact kW lr rfl) ?_
 refine vI (x:= .d (db (decide (D<=57)))) rfl rfl rfl lr lr rfl (λhb=>by obtain⟨hb,H⟩:=zS hb;obtain rfl:=gF hb;obtain rfl:O=true:=H;exact zQR lr rfl rfl) ?_
 apply yGT (.d (db (O&&(decide (D<=57))))) _;apply q21 _;have ⟨_,k,G⟩:=bE G;apply q4 k _;apply q28 (.d (dby D)) _;apply z7O (.d (db (decide (D=95)))) _;apply q21 _;apply Q45 _;apply zX G (λG=>?_) (λG=>?_);apply Q23 _;cases G;intro q;cases q;exact⟨rfl,wc⟩;apply Q50 _;exact ew G;apply zC _;cases G;intro q;cases q;exact⟨rfl,wc⟩
 rintro T rfl
 replace h:=eL h;apply Q2 _;apply q89 Tryz.underlying9 _;apply q40 _;have ⟨_,k,h⟩:=bE h;apply q4 k _;apply q16 (.d (ds a0)) _;refine sqt (.d (di (a0.length:Int))) rfl (λhb=>by subst hb;exact zT1 (s:=a0) lr Tryz.underlying9 rfl) ?_
 apply q60 (.d (db (decide ((a0.length:Int)<=32)))) _;apply Q51 _;exact er h
 rintro T rfl
 replace h:=eR h;exact es h
theorem z0A {a0 r} (h:zIR a0=some r):zB Tryz.prog 111 [(zJ aB a0)] [(db r)]:=by
 refine co Tryz.func111 ?_;intro _ _ _ _;unfold zIR at h;apply Q88 _;have ⟨y1,k,h⟩:=bE h;apply zT y1 (.exit 0) (λy1=>⟨[],[]⟩) .ret (λy1=>⟨[(2,.d (db y1))],[]⟩) _ _ _;apply zD (λx=>⟨[(0,.d (zJ aB a0)),(3,.d (di x))],[]⟩) k wc _
 rintro Z ad G
 replace G:zC2 a0 Z=some ad:=G;unfold zC2 at G;apply Q78 _;apply zX G (λG=>?_) (λG=>?_);apply Q10 _;apply Q24 _;have ⟨y2,k,G⟩:=bE G;apply zT y2 (.exit 2) (λy2=>⟨[(0,.d (zJ aB a0)),(3,.d (di Z))],[]⟩) .ret (λy2=>⟨[(2,.d (db y2))],[]⟩) _ _ _;apply zD (λx=>⟨[(0,.d (zJ aB a0)),(3,.d (di Z)),(4,.d (di x))],[]⟩) k wc _
 rintro v4 ag D
 replace D:uX Z a0 v4=some ag:=D;unfold uX at D;apply Q93 _;apply zX D (λD=>?_) (λD=>?_);apply zVR _;apply yH MX rfl _;apply Q44 _;have ⟨_,k,D⟩:=bE D;apply q36 S23 k _;apply q78 zJD _;apply yLI O3 k _;apply Q44 _;have ⟨_,k,D⟩:=bE D;apply q36 S23 k _;apply q78 zJD _;apply yLI O3 k _;apply yLJ _;have ⟨_,k,D⟩:=bE D;apply q79 k _;apply q80 (.d (zJ aB a0)) _;apply q80 (.d (di Z)) _;have ⟨H,O,D⟩:=bE D;refine dat (.ip (aB.all a0) (Z.toNat*aB.size)) rfl (λhb=>by subst hb;exact jB (en:=aB) lr S23 rfl rfl O) ?_
 apply yPP (.ip (aB.all a0) (Z.toNat*aB.size+2)) zG4 _;refine dat (.d (ds H.bU)) rfl (λhb=>by subst hb;exact yA (en:=aB) (l:=a0) (i:=Z) (v:=H) (off:=2) lr O9 rfl O rfl) ?_
 apply q80 (.d (zJ aB a0)) _;apply q80 (.d (di v4)) _;have ⟨K,T,D⟩:=bE D;refine dat (.ip (aB.all a0) (v4.toNat*aB.size)) rfl (λhb=>by subst hb;exact jB (en:=aB) lr S23 rfl rfl T) ?_
 apply yPP (.ip (aB.all a0) (v4.toNat*aB.size+2)) zG4 _;refine dat (.d (ds K.bU)) rfl (λhb=>by subst hb;exact yA (en:=aB) (l:=a0) (i:=v4) (v:=K) (off:=2) lr O9 rfl T rfl) ?_
 refine dat (.d (db (H.bU==K.bU))) rfl (λhb=>by subst hb;exact yAA (a:=H.bU) (b:=K.bU) lr rfl rfl) ?_
 apply yL1 _;apply zX D (λD=>?_) (λD=>?_);apply Q23 _;cases D;intro q;cases q;exact⟨rfl,wc⟩;apply Q50 _;exact ew D;apply zC _;cases D;intro q;cases q;exact⟨rfl,wc⟩
 rintro y2 rfl
 replace G:=eL G;apply Q21 _;exact ew G
 rintro y2 rfl
 replace G:=eR G;cases G;intro q;cases q;exact⟨rfl,wc⟩;apply zC _;cases G;intro q;cases q;exact⟨rfl,wc⟩
 rintro y1 rfl
 replace h:=eL h;apply Q3 _;exact er h
 rintro y1 rfl
 replace h:=eR h;exact es h
theorem zT9 {a0 r} (h:zEY a0=some r):zB Tryz.prog 65 [(zJ aB a0)] [(di r)]:=by
 refine co Tryz.func65 ?_;intro _ _ _ _;unfold zEY at h;apply Q88 _;have ⟨T,k,h⟩:=bE h;apply zT T (.exit 0) (λT=>⟨[(0,.d (zJ aB a0))],[]⟩) .ret (λT=>⟨[(2,.d (di T))],[]⟩) _ _ _;apply zD (λx=>⟨[(0,.d (zJ aB a0)),(3,.d (di x))],[]⟩) k wc _
 rintro v3 ag G
 replace G:zAD a0 v3=some ag:=G;unfold zAD at G;apply Q78 _;apply zX G (λG=>?_) (λG=>?_);apply Q77 _;have ⟨_,k,G⟩:=bE G;apply q12 S23 k _;apply zZR G81 k _;have ⟨_,k,G⟩:=bE G;apply q5 (zZ9 k) _;apply Q45 _;apply zX G (λG=>?_) (λG=>?_);apply Q23 _;cases G;intro q;cases q;exact⟨rfl,wc⟩;apply Q50 _;exact ew G;apply zC _;cases G;intro q;cases q;exact⟨rfl,wc⟩
 rintro T rfl
 replace h:=eL h;apply Q38 _;have ⟨Z,k,h⟩:=bE h;apply zT Z (.exit 2) (λZ=>⟨[(0,.d (zJ aB a0))],[]⟩) .ret (λZ=>⟨[(2,.d (di Z))],[]⟩) _ _ _;apply zD (λx=>⟨[(0,.d (zJ aB a0)),(4,.d (di x))],[]⟩) k wc _
 rintro v4 ah H
 replace H:zAE a0 v4=some ah:=H;unfold zAE at H;apply Q78 _;apply zX H (λH=>?_) (λH=>?_);apply Q77 _;have ⟨_,k,H⟩:=bE H;apply q12 S23 k _;apply q66 zFL _;apply z7P O39 k _;apply q6 yP _;apply Q59 _;apply zX H (λH=>?_) (λH=>?_);apply Q23 _;cases H;intro q;cases q;exact⟨rfl,wc⟩;apply Q50 _;exact ew H;apply zC _;cases H;intro q;cases q;exact⟨rfl,wc⟩
 rintro Z rfl
 replace h:=eL h;apply Q38 _;have ⟨y3,k,h⟩:=bE h;apply zT y3 (.exit 4) (λy3=>⟨[(0,.d (zJ aB a0))],[]⟩) .ret (λy3=>⟨[(2,.d (di y3))],[]⟩) _ _ _;apply zD (λx=>⟨[(0,.d (zJ aB a0)),(5,.d (di x))],[]⟩) k wc _
 rintro O ai D
 replace D:zAF a0 O=some ai:=D;unfold zAF at D;apply Q78 _;apply zX D (λD=>?_) (λD=>?_);apply Q77 _;have ⟨aj,k,D⟩:=bE D;apply q12 S23 k _;apply q66 zG4 _;apply k6 (yA (en:=aB) (l:=a0) (i:=O) (v:=aj) (off:=2) lr O9 rfl k rfl) _;apply yGU _;have ⟨_,k,D⟩:=bE D;apply q4 k _;apply q16 (.d (zJ aB a0)) _;apply q16 (.d (di O)) _;have ⟨ac,K,D⟩:=bE D;refine sqt (.ip (aB.all a0) (O.toNat*aB.size)) rfl (λhb=>by subst hb;exact jB (en:=aB) lr S23 rfl rfl K) ?_
 apply yGX (.ip (aB.all a0) (O.toNat*aB.size+2)) zG4 _;refine sqt (.d (ds ac.bU)) rfl (λhb=>by subst hb;exact yA (en:=aB) (l:=a0) (i:=O) (v:=ac) (off:=2) lr O9 rfl K rfl) ?_
 have ⟨ad,ab,D⟩:=bE D;refine sqt (.d (db ad)) rfl (λhb=>by subst hb;exact wA lr rfl (z38 ab)) ?_
 apply q96 (.d (db (!ad))) _;apply Q39 _;apply zX D (λD=>?_) (λD=>?_);apply Q23 _;cases D;intro q;cases q;exact⟨rfl,wc⟩;apply Q50 _;exact ew D;apply zC _;cases D;intro q;cases q;exact⟨rfl,wc⟩
 rintro y3 rfl
 replace h:=eL h;apply Q4 _;have ⟨_,k,h⟩:=bE h;apply q5 (z0A k) _;apply zF _;apply zX h (λh=>?_) (λh=>?_);apply Q3 _;exact er h;apply Q68 _;exact er h
 rintro y3 rfl
 replace h:=eR h;exact es h
 rintro Z rfl
 replace h:=eR h;exact es h
 rintro T rfl
 replace h:=eR h;exact es h
theorem zX4 {a0 H r} (h:zJL a0 H=some r):zB Tryz.prog 66 [(aB.dv a0),(aB.dv H)] [(db r)]:=by
 refine co Tryz.func66 ?_;intro _ _ _ _;unfold zJL at h;apply Q43 _;apply q39 _;apply Q49 _;apply zZ0 _;apply zZ0 _;apply q3 _;have ⟨_,k,h⟩:=bE h;apply q4 k _;apply q33 (.ip (aB.cells a0) (0+0)) zJD _;apply q34 (.d (di a0.aN)) O3 _;apply q33 (.ip (aB.cells H) (0+0)) zJD _;apply q34 (.d (di H.aN)) O3 _;apply z7O (.d (db (decide (a0.aN=H.aN)))) _;have ⟨G,K,h⟩:=bE h;refine sqf (.d (db G)) rfl (λhb=>by subst hb;exact(kW lr rfl).bool (oi K)) ?_
 refine vI (x:= .ip (aB.cells a0) (0+2)) rfl rfl rfl lr lr rfl (λhb=>by obtain⟨hb,D⟩:=zS hb;obtain rfl:=gF hb;obtain rfl:G=true:=D;exact zAA lr zG4 rfl) ?_
 refine vI (x:= .d (ds a0.bU)) rfl rfl rfl lr lr rfl (λhb=>by obtain⟨hb,D⟩:=zS hb;obtain rfl:=gF hb;obtain rfl:G=true:=D;exact yV lr O9 rfl rfl) ?_
 refine vI (x:= .ip (aB.cells H) (0+2)) rfl rfl rfl lr lr rfl (λhb=>by obtain⟨hb,D⟩:=zS hb;obtain rfl:=gF hb;obtain rfl:G=true:=D;exact zAA lr zG4 rfl) ?_
 refine vI (x:= .d (ds H.bU)) rfl rfl rfl lr lr rfl (λhb=>by obtain⟨hb,D⟩:=zS hb;obtain rfl:=gF hb;obtain rfl:G=true:=D;exact yV lr O9 rfl rfl) ?_
 refine vI (x:= .d (db (Op.bytesLess a0.bU H.bU))) rfl rfl rfl lr lr rfl (λhb=>by obtain⟨hb,D⟩:=zS hb;obtain rfl:=gF hb;obtain rfl:G=true:=D;exact yJX (a:=a0.bU) (b:=H.bU) lr rfl rfl) ?_
 apply yGT (.d (db (G&&(Op.bytesLess a0.bU H.bU)))) _;apply q21 _;apply Q1 _;exact er h
theorem z0B {a0 r} (h:zIS a0=some r):zB Tryz.prog 25 [(zJ aB a0)] [(di r)]:=by
 refine co Tryz.func25 ?_;intro _ _ _ _;unfold zIS at h;apply Q25 _;have ⟨_,k,h⟩:=bE h;apply q5 (zT9 k) _;apply z3Z _;apply zX h (λh=>?_) (λh=>?_);apply Q29 _;exact er h;apply Q5 _;apply Q24 _;have ⟨G,k,h⟩:=bE h;apply zT G (.exit 0) (λG=>⟨[],[]⟩) .ret (λG=>⟨[(2,.d (di G))],[]⟩) _ _ _;apply zD (λx=>⟨[(0,.d (zJ aB a0)),(4,.d (di x))],[]⟩) k wc _
 rintro K H D
 replace D:zC3 a0 K=some H:=D;unfold zC3 at D;apply Q78 _;apply zX D (λD=>?_) (λD=>?_);apply zVR _;apply yH MX rfl _;apply Q44 _;apply z3U _;have ⟨_,k,D⟩:=bE D;apply q36 S23 k _;apply yPX G81 k _;apply Q44 _;have ⟨_,k,D⟩:=bE D;apply q36 S23 k _;apply yPX G81 k _;have ⟨_,k,D⟩:=bE D;apply q37 (zX4 k) _;apply yBD _;apply wZ _;apply zX D (λD=>?_) (λD=>?_);apply Q23 _;cases D;intro q;cases q;exact⟨rfl,wc⟩;apply Q50 _;exact ew D;apply zC _;cases D;intro q;cases q;exact⟨rfl,wc⟩
 rintro G rfl
 replace h:=eL h;apply Q3 _;exact er h
 rintro G rfl
 replace h:=eR h;exact es h
theorem zLS {a0 O r} (h:zEZ a0 O=some r):zB Tryz.prog 188 [(zJ eI a0),(di O)] [(zJ eI r)]:=by
 refine co Tryz.func188 ?_;intro _ _ _ _;unfold zEZ at h;apply Q3 _;apply Q3 _;apply zG (j6 (t:=5) 1005 3 eI.size lr lr rfl rfl) _;apply Q88 _;have ⟨y1,k,h⟩:=bE h;apply tl (.exit 0) ⟨[(1,.d (di O)),(5,.row 1005),(6,.d (db y1.1))],[(1005,.row 3 eI.size false (eI.all y1.2))]⟩ _ _;apply zD (λx=>⟨[(0,.d (zJ eI a0)),(1,.d (di O)),(5,.row 1005),(6,.d (db x.1)),(7,.d (di x.2.1))],[(1005,.row 3 eI.size false (eI.all x.2.2))]⟩) k wc _
 rintro⟨v6,v7,K⟩ ab G
 replace G:xC a0 O v6 v7 K=some ab:=G;unfold xC at G;apply Q16 _;apply z7X _;apply zX G (λG=>?_) (λG=>?_);apply Q10 _;apply Q4 _;apply q29 _;have ⟨_,k,G⟩:=bE G;apply q4 k _;apply q16 (.d (zJ eI a0)) _;apply q16 (.d (di v7)) _;have ⟨Z,T,G⟩:=bE G;refine sqt (.ip (eI.all a0) (v7.toNat*eI.size)) rfl (λhb=>by subst hb;exact jB (en:=eI) lr yP rfl rfl T) ?_
 refine sqt (.d (di Z)) rfl (λhb=>by subst hb;exact yA (en:=eI) (l:=a0) (i:=v7) (v:=Z) (off:=0) lr O3 rfl T rfl) ?_
 apply q16 (.d (di O)) _;apply yBE (.d (db (decide (O<=Z)))) _;apply Q39 _;have ⟨y2,D,G⟩:=bE G;apply tl .normal ⟨[(0,.d (zJ eI a0)),(1,.d (di O)),(5,.row 1005),(6,.d (db y2.1)),(7,.d (di v7))],[(1005,.row 3 eI.size false (eI.all y2.2))]⟩ _ _;apply zX D (λD=>?_) (λD=>?_);apply z7Y _;have ⟨_,k,D⟩:=bE D;apply q12 yP k _;apply q46 O3 k _;apply q0 _;apply Q59 _;apply zX D (λD=>?_) (λD=>?_);apply Q30 _;apply Q89 _;have ⟨_,k,D⟩:=bE D;apply zU rfl (zY (en:=eI) (l:=K) (m:=[O]) lr yP rfl rfl rfl k (by decide) (by decide) rfl rfl) _;apply Q11 _;exact eo D;apply zH _;exact eo D;apply zH _;exact eo D;apply z34 _;have ⟨ac,k,G⟩:=bE G;apply q12 yP k _;apply q46 O3 k _;apply q30 yP _;have ⟨_,k,G⟩:=bE G;apply zU rfl (zY (en:=eI) (l:=y2.2) (m:=[ac]) lr yP rfl rfl rfl k (by decide) (by decide) rfl rfl) _;apply Q11 _;apply Q21 _;exact ew G;exact zC (ex G);apply Q4 _;apply Q45 _;have ⟨y5,H,h⟩:=bE h;apply tl .normal ⟨[(5,.row 1005)],[(1005,.row 3 eI.size false (eI.all y5))]⟩ _ _;apply zX H (λH=>?_) (λH=>?_);apply Q30 _;apply Q89 _;have ⟨_,k,H⟩:=bE H;apply zU rfl (zY (en:=eI) (l:=y1.2) (m:=[O]) lr yP rfl rfl rfl k (by decide) (by decide) rfl rfl) _;apply Q11 _;exact eo H;apply zH _;exact eo H;apply Q79 _;exact er h
theorem zSQ {a0 O r} (h:zH3 a0 O=some r):zB Tryz.prog 151 [(zJ eI a0),(bA.dv O)] [(zJ eI r)]:=by
 refine co Tryz.func151 ?_;intro _ _ _ _;unfold zH3 at h;apply Q92 _;apply Q1 _;apply Q38 _;have ⟨y1,k,h⟩:=bE h;apply tl (.exit 0) ⟨[(0,.d (zJ eI y1))],[]⟩ _ _;apply zD (λx=>⟨[(0,.d (zJ eI x.1)),(3,.d (.pt (bA.cells O))),(5,.d (di x.2))],[]⟩) k wc _
 rintro⟨v0,T⟩ Z H
 replace H:uO O v0 T=some Z:=H;unfold uO at H;apply Q4 _;apply zZZ _;apply Q6 _;apply zX H (λH=>?_) (λH=>?_);apply Q5 _;have ⟨y2,D,H⟩:=bE H;apply tl .normal ⟨[(0,.d (zJ eI y2)),(3,.d (.pt (bA.cells O))),(5,.d (di T))],[]⟩ _ _;apply yBT _;apply yH MX rfl _;apply q56 zEB _;apply q57 O24 _;apply q9 _;have ⟨aa,k,D⟩:=bE D;apply q36 S24 k _;apply q78 zNA _;apply daa (yA (en:=aF) (l:=O.Ranges) (i:=T) (v:=aa) (off:=0) lr O3 rfl k rfl) _;apply q56 zEB _;apply q57 O24 _;apply q9 _;have ⟨K,k,D⟩:=bE D;apply q36 S24 k _;apply q78 zH6 _;apply daa (yA (en:=aF) (l:=O.Ranges) (i:=T) (v:=K) (off:=1) lr O3 rfl k rfl) _;apply yBO _;apply Q4 _;have ⟨_,k,D⟩:=bE D;apply q5 (zCN k) _;apply zF _;have ⟨y3,G,D⟩:=bE D;apply tl .normal ⟨[(0,.d (zJ eI y3)),(3,.d (.pt (bA.cells O))),(5,.d (di T)),(7,.d (di K.Hi))],[]⟩ _ _;apply zX G (λG=>?_) (λG=>?_);apply Q70 _;have ⟨_,k,G⟩:=bE G;apply q5 (zLS k) _;apply Q1 _;exact eo G;apply zH _;exact eo G;apply Q2 _;apply q40 _;have ⟨_,k,D⟩:=bE D;apply q4 k _;apply q16 (.d (di K.Hi)) _;apply q84 (.d (db (decide (K.Hi<1114111)))) _;apply Q39 _;apply zX D (λD=>?_) (λD=>?_);apply Q70 _;apply q2 _;have ⟨_,k,D⟩:=bE D;apply q5 (zLS k) _;apply Q1 _;exact eo D;apply zH _;exact eo D;apply Q21 _;exact ew H;exact zC (ex H);apply Q2 _;have ⟨_,k,h⟩:=bE h;apply q5 (zLS k) _;apply Q1 _;exact er h
theorem zVI {a0 H r} (h:zH4 a0 H=some r):zB Tryz.prog 153 [(bA.dv a0),(di H)] [(db r)]:=by
 refine co Tryz.func153 ?_;intro _ _ _ _;unfold zH4 at h;apply Q92 _;apply Q1 _;apply Q38 _;have ⟨y1,k,h⟩:=bE h;apply zT y1 (.exit 0) (λy1=>⟨[],[]⟩) .ret (λy1=>⟨[(4,.d (db y1))],[]⟩) _ _ _;apply zD (λx=>⟨[(1,.d (di H)),(2,.d (.pt (bA.cells a0))),(5,.d (di x))],[]⟩) k wc _
 rintro G ab D
 replace D:zFG a0 H G=some ab:=D;unfold zFG at D;apply Q4 _;apply zZZ _;apply Q6 _;apply zX D (λD=>?_) (λD=>?_);apply yBP _;have ⟨_,k,D⟩:=bE D;apply q5 (zCN k) _;have ⟨_,k,D⟩:=bE D;apply q4 k _;apply q70 (.ip (bA.cells a0) (0+0)) zEB _;apply q73 (.d (zJ aF a0.Ranges)) O24 _;apply q16 (.d (di G)) _;have ⟨T,K,D⟩:=bE D;refine sqt (.ip (aF.all a0.Ranges) (G.toNat*aF.size)) rfl (λhb=>by subst hb;exact jB (en:=aF) lr S24 rfl rfl K) ?_
 apply yGX (.ip (aF.all a0.Ranges) (G.toNat*aF.size+0)) zNA _;refine sqt (.d (di T.Lo)) rfl (λhb=>by subst hb;exact yA (en:=aF) (l:=a0.Ranges) (i:=G) (v:=T) (off:=0) lr O3 rfl K rfl) ?_
 apply q16 (.d (di H)) _;apply q60 (.d (db (decide (T.Lo<=H)))) _;apply q19 _;have ⟨_,k,D⟩:=bE D;apply q4 k _;apply q16 (.d (di H)) _;apply q70 (.ip (bA.cells a0) (0+0)) zEB _;apply q73 (.d (zJ aF a0.Ranges)) O24 _;apply q16 (.d (di G)) _;have ⟨Z,O,D⟩:=bE D;refine sqt (.ip (aF.all a0.Ranges) (G.toNat*aF.size)) rfl (λhb=>by subst hb;exact jB (en:=aF) lr S24 rfl rfl O) ?_
 apply yGX (.ip (aF.all a0.Ranges) (G.toNat*aF.size+1)) zH6 _;refine sqt (.d (di Z.Hi)) rfl (λhb=>by subst hb;exact yA (en:=aF) (l:=a0.Ranges) (i:=G) (v:=Z) (off:=1) lr O3 rfl O rfl) ?_
 apply q60 (.d (db (decide (H<=Z.Hi)))) _;apply Q39 _;apply zX D (λD=>?_) (λD=>?_);apply Q23 _;cases D;intro q;cases q;exact⟨rfl,wc⟩;apply Q50 _;exact ew D;apply zC _;cases D;intro q;cases q;exact⟨rfl,wc⟩
 rintro y1 rfl
 replace h:=eL h;apply Q3 _;exact er h
 rintro y1 rfl
 replace h:=eR h;exact es h
theorem z0C {a0 G D r} (h:zLG a0 G D=some r):zB Tryz.prog 152 [(di a0),(db G),(db D)] [(db r)]:=by refine co Tryz.func152 ?_;intro _ _ _ _;unfold zLG at h;apply Q25 _;apply z35 _;apply Q60 _;apply zX h (λh=>?_) (λh=>?_);apply Q2 _;have ⟨_,k,h⟩:=bE h;apply q4 k _;apply q28 (.d (db D)) _;apply q21 _;apply Q1 _;exact er h;apply Q60 _;apply zX h (λh=>?_) (λh=>?_);apply Q2 _;have ⟨_,k,h⟩:=bE h;apply q4 k _;apply q16 (.d (db D)) _;apply Q51 _;exact er h;apply Q90 _;have ⟨_,k,h⟩:=bE h;apply q4 k _;apply q16 (.d (db D)) _;apply q96 (.d (db (!D))) _;apply Q51 _;exact er h
theorem zVX {a0 a1 a2 r} (h:zIF a0 a1 a2=some r):zB Tryz.prog 112 [(bA.dv a0),(bA.dv a1),(di a2)] [(bA.dv r)]:=by
 refine co Tryz.func112 ?_;intro _ _ _ _;unfold zIF at h;apply Q92 _;apply q72 _;apply q85 _;apply zF<|zQ _;apply yH MX rfl _;apply q67 G26 _;have ⟨_,k,h⟩:=bE h;apply q37 (yOV (zSQ k) (nlN (nlE nl0))) _;apply q67 G26 _;have ⟨Z,k,h⟩:=bE h;apply q37 (zSQ k) _;apply Q63 _;apply Q0 _;apply q85 _;apply zF _;apply zG (wV (bid:=8) (off:=0) 4160 143 aF.size lr (by decide) rfl rfl rfl) _;apply Q88 _;have ⟨y1,k,h⟩:=bE h;apply tl (.exit 0) ⟨[(6,.ptr 6 0),(8,.ptr 8 0)],[(6,.box 26 [.d (.v (.slice none 0 0))]),(8,.box 26 [.row 4160]),(4160,.row 143 aF.size false (aF.all y1))]⟩ _ _;apply zD (λx=>⟨[(2,.d (di a2)),(3,.d (.pt (bA.cells a0))),(4,.d (.pt (bA.cells a1))),(6,.ptr 6 0),(7,.d (zJ eI Z)),(8,.ptr 8 0),(9,.d (db x.1)),(10,.d (di x.2.1))],[(6,.box 26 [.d (.v (.slice none 0 0))]),(8,.box 26 [.row 4160]),(4160,.row 143 aF.size false (aF.all x.2.2))]⟩) k wc _
 rintro⟨v9,aa,K⟩ ah D
 replace D:jR Z a0 a1 a2 v9 aa K=some ah:=D;unfold jR at D;apply Q16 _;apply z7X _;apply zX D (λD=>?_) (λD=>?_);apply Q10 _;apply Q25 _;apply yHP _;apply z7X _;have ⟨y2,O,D⟩:=bE D;apply tl .normal ⟨[(2,.d (di a2)),(3,.d (.pt (bA.cells a0))),(4,.d (.pt (bA.cells a1))),(6,.ptr 6 0),(7,.d (zJ eI Z)),(8,.ptr 8 0),(9,.d (db v9)),(10,.d (di aa)),(11,.d (di y2))],[(6,.box 26 [.d (.v (.slice none 0 0))]),(8,.box 26 [.row 4160]),(4160,.row 143 aF.size false (aF.all K))]⟩ _ _;apply zX O (λO=>?_) (λO=>?_);apply Q70 _;apply q2 _;have ⟨_,k,O⟩:=bE O;apply q12 yP k _;apply q46 O3 k _;apply zVS _;exact eo O;apply zH _;exact eo O;apply zQ _;apply yH MX rfl _;apply q9 _;apply q67 G26 _;apply Q44 _;have ⟨_,k,D⟩:=bE D;apply q36 yP k _;apply q81 O3 k _;have ⟨_,k,D⟩:=bE D;apply q37 (zVI k) _;apply q67 G26 _;apply Q44 _;have ⟨_,k,D⟩:=bE D;apply q36 yP k _;apply q81 O3 k _;have ⟨_,k,D⟩:=bE D;apply q37 (zVI k) _;have ⟨ag,k,D⟩:=bE D;apply q37 (z0C k) _;apply Q63 _;apply Q4 _;have ⟨_,k,D⟩:=bE D;apply q4 k _;apply q16 (.d (db v9)) _;apply Q39 _;have ⟨y3,G,D⟩:=bE D;apply tl .normal ⟨[(2,.d (di a2)),(3,.d (.pt (bA.cells a0))),(4,.d (.pt (bA.cells a1))),(6,.ptr 6 0),(7,.d (zJ eI Z)),(8,.ptr 8 0),(9,.d (db v9)),(10,.d (di aa)),(11,.d (di y2)),(12,.d (db ag))],[(6,.box 26 [.d (.v (.slice none 0 0))]),(8,.box 26 [.row 4160]),(4160,.row 143 aF.size false (aF.all y3))]⟩ _ _;apply zX G (λG=>?_) (λG=>?_);apply xM<|q10 zEB _;apply q20 O24 _;apply q10 zEB _;apply q20 O24 _;apply yBC S24 _;apply q35 _;apply q0 _;have ⟨ai,k,G⟩:=bE G;apply q92 S24 k _;apply q10 zH6 _;have ⟨_,T,G⟩:=bE G;refine zU rfl (zG8 (en:=aF) (l:=K) (i:=(wi ((K.length:Int)-1))) (v:=ai) (off:=1) O3 rfl rfl rfl k rfl (by decide) T rfl rfl) ?_;apply zF _;exact eo G;apply zH _;exact eo G;apply Q4 _;have ⟨_,k,D⟩:=bE D;apply q4 k _;apply q16 (.d (db v9)) _;apply q96 (.d (db (!v9))) _;apply Q39 _;have ⟨y5,H,D⟩:=bE D;apply tl .normal ⟨[(2,.d (di a2)),(3,.d (.pt (bA.cells a0))),(4,.d (.pt (bA.cells a1))),(6,.ptr 6 0),(7,.d (zJ eI Z)),(8,.ptr 8 0),(10,.d (di aa)),(12,.d (db ag))],[(6,.box 26 [.d (.v (.slice none 0 0))]),(8,.box 26 [.row 4160]),(4160,.row 143 aF.size false (aF.all y5))]⟩ _ _;apply zX H (λH=>?_) (λH=>?_);apply zD0 9 MX rfl _;apply q32 zEB _;apply q71 O24 _;apply Q44 _;have ⟨aj,k,H⟩:=bE H;apply q36 yP k _;apply q81 O3 k _;apply q9 _;apply yPY zXW _;apply yLK S24 _;apply wZ _;have ⟨_,k,H⟩:=bE H;apply zU rfl (zY (en:=aF) (l:=y3) (m:=[({Lo:=aj,Hi:=y2}:Range)]) lr S24 rfl rfl rfl k (by decide) (by decide) rfl rfl) _;apply q10 zEB _;apply q62 O24 _;apply zF _;exact eo H;apply zH _;exact eo H;apply z30 _;apply Q21 _;exact ew D;exact zC (ex D);apply zQ _;apply zG (zDQ (bid:=8) (off:=0) rfl rfl rfl) _;apply xM _;apply k6 ((jE lr G26 rfl rfl rfl rfl).data rfl) _;apply z7Z _;cases h;apply zK _;exact zAB rfl rfl G26 rfl
theorem z4A {a0 r} (h:zJ9 a0=some r):zB Tryz.prog 68 [(zJ aF a0)] [(bA.dv r)]:=by refine co Tryz.func68 ?_;intro _ _ _ _;unfold zJ9 at h;apply Q0 _;apply q85 _;apply zF<|Q2 _;apply q41 B26 _;apply k6 ((zBK lr B26 rfl rfl).nils (bs:=bA.cells ({Ranges:=[]}:Set)) (nlN nl0)) _;have ⟨_,k,h⟩:=bE h;apply q5 (zVX k) _;apply z7Z _;cases h;apply zK _;exact zAB rfl rfl G26 rfl
theorem z4B {a0 H r} (h:zKA a0 H=some r):zB Tryz.prog 67 [(bA.dv a0),(bA.dv H)] [(db r)]:=by
 refine co Tryz.func67 ?_;intro _ _ _ _;unfold zKA at h;apply Q92 _;apply q72 _;apply Q74 _;apply zZZ _;apply zZZ _;apply Q41 _;apply zX h (λh=>?_) (λh=>?_);apply Q3 _;exact er h;apply Q5 _;apply Q24 _;have ⟨G,k,h⟩:=bE h;apply zT G (.exit 0) (λG=>⟨[],[]⟩) .ret (λG=>⟨[(4,.d (db G))],[]⟩) _ _ _;apply zD (λx=>⟨[(2,.d (.pt (bA.cells a0))),(3,.d (.pt (bA.cells H))),(5,.d (di x))],[]⟩) k wc _
 rintro Z T D
 replace D:zEG a0 H Z=some T:=D;unfold zEG at D;apply Q4 _;apply zZZ _;apply Q6 _;apply zX D (λD=>?_) (λD=>?_);apply zVR _;apply yH MX rfl _;apply q56 zEB _;apply q57 O24 _;apply q9 _;have ⟨K,k,D⟩:=bE D;apply q36 S24 k _;apply daa (uU (en:=aF) (l:=a0.Ranges) (i:=Z) (v:=K) (off:=0) lr zSK rfl k rfl rfl (by decide)) _;apply q56 zEB _;apply q57 O24 _;apply q9 _;have ⟨O,k,D⟩:=bE D;apply q36 S24 k _;apply daa (uU (en:=aF) (l:=H.Ranges) (i:=Z) (v:=O) (off:=0) lr zSK rfl k rfl rfl (by decide)) _;apply daa (z2Y (en:=aF) (a:=K) (b:=O) lr yW5 rfl rfl) _;apply wZ _;apply zX D (λD=>?_) (λD=>?_);apply Q23 _;cases D;intro q;cases q;exact⟨rfl,wc⟩;apply Q50 _;exact ew D;apply zC _;cases D;intro q;cases q;exact⟨rfl,wc⟩
 rintro G rfl
 replace h:=eL h;apply Q3 _;exact er h
 rintro G rfl
 replace h:=eR h;exact es h
theorem zQ3 {a0 r} (h:zG0 a0=some r):zB Tryz.prog 26 [(bA.dv a0)] [(db r)]:=by refine co Tryz.func26 ?_;intro _ _ _ _;unfold zG0 at h;apply Q92 _;apply z31 _;apply yH MX rfl _;apply q67 G26 _;apply q56 zEB _;apply q57 O24 _;have ⟨_,k,h⟩:=bE h;apply q37 (z4A k) _;have ⟨_,k,h⟩:=bE h;apply q37 (z4B k) _;apply Q63 _;exact er h
theorem zND {a0 a1 Z r} (h:zGM a0 a1 Z=some r):zB Tryz.prog 27 [(zJ aB a0),(di a1),(db Z)] [(di r)]:=by
 refine co Tryz.func27 ?_;intro _ _ _ _;unfold zGM at h;apply Q88 _;have ⟨T,k,h⟩:=bE h;apply zT T (.exit 0) (λT=>⟨[],[]⟩) .ret (λT=>⟨[(6,.d (di T))],[]⟩) _ _ _;apply zD (λx=>⟨[(0,.d (zJ aB a0)),(1,.d (di a1)),(2,.d (db Z)),(7,.d (di x))],[]⟩) k wc _
 rintro O ad G
 replace G:zEH a0 a1 Z O=some ad:=G;unfold zEH at G;apply Q78 _;apply zX G (λG=>?_) (λG=>?_);apply Q77 _;have ⟨ag,k,G⟩:=bE G;apply q12 S23 k _;apply q66 zJD _;apply k6 (yA (en:=aB) (l:=a0) (i:=O) (v:=ag) (off:=0) lr O3 rfl k rfl) _;apply q0 _;apply q22 _;have ⟨H,k,G⟩:=bE G;apply q4 k _;apply q16 (.d (db Z)) _;have ⟨aa,ab,G⟩:=bE G;refine sqt (.d (db aa)) rfl (λhb=>by subst hb;exact(kW lr rfl).bool (oi ab)) ?_
 refine vI (x:= .d (zJ aB a0)) rfl rfl rfl lr lr rfl (λhb=>by obtain⟨hb,D⟩:=zS hb;obtain rfl:H=true:=hb;obtain rfl:=gF D;exact kW lr rfl) ?_
 refine vI (x:= .d (di O)) rfl rfl rfl lr lr rfl (λhb=>by obtain⟨hb,D⟩:=zS hb;obtain rfl:H=true:=hb;obtain rfl:=gF D;exact kW lr rfl) ?_
 have ⟨K,k,G⟩:=bE G;refine vI (x:= .ip (aB.all a0) (O.toNat*aB.size)) rfl rfl rfl lr lr rfl (λhb=>by obtain⟨hb,D⟩:=zS hb;obtain rfl:H=true:=hb;obtain rfl:=gF D;exact jB (en:=aB) lr S23 rfl rfl k) ?_
 refine vI (x:= .ip (aB.all a0) (O.toNat*aB.size+2)) rfl rfl rfl lr lr rfl (λhb=>by obtain⟨hb,D⟩:=zS hb;obtain rfl:H=true:=hb;obtain rfl:=gF D;exact jT lr zG4 rfl) ?_
 refine vI (x:= .d (ds K.bU)) rfl rfl rfl lr lr rfl (λhb=>by obtain⟨hb,D⟩:=zS hb;obtain rfl:H=true:=hb;obtain rfl:=gF D;exact yA (en:=aB) (l:=a0) (i:=O) (v:=K) (off:=2) lr O9 rfl k rfl) ?_
 refine vI (x:= .d (db (K.bU== []))) rfl rfl rfl lr lr rfl (λhb=>by obtain⟨hb,D⟩:=zS hb;obtain rfl:H=true:=hb;obtain rfl:=gF D;exact yAA (a:=K.bU) (b:=[]) lr rfl rfl) ?_
 apply yPQ (.d (db (aa ||(K.bU== [])))) _;apply Q39 _;apply zX G (λG=>?_) (λG=>?_);apply Q29 _;apply zK _;cases G;intro q;cases q;exact⟨rfl,wc⟩;apply Q50 _;exact ew G;apply zC _;cases G;intro q;cases q;exact⟨rfl,wc⟩
 rintro T rfl
 replace h:=eL h;apply Q3 _;exact er h
 rintro T rfl
 replace h:=eR h;exact es h
theorem zSR {a0 r} (h:zH5 a0=some r):zB Tryz.prog 28 [(di a0)] [(di r)]:=by refine co Tryz.func28 ?_;intro _ _ _ _;unfold zH5 at h;apply Q25 _;apply q40 _;have ⟨_,k,h⟩:=bE h;apply q4 k _;apply q16 (.d (di a0)) _;apply q60 (.d (db (decide (a0<=4370)))) _;apply Q39 _;apply zX h (λh=>?_) (λh=>?_);apply Q3 _;exact er h;apply Q94 _;apply q40 _;have ⟨_,k,h⟩:=bE h;apply q4 k _;apply q16 (.d (di a0)) _;apply q60 (.d (db (decide (a0<=4469)))) _;apply Q39 _;apply zX h (λh=>?_) (λh=>?_);apply Q3 _;exact er h;apply Q94 _;apply q40 _;have ⟨_,k,h⟩:=bE h;apply q4 k _;apply q16 (.d (di a0)) _;apply q60 (.d (db (decide (a0<=4546)))) _;apply Q39 _;apply zX h (λh=>?_) (λh=>?_);apply Q3 _;exact er h;apply Q94 _;apply q40 _;have ⟨_,k,h⟩:=bE h;apply q4 k _;apply q16 (.d (di a0)) _;apply q60 (.d (db (decide (a0<=55203)))) _;apply Q39 _;apply zX h (λh=>?_) (λh=>?_);apply Q4 _;apply q35 _;have ⟨_,k,h⟩:=bE h;apply z3V k _;apply Q95 _;apply zX h (λh=>?_) (λh=>?_);apply Q3 _;exact er h;apply Q68 _;exact er h;apply Q68 _;exact er h
theorem z0D {a0 O r} (h:zIT a0 O=some r):zB Tryz.prog 29 [(zJ aH a0),(di O)] [(di r)]:=by
 refine co Tryz.func29 ?_;intro _ _ _ _;unfold zIT at h;apply Q25 _;have ⟨_,k,h⟩:=bE h;apply q5 (zQ2 k) _;apply Q41 _;apply zX h (λh=>?_) (λh=>?_);apply Q3 _;exact er h;apply Q5 _;apply Q24 _;have ⟨T,k,h⟩:=bE h;apply zT T (.exit 0) (λT=>⟨[],[]⟩) .ret (λT=>⟨[(4,.d (di T))],[]⟩) _ _ _;apply zD (λx=>⟨[(0,.d (zJ aH a0)),(1,.d (di O)),(5,.d (di x))],[]⟩) k wc _
 rintro K Z D
 replace D:vK a0 O K=some Z:=D;unfold vK at D;apply Q16 _;apply q6 S22 _;apply Q6 _;apply zX D (λD=>?_) (λD=>?_);apply Q77 _;have ⟨aa,k,D⟩:=bE D;apply q12 S22 k _;apply q66 zI7 _;apply k6 (yA (en:=aH) (l:=a0) (i:=K) (v:=aa) (off:=0) lr O3 rfl k rfl) _;apply q0 _;apply q83 _;have ⟨_,k,D⟩:=bE D;apply q4 k _;apply q16 (.d (di O)) _;apply q16 (.d (zJ aH a0)) _;apply q16 (.d (di K)) _;have ⟨H,G,D⟩:=bE D;refine sqt (.ip (aH.all a0) (K.toNat*aH.size)) rfl (λhb=>by subst hb;exact jB (en:=aH) lr S22 rfl rfl G) ?_
 apply yGX (.ip (aH.all a0) (K.toNat*aH.size+1)) zI8 _;refine sqt (.d (di H.Hi)) rfl (λhb=>by subst hb;exact yA (en:=aH) (l:=a0) (i:=K) (v:=H) (off:=1) lr O3 rfl G rfl) ?_
 apply q60 (.d (db (decide (O<=H.Hi)))) _;apply Q39 _;apply zX D (λD=>?_) (λD=>?_);apply Q13 _;have ⟨ab,k,D⟩:=bE D;apply q12 S22 k _;apply q66 zLR _;apply k6 (yA (en:=aH) (l:=a0) (i:=K) (v:=ab) (off:=2) lr O3 rfl k rfl) _;apply Q1 _;apply zK _;cases D;intro q;cases q;exact⟨rfl,wc⟩;apply Q50 _;exact ew D;apply zC _;cases D;intro q;cases q;exact⟨rfl,wc⟩
 rintro T rfl
 replace h:=eL h;apply Q3 _;exact er h
 rintro T rfl
 replace h:=eR h;exact es h
theorem z4C {a0 r} (h:zKB a0=some r):zB Tryz.prog 30 [(zJ aB a0)] [(zJ eB r)]:=by
 refine co Tryz.func30 ?_;intro _ _ _ _;unfold zKB at h;apply Q62 _;apply q6 S23 _;have ⟨G,k,h⟩:=bE h;apply zU rfl (z2R (en:=eB) lr S84 rfl rfl k (by decide) rfl) _;apply Q11 _;apply Q38 _;have ⟨y1,k,h⟩:=bE h;apply tl (.exit 0) ⟨[(3,.row 11)],[(11,.row 4 eB.size false (eB.all y1))]⟩ _ _;apply zD (λx=>⟨[(0,.d (zJ aB a0)),(3,.row 11),(4,.d (di x.1))],[(11,.row 4 eB.size false (eB.all x.2))]⟩) k wc _
 rintro⟨v4,G⟩ ai T
 replace T:zCG a0 v4 G=some ai:=T;unfold zCG at T;apply Q78 _;apply zX T (λT=>?_) (λT=>?_);apply Q10 _;apply Q24 _;have ⟨y2,k,T⟩:=bE T;apply tl (.exit 2) ⟨[(0,.d (zJ aB a0)),(3,.row 11),(4,.d (di v4))],[(11,.row 4 eB.size false (eB.all y2))]⟩ _ _;apply zD (λx=>⟨[(0,.d (zJ aB a0)),(3,.row 11),(4,.d (di v4)),(5,.d (di x.1))],[(11,.row 4 eB.size false (eB.all x.2))]⟩) k wc _
 rintro⟨v5,G⟩ aj K
 replace K:zCF a0 v5 G=some aj:=K;unfold zCF at K;apply Q78 _;apply zX K (λK=>?_) (λK=>?_);apply Q10 _;apply Q88 _;have ⟨y3,k,K⟩:=bE K;apply tl (.exit 4) ⟨[(0,.d (zJ aB a0)),(3,.row 11),(4,.d (di v4)),(5,.d (di v5)),(6,.d (db y3))],[(11,.row 4 eB.size false (eB.all G))]⟩ _ _;apply zD (λx=>⟨[(0,.d (zJ aB a0)),(3,.row 11),(4,.d (di v4)),(5,.d (di v5)),(6,.d (db x.1)),(7,.d (di x.2))],[(11,.row 4 eB.size false (eB.all G))]⟩) k wc _
 rintro⟨v6,v7⟩ ak D
 replace D:uP a0 v5 G v6 v7=some ak:=D;unfold uP at D;apply Q16 _;apply q0 _;have ⟨_,k,D⟩:=bE D;apply q12 S23 k _;apply q66 zFL _;apply z7P O39 k _;apply z7X _;apply zX D (λD=>?_) (λD=>?_);apply Q77 _;apply q0 _;have ⟨_,k,D⟩:=bE D;apply q12 S23 k _;apply q66 zFL _;apply z7P O39 k _;apply q0 _;have ⟨_,k,D⟩:=bE D;apply q12 yP k _;apply q46 O3 k _;have ⟨O,k,D⟩:=bE D;apply q5 (zND k) _;apply Q1 _;apply Q9 _;have ⟨Z,k,D⟩:=bE D;apply q4 k _;apply q16 (.d (di O)) _;apply q84 (.d (db (decide (O<0)))) _;have ⟨ac,ad,D⟩:=bE D;refine sqt (.d (db ac)) rfl (λhb=>by subst hb;exact(kW lr rfl).bool (oi ad)) ?_
 refine vI (x:= .row 11) rfl rfl rfl lr lr rfl (λhb=>by obtain⟨hb,H⟩:=zS hb;obtain rfl:Z=true:=hb;obtain rfl:=gF H;exact zGI lr rfl) ?_
 refine vI (x:= .d (di O)) rfl rfl rfl lr lr rfl (λhb=>by obtain⟨hb,H⟩:=zS hb;obtain rfl:Z=true:=hb;obtain rfl:=gF H;exact kW lr rfl) ?_
 have ⟨ab,k,D⟩:=bE D;refine vI (x:= .ptr 11 (O.toNat*eB.size)) rfl rfl rfl lr lr rfl (λhb=>by obtain⟨hb,H⟩:=zS hb;obtain rfl:Z=true:=hb;obtain rfl:=gF H;exact zR9 (en:=eB) (l:=G) lr S84 rfl rfl rfl k) ?_
 refine vI (x:= .d (db ab)) rfl rfl rfl lr lr rfl (λhb=>by obtain⟨hb,H⟩:=zS hb;obtain rfl:Z=true:=hb;obtain rfl:=gF H;exact zL5 (en:=eB) (l:=G) (i:=O) (v:=ab) (off:=0) lr O4 rfl rfl k rfl) ?_
 apply yPQ (.d (db (ac ||ab))) _;apply Q51 _;apply Q21 _;exact ew D;exact zC (ex D);apply z34 _;have ⟨al,k,K⟩:=bE K;apply q92 S84 k _;have ⟨_,aa,K⟩:=bE K;apply zU rfl (zG8 (en:=eB) (l:=G) (i:=v5) (v:=al) (off:=0) O4 rfl rfl rfl k rfl (by decide) aa rfl rfl) _;apply zF<|Q21 _;exact ew K;exact zC (ex K);apply Q21 _;exact ew T;exact zC (ex T);apply Q79 _;exact er h
theorem zSS {a0 r} (h:zD2 a0=some r):zB Tryz.prog 69 [(di a0)] [(zJ eI r)]:=by refine co Tryz.func69 ?_;intro _ _ _ _;unfold zD2 at h;apply Q25 _;have ⟨_,k,h⟩:=bE h;apply q5 (zSR k) _;apply Q6 _;apply zX h (λh=>?_) (λh=>?_);apply Q2 _;apply q58 yP _;apply Q11 _;exact er h;apply Q90 _;apply q35 _;apply Q40 _;have ⟨_,k,h⟩:=bE h;apply yGY k _;have ⟨G,k,h⟩:=bE h;apply yGY k _;apply yHP _;have ⟨_,k,h⟩:=bE h;apply yGY k _;have ⟨H,k,h⟩:=bE h;apply z3V k _;apply q2 _;apply q58 yP _;apply Q11 _;apply Q4 _;have ⟨_,k,h⟩:=bE h;apply z3V k _;apply Q59 _;have ⟨O,D,h⟩:=bE h;apply tl .normal ⟨[(4,.row 20)],[(20,.row 3 eI.size false (eI.all O))]⟩ _ _;apply zX D (λD=>?_) (λD=>?_);apply yHQ _;have ⟨K,k,D⟩:=bE D;apply z3V k _;apply q2 _;apply q35 _;apply q30 yP _;have ⟨_,k,D⟩:=bE D;apply zU rfl (zY (en:=eI) (l:=[wi (4352+G),wi (4449+H)]) (m:=[wi ((wi (4520+K))-1)]) lr yP rfl rfl rfl k (by decide) (by decide) rfl rfl) _;apply Q11 _;exact eo D;apply zH _;exact eo D;apply Q79 _;exact er h
theorem zNS {a0 K r} (h:zEI a0 K=some r):zB Tryz.prog 31 [(zJ aB a0),(db K)] [(zJ eI r)]:=by
 refine co Tryz.func31 ?_;intro _ _ _ _;unfold zEI at h;apply Q62 _;apply q6 S23 _;have ⟨H,k,h⟩:=bE h;apply zU rfl (z2R (en:=eI) lr yP rfl rfl k (by decide) rfl) _;apply Q11 _;apply Q38 _;have ⟨y1,k,h⟩:=bE h;apply tl (.exit 0) ⟨[(5,.row 13)],[(13,.row 3 eI.size false (eI.all y1))]⟩ _ _;apply zD (λx=>⟨[(0,.d (zJ aB a0)),(1,.d (db K)),(5,.row 13),(6,.d (di x.1))],[(13,.row 3 eI.size false (eI.all x.2))]⟩) k wc _
 rintro⟨v6,H⟩ ah T
 replace T:uC a0 K v6 H=some ah:=T;unfold uC at T;apply Q78 _;apply zX T (λT=>?_) (λT=>?_);apply Q10 _;apply Q24 _;have ⟨y2,k,T⟩:=bE T;apply tl (.exit 2) ⟨[(0,.d (zJ aB a0)),(1,.d (db K)),(5,.row 13),(6,.d (di v6))],[(13,.row 3 eI.size false (eI.all y2))]⟩ _ _;apply zD (λx=>⟨[(0,.d (zJ aB a0)),(1,.d (db K)),(5,.row 13),(6,.d (di v6)),(7,.d (di x.1))],[(13,.row 3 eI.size false (eI.all x.2))]⟩) k wc _
 rintro⟨v7,H⟩ ai Z
 replace Z:uB a0 K v7 H=some ai:=Z;unfold uB at Z;apply Q78 _;apply zX Z (λZ=>?_) (λZ=>?_);apply Q5 _;have ⟨y3,D,Z⟩:=bE Z;apply tl .normal ⟨[(0,.d (zJ aB a0)),(1,.d (db K)),(5,.row 13),(6,.d (di v6)),(7,.d (di v7))],[(13,.row 3 eI.size false (eI.all y3))]⟩ _ _;apply kV<|Q88 _;have ⟨y4,k,D⟩:=bE D;apply tl (.exit 4) ⟨[(0,.d (zJ aB a0)),(1,.d (db K)),(5,.row 13),(6,.d (di v6)),(7,.d (di v7)),(8,.d (di y4))],[(13,.row 3 eI.size false (eI.all H))]⟩ _ _;apply zD (λx=>⟨[(0,.d (zJ aB a0)),(1,.d (db K)),(5,.row 13),(6,.d (di v6)),(7,.d (di v7)),(8,.d (di x.1)),(9,.d (di x.2))],[(13,.row 3 eI.size false (eI.all H))]⟩) k wc _
 rintro⟨v8,v9⟩ aj O
 replace O:wM a0 v7 K H v8 v9=some aj:=O;unfold wM at O;apply Q16 _;apply q0 _;have ⟨_,k,O⟩:=bE O;apply q12 S23 k _;apply q66 zFL _;apply z7P O39 k _;apply z7X _;apply zX O (λO=>?_) (λO=>?_);apply Q5 _;have ⟨y5,G,O⟩:=bE O;apply tl .normal ⟨[(0,.d (zJ aB a0)),(1,.d (db K)),(5,.row 13),(6,.d (di v6)),(7,.d (di v7)),(8,.d (di y5)),(9,.d (di v9))],[(13,.row 3 eI.size false (eI.all H))]⟩ _ _;apply z32 _;apply q0 _;have ⟨_,k,G⟩:=bE G;apply q12 S23 k _;apply q66 zFL _;apply z7P O39 k _;apply q0 _;have ⟨_,k,G⟩:=bE G;apply q12 yP k _;apply q46 O3 k _;apply q0 _;have ⟨ak,k,G⟩:=bE G;apply q5 (zND k) _;apply Q40 _;apply yL0 _;apply zX G (λG=>?_) (λG=>?_);apply Q9 _;apply q11 _;apply q0 _;have ⟨al,k,G⟩:=bE G;apply q92 yP k _;apply k6 (zL5 (en:=eI) (l:=H) (i:=ak) (v:=al) (off:=0) lr O3 rfl rfl k rfl) _;apply Q17 _;exact eo G;apply Q9 _;apply Q26 _;have ⟨_,k,G⟩:=bE G;apply q12 S23 k _;apply q66 zFL _;apply z7P O39 k _;apply q0 _;have ⟨_,k,G⟩:=bE G;apply q12 yP k _;apply q46 O3 k _;have ⟨_,k,G⟩:=bE G;apply q5 (zSS k) _;apply q6 yP _;apply Q17 _;exact eo G;apply Q21 _;exact ew O;exact zC (ex O);apply zZ1 _;apply yGZ _;apply yLL _;have ⟨am,k,D⟩:=bE D;apply q92 yP k _;have ⟨ad,aa,D⟩:=bE D;apply zU rfl (zG8 (en:=eI) (l:=H) (i:=v7) (v:=am) (off:=0) O3 rfl rfl rfl k rfl (by decide) aa rfl rfl) _;apply zF<|Q13 _;have ⟨an,k,D⟩:=bE D;apply q12 S23 k _;apply q66 zG4 _;apply k6 (yA (en:=aB) (l:=a0) (i:=v7) (v:=an) (off:=2) lr O9 rfl k rfl) _;apply yGU _;have ⟨_,k,D⟩:=bE D;apply q4 k _;apply q16 (.d (db K)) _;apply q96 (.d (db (!K))) _;apply Q39 _;apply zX D (λD=>?_) (λD=>?_);apply yHQ _;have ⟨ao,k,D⟩:=bE D;apply q92 yP k _;have ⟨_,ab,D⟩:=bE D;apply zU rfl (zG8 (en:=eI) (l:=ad) (i:=v7) (v:=ao) (off:=0) O3 rfl rfl rfl k rfl (by decide) ab rfl rfl) _;apply zF _;exact eo D;apply zH _;exact eo D;apply Q21 _;exact ew Z;exact zC (ex Z);apply Q21 _;exact ew T;exact zC (ex T);apply Q79 _;exact er h
theorem z0E {a0 r} (h:zIU a0=some r):zB Tryz.prog 6 [(aU.dv a0)] [(di r)]:=by
 refine co Tryz.func6 ?_;intro _ _ _ _;unfold zIU at h;apply Q43 _;apply Q74 _;apply q8 zMC _;apply q7 O22 _;have ⟨_,k,h⟩:=bE h;apply q5 (zQ2 k) _;apply z3Z _;apply zX h (λh=>?_) (λh=>?_);apply Q29 _;exact er h;apply Q81 _;apply zZ2 _;have ⟨_,k,h⟩:=bE h;apply q5 (z0B k) _;apply z3Z _;apply zX h (λh=>?_) (λh=>?_);apply Q29 _;exact er h;apply Q81 _;apply q8 z7L _;apply z7Q G26 _;have ⟨_,k,h⟩:=bE h;apply q5 (zQ3 k) _;apply Q45 _;apply zX h (λh=>?_) (λh=>?_);apply Q3 _;exact er h;apply Q32 _;apply zZ2 _;apply Q1 _;apply Q38 _;have ⟨y1,k,h⟩:=bE h;apply zT y1 (.exit 0) (λy1=>⟨[(1,.d (.pt (aU.cells a0))),(5,.d (zJ aB a0.aA))],[]⟩) .ret (λy1=>⟨[(2,.d (di y1))],[]⟩) _ _ _;apply zD (λx=>⟨[(1,.d (.pt (aU.cells a0))),(5,.d (zJ aB a0.aA)),(6,.d (di x))],[]⟩) k wc _
 rintro v6 be Z
 replace Z:zC4 a0 v6=some be:=Z;unfold zC4 at Z;apply Q78 _;apply zX Z (λZ=>?_) (λZ=>?_);apply Q77 _;apply q0 _;have ⟨bj,k,Z⟩:=bE Z;apply q12 S23 k _;apply q66 zJD _;apply k6 (yA (en:=aB) (l:=a0.aA) (i:=v6) (v:=bj) (off:=0) lr O3 rfl k rfl) _;have ⟨_,k,Z⟩:=bE Z;apply q5 (zND k) _;apply q0 _;apply Q6 _;apply zX Z (λZ=>?_) (λZ=>?_);apply Q23 _;cases Z;intro q;cases q;exact⟨rfl,wc⟩;apply Q50 _;exact ew Z;apply zC _;cases Z;intro q;cases q;exact⟨rfl,wc⟩
 rintro y1 rfl
 replace h:=eL h;apply Q38 _;have ⟨y2,k,h⟩:=bE h;apply zT y2 (.exit 2) (λy2=>⟨[(1,.d (.pt (aU.cells a0))),(5,.d (zJ aB a0.aA))],[]⟩) .ret (λy2=>⟨[(2,.d (di y2))],[]⟩) _ _ _;apply zD (λx=>⟨[(1,.d (.pt (aU.cells a0))),(5,.d (zJ aB a0.aA)),(7,.d (di x))],[]⟩) k wc _
 rintro v7 bf K
 replace K:zC5 a0 v7=some bf:=K;unfold zC5 at K;apply Q78 _;apply zX K (λK=>?_) (λK=>?_);apply Q77 _;have ⟨bk,k,K⟩:=bE K;apply q12 S23 k _;apply q66 zG4 _;apply k6 (yA (en:=aB) (l:=a0.aA) (i:=v7) (v:=bk) (off:=2) lr O9 rfl k rfl) _;apply yPZ _;have ⟨_,k,K⟩:=bE K;apply q4 k _;apply q16 (.d (zJ aB a0.aA)) _;apply q16 (.d (di v7)) _;have ⟨ai,an,K⟩:=bE K;refine sqt (.ip (aB.all a0.aA) (v7.toNat*aB.size)) rfl (λhb=>by subst hb;exact jB (en:=aB) lr S23 rfl rfl an) ?_
 apply yGX (.ip (aB.all a0.aA) (v7.toNat*aB.size+1)) zFL _;refine sqt (.d (zJ eI ai.To)) rfl (λhb=>by subst hb;exact yA (en:=aB) (l:=a0.aA) (i:=v7) (v:=ai) (off:=1) lr O39 rfl an rfl) ?_
 apply yBF (.d (di (ai.To.length:Int))) yP _;apply yG0 (.d (db (!decide ((ai.To.length:Int)=1)))) _;apply q19 _;have ⟨_,k,K⟩:=bE K;apply q4 k _;apply q16 (.d (zJ aB a0.aA)) _;apply q16 (.d (di v7)) _;have ⟨aj,ao,K⟩:=bE K;refine sqt (.ip (aB.all a0.aA) (v7.toNat*aB.size)) rfl (λhb=>by subst hb;exact jB (en:=aB) lr S23 rfl rfl ao) ?_
 apply yGX (.ip (aB.all a0.aA) (v7.toNat*aB.size+1)) zFL _;refine sqt (.d (zJ eI aj.To)) rfl (λhb=>by subst hb;exact yA (en:=aB) (l:=a0.aA) (i:=v7) (v:=aj) (off:=1) lr O39 rfl ao rfl) ?_
 apply yBF (.d (di (aj.To.length:Int))) yP _;apply yG0 (.d (db (!decide ((aj.To.length:Int)=2)))) _;apply Q39 _;apply zX K (λK=>?_) (λK=>?_);apply Q23 _;cases K;intro q;cases q;exact⟨rfl,wc⟩;apply Q50 _;exact ew K;apply zC _;cases K;intro q;cases q;exact⟨rfl,wc⟩
 rintro y2 rfl
 replace h:=eL h;apply Q38 _;have ⟨y3,k,h⟩:=bE h;apply zT y3 (.exit 4) (λy3=>⟨[(5,.d (zJ aB a0.aA))],[]⟩) .ret (λy3=>⟨[(2,.d (di y3))],[]⟩) _ _ _;apply zD (λx=>⟨[(1,.d (.pt (aU.cells a0))),(5,.d (zJ aB a0.aA)),(8,.d (di x))],[]⟩) k wc _
 rintro v8 bg G
 replace G:zC6 a0 v8=some bg:=G;unfold zC6 at G;apply Q78 _;apply zX G (λG=>?_) (λG=>?_);apply zVR _;apply yH MX rfl _;apply Q44 _;have ⟨_,k,G⟩:=bE G;apply q36 S23 k _;apply q78 zJD _;apply yLI O3 k _;have ⟨_,k,G⟩:=bE G;apply q37 (zSR k) _;apply daa (z0S lr rfl rfl) _;have ⟨_,k,G⟩:=bE G;apply q79 k _;apply q75 (.d (zJ aB a0.aA)) _;apply q75 (.d (di v8)) _;have ⟨ak,ap,G⟩:=bE G;refine daf (.ip (aB.all a0.aA) (v8.toNat*aB.size)) rfl (λhb=>by subst hb;exact jB (en:=aB) lr S23 rfl rfl ap) ?_
 apply z3S (.ip (aB.all a0.aA) (v8.toNat*aB.size+2)) zG4 _;refine daf (.d (ds ak.bU)) rfl (λhb=>by subst hb;exact yA (en:=aB) (l:=a0.aA) (i:=v8) (v:=ak) (off:=2) lr O9 rfl ap rfl) ?_
 refine daf (.d (db (!(ak.bU== [])))) rfl (λhb=>by subst hb;exact yAB (a:=ak.bU) (b:=[]) lr rfl rfl) ?_
 have ⟨H,ba,G⟩:=bE G;refine daf (.d (db H)) rfl (λhb=>by subst hb;exact(kW lr rfl).bool (oi ba)) ?_
 refine zFU (x:= .ip (aU.cells a0) (0+0)) rfl rfl rfl lr lr rfl (λhb=>by obtain⟨hb,D⟩:=zS hb;obtain rfl:=gF hb;obtain rfl:H=true:=D;exact zAA lr zMC rfl) ?_
 refine zFU (x:= .d (zJ aH a0.aI)) rfl rfl rfl lr lr rfl (λhb=>by obtain⟨hb,D⟩:=zS hb;obtain rfl:=gF hb;obtain rfl:H=true:=D;exact yV lr O22 rfl rfl) ?_
 refine zFU (x:= .d (zJ aB a0.aA)) rfl rfl rfl lr lr rfl (λhb=>by obtain⟨hb,D⟩:=zS hb;obtain rfl:=gF hb;obtain rfl:H=true:=D;exact kW lr rfl) ?_
 refine zFU (x:= .d (di v8)) rfl rfl rfl lr lr rfl (λhb=>by obtain⟨hb,D⟩:=zS hb;obtain rfl:=gF hb;obtain rfl:H=true:=D;exact kW lr rfl) ?_
 have ⟨aq,k,G⟩:=bE G;refine zFU (x:= .ip (aB.all a0.aA) (v8.toNat*aB.size)) rfl rfl rfl lr lr rfl (λhb=>by obtain⟨hb,D⟩:=zS hb;obtain rfl:=gF hb;obtain rfl:H=true:=D;exact jB (en:=aB) lr S23 rfl rfl k) ?_
 refine zFU (x:= .ip (aB.all a0.aA) (v8.toNat*aB.size+0)) rfl rfl rfl lr lr rfl (λhb=>by obtain⟨hb,D⟩:=zS hb;obtain rfl:=gF hb;obtain rfl:H=true:=D;exact jT lr zJD rfl) ?_
 refine zFU (x:= .d (di aq.aN)) rfl rfl rfl lr lr rfl (λhb=>by obtain⟨hb,D⟩:=zS hb;obtain rfl:=gF hb;obtain rfl:H=true:=D;exact yA (en:=aB) (l:=a0.aA) (i:=v8) (v:=aq) (off:=0) lr O3 rfl k rfl) ?_
 have ⟨ac,k,G⟩:=bE G;refine zFU (x:= .d (di ac)) rfl rfl rfl lr lr rfl (λhb=>by obtain⟨hb,D⟩:=zS hb;obtain rfl:=gF hb;obtain rfl:H=true:=D;exact wA lr rfl (z0D k)) ?_
 refine zFU (x:= .d (db (!decide (ac=0)))) rfl rfl rfl lr lr rfl (λhb=>by obtain⟨hb,D⟩:=zS hb;obtain rfl:=gF hb;obtain rfl:H=true:=D;exact z0S lr rfl rfl) ?_
 refine daf (.d (db (H&&(!decide (ac=0))))) rfl (λhb=>by subst hb;exact zHZ lr rfl rfl) ?_
 apply z3T _;apply wZ _;apply zX G (λG=>?_) (λG=>?_);apply Q23 _;cases G;intro q;cases q;exact⟨rfl,wc⟩;apply Q50 _;exact ew G;apply zC _;cases G;intro q;cases q;exact⟨rfl,wc⟩
 rintro y3 rfl
 replace h:=eL h;apply Q2 _;have ⟨ad,k,h⟩:=bE h;apply q5 (z4C k) _;apply Q1 _;apply Q38 _;have ⟨y4,k,h⟩:=bE h;apply zT y4 (.exit 6) (λy4=>⟨[(5,.d (zJ aB a0.aA))],[]⟩) .ret (λy4=>⟨[(2,.d (di y4))],[]⟩) _ _ _;apply zD (λx=>⟨[(5,.d (zJ aB a0.aA)),(9,.d (zJ eB ad)),(10,.d (di x))],[]⟩) k wc _
 rintro bc bh p4
 replace p4:zC7 a0 ad bc=some bh:=p4;unfold zC7 at p4;apply Q78 _;apply zX p4 (λp4=>?_) (λp4=>?_);apply Q77 _;have ⟨bb,k,p4⟩:=bE p4;apply q12 S84 k _;apply k6 (yA (en:=eB) (l:=ad) (i:=bc) (v:=bb) (off:=0) lr O4 rfl k rfl) _;apply Q45 _;apply zX p4 (λp4=>?_) (λp4=>?_);apply Q23 _;cases p4;intro q;cases q;exact⟨rfl,wc⟩;apply Q50 _;exact ew p4;apply zC _;cases p4;intro q;cases q;exact⟨rfl,wc⟩
 rintro y4 rfl
 replace h:=eL h;apply Q2 _;have ⟨ar,k,h⟩:=bE h;apply q5 (zNS k) _;apply q0 _;have ⟨T,k,h⟩:=bE h;apply q5 (zNS k) _;apply Q8 _;apply Q38 _;have ⟨y5,k,h⟩:=bE h;apply zT y5 (.exit 8) (λy5=>⟨[],[]⟩) .ret (λy5=>⟨[(2,.d (di y5))],[]⟩) _ _ _;apply zD (λx=>⟨[(5,.d (zJ aB a0.aA)),(11,.d (zJ eI ar)),(12,.d (zJ eI T)),(13,.d (di x))],[]⟩) k wc _
 rintro al bi O
 replace O:zC8 a0 ar T al=some bi:=O;unfold zC8 at O;apply Q78 _;apply zX O (λO=>?_) (λO=>?_);apply Q77 _;have ⟨_,k,O⟩:=bE O;apply q12 yP k _;apply q46 O3 k _;apply q53 _;have ⟨_,k,O⟩:=bE O;apply q4 k _;apply q28 (.d (zJ eI T)) _;apply q28 (.d (di al)) _;have ⟨ag,ab,O⟩:=bE O;refine sqf (.ip (eI.all T) (al.toNat*eI.size)) rfl (λhb=>by subst hb;exact jB (en:=eI) lr yP rfl rfl ab) ?_
 refine sqf (.d (di ag)) rfl (λhb=>by subst hb;exact yA (en:=eI) (l:=T) (i:=al) (v:=ag) (off:=0) lr O3 rfl ab rfl) ?_
 apply q55 (.d (db (decide (64<ag)))) _;apply Q36 _;apply zX O (λO=>?_) (λO=>?_);apply Q23 _;cases O;intro q;cases q;exact⟨rfl,wc⟩;apply Q50 _;exact ew O;apply zC _;cases O;intro q;cases q;exact⟨rfl,wc⟩
 rintro y5 rfl
 replace h:=eL h;apply Q3 _;exact er h
 rintro y5 rfl
 replace h:=eR h;exact es h
 rintro y4 rfl
 replace h:=eR h;exact es h
 rintro y3 rfl
 replace h:=eR h;exact es h
 rintro y2 rfl
 replace h:=eR h;exact es h
 rintro y1 rfl
 replace h:=eR h;exact es h
theorem zLT {a0 r} (h:zE0 a0=some r):zB Tryz.prog 70 [(zJ bA a0)] [(db r)]:=by
 refine co Tryz.func70 ?_;intro _ _ _ _;unfold zE0 at h;apply Q88 _;have ⟨K,k,h⟩:=bE h;apply zT K (.exit 0) (λK=>⟨[],[]⟩) .ret (λK=>⟨[(2,.d (db K))],[]⟩) _ _ _;apply zD (λx=>⟨[(0,.d (zJ bA a0)),(3,.d (di x))],[]⟩) k wc _
 rintro O T D
 replace D:zC9 a0 O=some T:=D;unfold zC9 at D;apply Q16 _;apply q6 S73 _;apply Q6 _;apply zX D (λD=>?_) (λD=>?_);apply Q77 _;have ⟨_,k,D⟩:=bE D;apply q12 S73 k _;apply yGW G26 k _;have ⟨_,k,D⟩:=bE D;apply q5 (zQ3 k) _;apply q29 _;have ⟨_,k,D⟩:=bE D;apply q4 k _;apply q28 (.d (zJ bA a0)) _;apply q28 (.d (di O)) _;have ⟨G,H,D⟩:=bE D;refine sqf (.ip (bA.all a0) (O.toNat*bA.size)) rfl (λhb=>by subst hb;exact jB (en:=bA) lr S73 rfl rfl H) ?_
 apply yGV (.ip (bA.all a0) (O.toNat*bA.size+0)) zEB _;refine sqf (.d (zJ aF G.Ranges)) rfl (λhb=>by subst hb;exact yA (en:=bA) (l:=a0) (i:=O) (v:=G) (off:=0) lr O24 rfl H rfl) ?_
 apply q74 (.d (di (G.Ranges.length:Int))) S24 _;apply z7O (.d (db (decide ((G.Ranges.length:Int)=0)))) _;apply Q36 _;apply zX D (λD=>?_) (λD=>?_);apply Q23 _;cases D;intro q;cases q;exact⟨rfl,wc⟩;apply Q50 _;exact ew D;apply zC _;cases D;intro q;cases q;exact⟨rfl,wc⟩
 rintro K rfl
 replace h:=eL h;apply Q3 _;exact er h
 rintro K rfl
 replace h:=eR h;exact es h
theorem z79 {a0 r} (h:zJR a0=some r):zB Tryz.prog 32 [(aC.dv a0)] [(di r)]:=by
 refine co Tryz.func32 ?_;intro _ _ _ _;unfold zJR at h;apply yBQ _;apply Q74 _;apply q8 zKH _;apply zZ3 _;apply q3 _;have ⟨_,k,h⟩:=bE h;apply q4 k _;apply q33 (.ip (aC.cells a0) (0+1)) zKH _;apply q34 (.d (zJ bA a0.aX)) O73 _;apply q74 (.d (di (a0.aX.length:Int))) S73 _;apply q55 (.d (db (decide (8<(a0.aX.length:Int))))) _;apply q21 _;have ⟨_,k,h⟩:=bE h;apply q4 k _;apply q33 (.ip (aC.cells a0) (0+0)) zSM _;apply q34 (.d (zJ bA a0.aR)) O73 _;apply q74 (.d (di (a0.aR.length:Int))) S73 _;apply q55 (.d (db (decide (8<(a0.aR.length:Int))))) _;apply q21 _;have ⟨_,k,h⟩:=bE h;apply q4 k _;apply q33 (.ip (aC.cells a0) (0+2)) zSN _;apply q34 (.d (zJ bA a0.bP)) O73 _;apply q74 (.d (di (a0.bP.length:Int))) S73 _;apply q55 (.d (db (decide (8<(a0.bP.length:Int))))) _;apply q21 _;have ⟨_,k,h⟩:=bE h;apply q4 k _;apply q33 (.ip (aC.cells a0) (0+3)) zSO _;apply q34 (.d (zJ b6 a0.Result)) O74 _;apply q74 (.d (di (a0.Result.length:Int))) S74 _;apply q55 (.d (db (decide (16<(a0.Result.length:Int))))) _;apply Q36 _;apply zX h (λh=>?_) (λh=>?_);apply Q3 _;exact er h;apply Q81 _;apply q8 zSM _;apply q7 O73 _;have ⟨_,k,h⟩:=bE h;apply q5 (zLT k) _;apply q29 _;have ⟨_,k,h⟩:=bE h;apply q4 k _;apply q33 (.ip (aC.cells a0) (0+1)) zKH _;apply q34 (.d (zJ bA a0.aX)) O73 _;have ⟨aa,O,h⟩:=bE h;refine sqf (.d (db aa)) rfl (λhb=>by subst hb;exact wA lr rfl (zLT O)) ?_
 apply q88 (.d (db (!aa))) _;apply q21 _;have ⟨_,k,h⟩:=bE h;apply q4 k _;apply q33 (.ip (aC.cells a0) (0+2)) zSN _;apply q34 (.d (zJ bA a0.bP)) O73 _;have ⟨ab,T,h⟩:=bE h;refine sqf (.d (db ab)) rfl (λhb=>by subst hb;exact wA lr rfl (zLT T)) ?_
 apply q88 (.d (db (!ab))) _;apply Q36 _;apply zX h (λh=>?_) (λh=>?_);apply Q3 _;exact er h;apply Q5 _;apply Q24 _;have ⟨H,k,h⟩:=bE h;apply zT H (.exit 0) (λH=>⟨[],[]⟩) .ret (λH=>⟨[(2,.d (di H))],[]⟩) _ _ _;apply zD (λx=>⟨[(1,.d (.pt (aC.cells a0))),(3,.d (di x))],[]⟩) k wc _
 rintro v3 ac D
 replace D:zFH a0 v3=some ac:=D;unfold zFH at D;apply Q4 _;apply q8 zSO _;apply q7 O74 _;apply q6 S74 _;apply Q6 _;apply zX D (λD=>?_) (λD=>?_);apply Q31 _;apply q8 zSO _;apply q7 O74 _;apply q0 _;have ⟨G,k,D⟩:=bE D;apply q12 S74 k _;apply yP0 z7J k _;apply q49 _;apply q13 z7J _;apply zF _;apply zG (zO (t:=4) lr rfl rfl rfl) _;apply Q0 _;apply q8 zKG _;apply q7 O3 _;apply q22 _;have ⟨_,k,D⟩:=bE D;apply q4 k _;apply q70 (.ip (b6.cells G) (0+0)) zT6 _;apply q73 (.d (di G.Code)) O3 _;have ⟨ad,Z,D⟩:=bE D;refine sqt (.d (db ad)) rfl (λhb=>by subst hb;exact wA lr rfl (zCN Z)) ?_
 apply q19 _;apply Q49 _;apply q8 zT6 _;apply q7 O3 _;apply q22 _;have ⟨_,k,D⟩:=bE D;apply q4 k _;apply q70 (.ip (b6.cells G) (0+1)) zKG _;apply q73 (.d (di G.bW)) O3 _;apply yBE (.d (db (decide (1<=G.bW)))) _;apply q19 _;have ⟨K,k,D⟩:=bE D;apply q4 k _;apply q70 (.ip (b6.cells G) (0+1)) zKG _;apply q73 (.d (di G.bW)) O3 _;apply q70 (.ip (aC.cells a0) (0+1)) zKH _;apply q73 (.d (zJ bA a0.aX)) O73 _;apply yBF (.d (di (a0.aX.length:Int))) S73 _;apply q60 (.d (db (decide (G.bW<=(a0.aX.length:Int))))) _;apply q19 _;apply Q40 _;apply q29 _;have ⟨_,k,D⟩:=bE D;apply q4 k _;apply q16 (.d (db (K&&(decide (G.bW<=(a0.aX.length:Int)))))) _;apply q96 (.d (db (!(K&&(decide (G.bW<=(a0.aX.length:Int))))))) _;apply Q39 _;apply zX D (λD=>?_) (λD=>?_);apply Q23 _;cases D;intro q;cases q;exact⟨rfl,wc⟩;apply Q50 _;exact ew D;apply zC _;cases D;intro q;cases q;exact⟨rfl,wc⟩
 rintro H rfl
 replace h:=eL h;apply Q3 _;exact er h
 rintro H rfl
 replace h:=eR h;exact es h
theorem z0F {a0 r} (h:zIV a0=some r):zB Tryz.prog 7 [(zJ aC a0)] [(di r)]:=by
 refine co Tryz.func7 ?_;intro _ _ _ _;unfold zIV at h;apply Q25 _;apply q6 S29 _;apply Q59 _;apply zX h (λh=>?_) (λh=>?_);apply Q3 _;exact er h;apply Q5 _;apply Q24 _;have ⟨G,k,h⟩:=bE h;apply zT G (.exit 0) (λG=>⟨[],[]⟩) .ret (λG=>⟨[(2,.d (di G))],[]⟩) _ _ _;apply zD (λx=>⟨[(0,.d (zJ aC a0)),(3,.d (di x))],[]⟩) k wc _
 rintro K H D
 replace D:zDA a0 K=some H:=D;unfold zDA at D;apply Q16 _;apply q6 S29 _;apply Q6 _;apply zX D (λD=>?_) (λD=>?_);apply Q77 _;have ⟨_,k,D⟩:=bE D;apply q12 S29 k _;apply yBG G76 k _;have ⟨_,k,D⟩:=bE D;apply q5 (z79 k) _;apply z3Z _;apply zX D (λD=>?_) (λD=>?_);apply Q29 _;apply zK _;cases D;intro q;cases q;exact⟨rfl,wc⟩;apply Q50 _;exact ew D;apply zC _;cases D;intro q;cases q;exact⟨rfl,wc⟩
 rintro G rfl
 replace h:=eL h;apply Q3 _;exact er h
 rintro G rfl
 replace h:=eR h;exact es h
set_option maxHeartbeats 8000000 in
theorem zME {a0 r} (h:zDB a0=some r):zB Tryz.prog 78 [(zJ aH a0)] [(di r)]:=by
 refine co Tryz.func78 ?_;intro _ _ _ _;unfold zDB at h;apply Q25 _;apply q6 S22 _;apply Q20 _;have ⟨y1,k,h⟩:=bE h;apply zT y1 (.exit 0) (λy1=>⟨[(0,.d (zJ aH a0))],[]⟩) .ret (λy1=>⟨[(2,.d (di y1))],[]⟩) _ _ _;apply zD (λx=>⟨[(0,.d (zJ aH a0)),(12,.d (zJ aH a0)),(13,.d (di (a0.length:Int))),(14,.d (di x))],[]⟩) k wc _
 rintro ao ap K
 replace K:zAG a0 ao=some ap:=K;unfold zAG at K;apply Q15 _;apply zX K (λK=>?_) (λK=>?_);apply Q31 _;have ⟨G,k,K⟩:=bE K;apply q12 S22 k _;apply k6 (uU (en:=aH) (l:=a0) (i:=ao) (v:=G) (off:=0) lr u7 rfl k rfl rfl (by decide)) _;apply yLM _;apply q13 u7 _;apply zF _;apply zG (zO (t:=4) lr rfl rfl rfl) _;apply Q0 _;apply q8 zI7 _;apply q7 O3 _;apply q3 _;have ⟨_,k,K⟩:=bE K;apply q4 k _;apply q33 (.ip (aH.cells G) (0+1)) zI8 _;apply q34 (.d (di G.Hi)) O3 _;apply q55 (.d (db (decide (1114111<G.Hi)))) _;apply q21 _;have ⟨_,k,K⟩:=bE K;apply q4 k _;apply q33 (.ip (aH.cells G) (0+0)) zI7 _;apply q34 (.d (di G.Lo)) O3 _;apply q33 (.ip (aH.cells G) (0+1)) zI8 _;apply q34 (.d (di G.Hi)) O3 _;apply q55 (.d (db (decide (G.Hi<G.Lo)))) _;apply q21 _;have ⟨_,k,K⟩:=bE K;apply q4 k _;apply q33 (.ip (aH.cells G) (0+2)) zLR _;apply q34 (.d (di G.Value)) O3 _;apply yPR (.d (db (decide (G.Value<1)))) _;apply q21 _;have ⟨_,k,K⟩:=bE K;apply q4 k _;apply q33 (.ip (aH.cells G) (0+2)) zLR _;apply q34 (.d (di G.Value)) O3 _;apply q55 (.d (db (decide (254<G.Value)))) _;apply Q36 _;apply zX K (λK=>?_) (λK=>?_);apply Q23 _;cases K;intro q;cases q;exact⟨rfl,wc⟩;apply Q56 _;exact ew K;apply zC _;cases K;intro q;cases q;exact⟨rfl,wc⟩
 rintro y1 rfl
 replace h:=eL h;apply Q38 _;have ⟨y2,k,h⟩:=bE h;apply zT y2 (.exit 2) (λy2=>⟨[(0,.d (zJ aH a0))],[]⟩) .ret (λy2=>⟨[(2,.d (di y2))],[]⟩) _ _ _;apply zD (λx=>⟨[(0,.d (zJ aH a0)),(5,.d (di x))],[]⟩) k wc _
 rintro v5 aq T
 replace T:zAH a0 v5=some aq:=T;unfold zAH at T;apply Q16 _;apply q6 S22 _;apply Q6 _;apply zX T (λT=>?_) (λT=>?_);apply zVR _;have ⟨H,k,T⟩:=bE T;have ⟨O,D,T⟩:=bE T;apply tl .normal ⟨[(0,.d (zJ aH a0)),(5,.d (di v5)),(6,.ptr 6 0),(7,.ptr 7 0)],[(6,.box 140 [.d (di H.Lo),.d (di H.Hi),.d (di H.Value)]),(7,.box 140 [.d (di O.Lo),.d (di O.Hi),.d (di O.Value)])]⟩ _ _;apply zGB MX _;apply yBR _;apply zSH (i:=2) rfl lr rfl rfl rfl rfl rfl rfl _;apply z1B (en:=aH) (i:=3) rfl lr S22 rfl rfl k rfl rfl rfl rfl _;apply xm 5 _;apply xm 6 _;apply z1B (en:=aH) (i:=7) rfl lr S22 rfl rfl D rfl rfl rfl rfl _;apply xn [4,8,9,10] _;apply q59 u7 k _ _;apply xn [8,9,10] _;apply q59 u7 D _ _;apply xn [9,10] _;apply yLN _ _;apply xn [10] _;apply zVT _;exact ae;apply q54 _;apply xn [9] _;apply zVT _;exact ae;apply yLN _ _;apply xn [8,10] _;apply q59 u7 D _ _;apply xn [10] _;apply zVT _;exact ae;apply q54 _;apply xn [8,11] _;apply q59 u7 D _ _;apply Q58 _;exact ae;apply q24 u7 _;apply xn [8] _;apply q86 u7 D _;apply Q46 _;exact ae;apply q54 _;apply xn [8,9] _;apply q59 u7 D _ _;apply xn [9] _;apply zVT _;exact ae;apply q54 _;apply xn [8,11] _;apply q59 u7 D _ _;apply Q58 _;exact ae;apply q24 u7 _;apply xn [8] _;apply q86 u7 D _;apply Q46 _;exact ae;apply q59 u7 D _ _;apply xn [4,9,10] _;apply q59 u7 k _ _;apply xn [9,10] _;apply yLN _ _;apply xn [10] _;apply zVT _;exact ae;apply q54 _;apply xn [9] _;apply zVT _;exact ae;apply yLN _ _;apply xn [4,10] _;apply q59 u7 k _ _;apply xn [10] _;apply zVT _;exact ae;apply q54 _;apply xn [4] _;apply q86 u7 k _;apply Q58 _;exact ae;apply q54 _;apply xn [4,9] _;apply q59 u7 k _ _;apply xn [9] _;apply zVT _;exact ae;apply q54 _;apply xn [4] _;apply q86 u7 k _;apply Q58 _;exact ae;apply yLN _ _;apply xn [4,8,10] _;apply q59 u7 k _ _;apply xn [8,10] _;apply q59 u7 D _ _;apply xn [10] _;apply zVT _;exact ae;apply q54 _;apply xn [8,11] _;apply q59 u7 D _ _;apply Q58 _;exact ae;apply q24 u7 _;apply xn [8] _;apply q86 u7 D _;apply Q46 _;exact ae;apply q59 u7 D _ _;apply xn [4,10] _;apply q59 u7 k _ _;apply xn [10] _;apply zVT _;exact ae;apply q54 _;apply xn [4] _;apply q86 u7 k _;apply Q58 _;exact ae;apply q54 _;apply xn [4,8] _;apply q59 u7 k _ _;apply xn [8,11] _;apply q59 u7 D _ _;apply Q58 _;exact ae;apply q24 u7 _;apply xn [8] _;apply q86 u7 D _;apply Q46 _;exact ae;apply q86 u7 D _;apply xn [4] _;apply q86 u7 k _;apply Q58 _;exact ae;apply q54 _;apply xn [4,8,9] _;apply q59 u7 k _ _;apply xn [8,9] _;apply q59 u7 D _ _;apply xn [9] _;apply zVT _;exact ae;apply q54 _;apply xn [8,11] _;apply q59 u7 D _ _;apply Q58 _;exact ae;apply q24 u7 _;apply xn [8] _;apply q86 u7 D _;apply Q46 _;exact ae;apply q59 u7 D _ _;apply xn [4,9] _;apply q59 u7 k _ _;apply xn [9] _;apply zVT _;exact ae;apply q54 _;apply xn [4] _;apply q86 u7 k _;apply Q58 _;exact ae;apply q54 _;apply xn [4,8] _;apply q59 u7 k _ _;apply xn [8,11] _;apply q59 u7 D _ _;apply Q58 _;exact ae;apply q24 u7 _;apply xn [8] _;apply q86 u7 D _;apply Q46 _;exact ae;apply q86 u7 D _;apply xn [4] _;apply q86 u7 k _;apply Q58 _;exact ae;apply zG (zO (t:=6) lr rfl rfl rfl) _;apply zG (zO (t:=7) lr rfl rfl rfl) _;apply Q0 _;apply q8 zI7 _;apply q7 O3 _;apply q8 zI8 _;apply q7 O3 _;apply q83 _;have ⟨_,k,T⟩:=bE T;apply q4 k _;apply q33 (.ip (aH.cells O) (0+0)) zI7 _;apply q34 (.d (di O.Lo)) O3 _;apply q33 (.ip (aH.cells H) (0+1)) zI8 _;apply q34 (.d (di H.Hi)) O3 _;refine sqf (.d (di (wi (H.Hi+1)))) rfl (λhb=>by subst hb;exact z6H lr rfl rfl) ?_
 apply z7O (.d (db (decide (O.Lo=(wi (H.Hi+1)))))) _;have ⟨ac,an,T⟩:=bE T;refine sqf (.d (db ac)) rfl (λhb=>by subst hb;exact(kW lr rfl).bool (oi an)) ?_
 refine vI (x:= .ip (aH.cells O) (0+2)) rfl rfl rfl lr lr rfl (λhb=>by obtain⟨hb,Z⟩:=zS hb;obtain rfl:=gF hb;obtain rfl:ac=true:=Z;exact zAA lr zLR rfl) ?_
 refine vI (x:= .d (di O.Value)) rfl rfl rfl lr lr rfl (λhb=>by obtain⟨hb,Z⟩:=zS hb;obtain rfl:=gF hb;obtain rfl:ac=true:=Z;exact yV lr O3 rfl rfl) ?_
 refine vI (x:= .ip (aH.cells H) (0+2)) rfl rfl rfl lr lr rfl (λhb=>by obtain⟨hb,Z⟩:=zS hb;obtain rfl:=gF hb;obtain rfl:ac=true:=Z;exact zAA lr zLR rfl) ?_
 refine vI (x:= .d (di H.Value)) rfl rfl rfl lr lr rfl (λhb=>by obtain⟨hb,Z⟩:=zS hb;obtain rfl:=gF hb;obtain rfl:ac=true:=Z;exact yV lr O3 rfl rfl) ?_
 refine vI (x:= .d (db (decide (O.Value=H.Value)))) rfl rfl rfl lr lr rfl (λhb=>by obtain⟨hb,Z⟩:=zS hb;obtain rfl:=gF hb;obtain rfl:ac=true:=Z;exact zW8 lr rfl rfl) ?_
 apply yGT (.d (db (ac&&(decide (O.Value=H.Value))))) _;apply Q36 _;apply zX T (λT=>?_) (λT=>?_);apply Q23 _;cases T;intro q;cases q;exact⟨rfl,wc⟩;apply Q50 _;exact ew T;apply zC _;cases T;intro q;cases q;exact⟨rfl,wc⟩
 rintro y2 rfl
 replace h:=eL h;apply Q4 _;apply q6 S22 _;apply Q20 _;have ⟨y3,k,h⟩:=bE h;apply zT y3 (.exit 4) (λy3=>⟨[],[]⟩) .ret (λy3=>⟨[(2,.d (di y3))],[]⟩) _ _ _;apply zD (λx=>⟨[(79,.d (zJ aH a0)),(80,.d (di (a0.length:Int))),(81,.d (di x))],[]⟩) k wc _
 rintro ah ar p3
 replace p3:zAI a0 ah=some ar:=p3;unfold zAI at p3;apply Q15 _;apply zX p3 (λp3=>?_) (λp3=>?_);apply Q31 _;have ⟨ag,k,p3⟩:=bE p3;apply q12 S22 k _;apply k6 (uU (en:=aH) (l:=a0) (i:=ah) (v:=ag) (off:=0) lr u7 rfl k rfl rfl (by decide)) _;apply yLM _;apply q13 u7 _;apply zF _;apply zG (zO (t:=9) lr rfl rfl rfl) _;apply Q0 _;have ⟨ad,k,p3⟩:=bE p3;apply k6 ((yOY (zs:=[.int .i64 4352,.int .i64 4370,.int .i64 4449,.int .i64 4469,.int .i64 4520,.int .i64 4546,.int .i64 44032,.int .i64 55203]) lr yYR Z0 rfl rfl).data (b:=dF.dv ad) (congrArg dF.dv (oi k))) _;apply Q20 _;have ⟨y4,k,p3⟩:=bE p3;apply zT y4 (.exit 6) (λy4=>⟨[(79,.d (zJ aH a0)),(80,.d (di (a0.length:Int))),(81,.d (di ah))],[]⟩) .ret (λy4=>⟨[(2,.d (di y4))],[]⟩) _ _ _;apply zD (λx=>⟨[(9,.d (.pt (aH.cells ag))),(79,.d (zJ aH a0)),(80,.d (di (a0.length:Int))),(81,.d (di ah)),(85,.d (dF.dv ad)),(86,.d (di x))],[]⟩) k wc _
 rintro aw au p4
 replace p4:wS ad ag aw=some au:=p4;unfold wS at p4;apply Q15 _;apply zX p4 (λp4=>?_) (λp4=>?_);apply Q31 _;have ⟨ai,k,p4⟩:=bE p4;apply k6 (yFZ (en:=aF) (l:=[ad.x0,ad.x1,ad.x2,ad.x3]) lr yYG zSK (λ_=>rfl) rfl rfl rfl k) _;apply yBU _;apply zF _;apply zG (zO (t:=11) lr rfl rfl rfl) _;apply Q0 _;apply q8 zI7 _;apply q7 O3 _;apply q8 zH6 _;apply q7 O3 _;apply q83 _;have ⟨_,k,p4⟩:=bE p4;apply q4 k _;apply q70 (.ip (aF.cells ai) (0+0)) zNA _;apply q73 (.d (di ai.Lo)) O3 _;apply q70 (.ip (aH.cells ag) (0+1)) zI8 _;apply q73 (.d (di ag.Hi)) O3 _;apply q60 (.d (db (decide (ai.Lo<=ag.Hi)))) _;apply Q39 _;apply zX p4 (λp4=>?_) (λp4=>?_);apply Q23 _;cases p4;intro q;cases q;exact⟨rfl,wc⟩;apply Q56 _;exact ew p4;apply zC _;cases p4;intro q;cases q;exact⟨rfl,wc⟩
 rintro y4 rfl
 replace p3:=eL p3;apply Q19 _;exact ew p3
 rintro y4 rfl
 replace p3:=eR p3;cases p3;intro q;cases q;exact⟨rfl,wc⟩;apply zC _;cases p3;intro q;cases q;exact⟨rfl,wc⟩
 rintro y3 rfl
 replace h:=eL h;apply Q3 _;exact er h
 rintro y3 rfl
 replace h:=eR h;exact es h
 rintro y2 rfl
 replace h:=eR h;exact es h
 rintro y1 rfl
 replace h:=eR h;exact es h
theorem zAO {a0 r} (h:wI a0=some r):zB Tryz.prog 134 [(di a0)] [(db r)]:=by refine co Tryz.func134 ?_;intro _ _ _ _;unfold wI at h;apply Q62 _;apply q40 _;have ⟨_,k,h⟩:=bE h;apply q4 k _;apply q16 (.d (di a0)) _;apply q60 (.d (db (decide (a0<=1114111)))) _;apply Q51 _;exact er h
theorem zUA {a0 r} (h:zE1 a0=some r):zB Tryz.prog 166 [(ds a0)] [(db r)]:=by
 refine co Tryz.func166 ?_;intro _ _ _ _;unfold zE1 at h;apply Q25 _;apply yPZ _;have ⟨_,k,h⟩:=bE h;apply q4 k _;apply q28 (.d (ds a0)) _;refine sqf (.d (di (a0.length:Int))) rfl (λhb=>by subst hb;exact zT1 (s:=a0) lr Tryz.underlying9 rfl) ?_
 apply q55 (.d (db (decide (32<(a0.length:Int))))) _;apply Q36 _;apply zX h (λh=>?_) (λh=>?_);apply Q3 _;exact er h;apply Q94 _;apply q89 Tryz.underlying9 _;apply Q20 _;have ⟨T,k,h⟩:=bE h;apply zT T (.exit 0) (λT=>⟨[],[]⟩) .ret (λT=>⟨[(2,.d (db T))],[]⟩) _ _ _;apply zD (λx=>⟨[(0,.d (ds a0)),(14,.d (di (a0.length:Int))),(15,.d (di x))],[]⟩) k wc _
 rintro ad ac G
 replace G:zAJ a0 ad=some ac:=G;unfold zAJ at G;apply Q15 _;apply zX G (λG=>?_) (λG=>?_);apply Q10 _;apply Q29 _;apply Q13 _;have ⟨D,k,G⟩:=bE G;apply yGS Tryz.underlying9 k _;apply Q40 _;apply q40 _;have ⟨_,k,G⟩:=bE G;apply q4 k _;apply q16 (.d (dby D)) _;apply q60 (.d (db (decide (D<=90)))) _;apply q19 _;have ⟨_,k,G⟩:=bE G;apply q4 k _;apply q28 (.d (dby D)) _;apply yLE (.d (db (decide (97<=D)))) _;have ⟨O,aa,G⟩:=bE G;refine sqf (.d (db O)) rfl (λhb=>by subst hb;exact(kW lr rfl).bool (oi aa)) ?_
 refine vI (x:= .d (dby D)) rfl rfl rfl lr lr rfl (λhb=>by obtain⟨hb,H⟩:=zS hb;obtain rfl:=gF hb;obtain rfl:O=true:=H;exact kW lr rfl) ?_
 refine vI (x:= .d (db (decide (D<=122)))) rfl rfl rfl lr lr rfl (λhb=>by obtain⟨hb,H⟩:=zS hb;obtain rfl:=gF hb;obtain rfl:O=true:=H;exact zQR lr rfl rfl) ?_
 apply yGT (.d (db (O&&(decide (D<=122))))) _;apply q21 _;apply Q40 _;apply q29 _;have ⟨Z,k,G⟩:=bE G;apply q4 k _;apply q16 (.d (dby D)) _;apply yBE (.d (db (decide (48<=D)))) _;have ⟨K,ab,G⟩:=bE G;refine sqt (.d (db K)) rfl (λhb=>by subst hb;exact(kW lr rfl).bool (oi ab)) ?_
 refine vI (x:= .d (dby D)) rfl rfl rfl lr lr rfl (λhb=>by obtain⟨hb,H⟩:=zS hb;obtain rfl:Z=true:=hb;obtain rfl:K=true:=H;exact kW lr rfl) ?_
 refine vI (x:= .d (db (decide (D<=57)))) rfl rfl rfl lr lr rfl (λhb=>by obtain⟨hb,H⟩:=zS hb;obtain rfl:Z=true:=hb;obtain rfl:K=true:=H;exact zQR lr rfl rfl) ?_
 refine sqt (.d (db (K&&(decide (D<=57))))) rfl (λhb=>by subst hb;exact zHZ lr rfl rfl) ?_
 apply q96 (.d (db (!(K&&(decide (D<=57)))))) _;apply q19 _;have ⟨_,k,G⟩:=bE G;apply q4 k _;apply q16 (.d (dby D)) _;apply yG0 (.d (db (!decide (D=95)))) _;apply Q39 _;apply zX G (λG=>?_) (λG=>?_);apply Q23 _;cases G;intro q;cases q;exact⟨rfl,wc⟩;apply Q56 _;exact ew G;apply zC _;cases G;intro q;cases q;exact⟨rfl,wc⟩
 rintro T rfl
 replace h:=eL h;apply Q3 _;exact er h
 rintro T rfl
 replace h:=eR h;exact es h
theorem zVY {a0 r} (h:zFW a0=some r):zB Tryz.prog 124 [(zJ aB a0)] [(di r)]:=by
 refine co Tryz.func124 ?_;intro _ _ _ _;unfold zFW at h;apply Q25 _;apply z71 _;have ⟨Z,k,h⟩:=bE h;apply zT Z (.exit 0) (λZ=>⟨[(0,.d (zJ aB a0))],[]⟩) .ret (λZ=>⟨[(2,.d (di Z))],[]⟩) _ _ _;apply zD (λx=>⟨[(0,.d (zJ aB a0)),(11,.d (zJ aB a0)),(12,.d (di (a0.length:Int))),(13,.d (di x))],[]⟩) k wc _
 rintro T ai D
 replace D:zA2 a0 T=some ai:=D;unfold zA2 at D;apply Q15 _;apply zX D (λD=>?_) (λD=>?_);apply Q31 _;have ⟨O,k,D⟩:=bE D;apply q12 S23 k _;apply zZR G81 k _;apply z72 _;apply zG (zO (t:=4) lr rfl rfl rfl) _;apply Q12 _;apply zZ0 _;have ⟨_,k,D⟩:=bE D;apply q5 (zAO k) _;apply Q45 _;apply zX D (λD=>?_) (λD=>?_);apply Q23 _;cases D;intro q;cases q;exact⟨rfl,wc⟩;apply Q32 _;apply q8 zFL _;apply q7 O39 _;apply Q69 _;have ⟨y2,k,D⟩:=bE D;apply zT y2 (.exit 2) (λy2=>⟨[(0,.d (zJ aB a0)),(11,.d (zJ aB a0)),(12,.d (di (a0.length:Int))),(13,.d (di T))],[]⟩) .ret (λy2=>⟨[(2,.d (di y2))],[]⟩) _ _ _;apply zD (λx=>⟨[(0,.d (zJ aB a0)),(11,.d (zJ aB a0)),(12,.d (di (a0.length:Int))),(13,.d (di T)),(22,.d (zJ eI O.To)),(23,.d (di (O.To.length:Int))),(24,.d (di x))],[]⟩) k wc _
 rintro am aj H
 replace H:zA1 O am=some aj:=H;unfold zA1 at H;apply Q15 _;apply zX H (λH=>?_) (λH=>?_);apply Q31 _;have ⟨_,k,H⟩:=bE H;apply q12 yP k _;apply q46 O3 k _;apply Q40 _;have ⟨_,k,H⟩:=bE H;apply q5 (zAO k) _;apply Q45 _;apply zX H (λH=>?_) (λH=>?_);apply Q23 _;cases H;intro q;cases q;exact⟨rfl,wc⟩;apply Q56 _;exact ew H;apply zC _;cases H;intro q;cases q;exact⟨rfl,wc⟩
 rintro y2 rfl
 replace D:=eL D;apply Q19 _;exact ew D
 rintro y2 rfl
 replace D:=eR D;cases D;intro q;cases q;exact⟨rfl,wc⟩;apply zC _;cases D;intro q;cases q;exact⟨rfl,wc⟩
 rintro Z rfl
 replace h:=eL h;apply Q4 _;apply z71 _;have ⟨y3,k,h⟩:=bE h;apply zT y3 (.exit 4) (λy3=>⟨[(0,.d (zJ aB a0))],[]⟩) .ret (λy3=>⟨[(2,.d (di y3))],[]⟩) _ _ _;apply zD (λx=>⟨[(0,.d (zJ aB a0)),(33,.d (zJ aB a0)),(34,.d (di (a0.length:Int))),(35,.d (di x))],[]⟩) k wc _
 rintro an ak K
 replace K:zA3 a0 an=some ak:=K;unfold zA3 at K;apply Q15 _;apply zX K (λK=>?_) (λK=>?_);apply Q31 _;have ⟨_,k,K⟩:=bE K;apply q12 S23 k _;apply zZR G81 k _;apply z72 _;apply zG (zO (t:=8) lr rfl rfl rfl) _;apply Q0 _;apply q8 zFL _;apply q7 O39 _;apply q6 yP _;apply Q59 _;apply zX K (λK=>?_) (λK=>?_);apply Q23 _;cases K;intro q;cases q;exact⟨rfl,wc⟩;apply Q56 _;exact ew K;apply zC _;cases K;intro q;cases q;exact⟨rfl,wc⟩
 rintro y3 rfl
 replace h:=eL h;apply Q4 _;apply z71 _;have ⟨y4,k,h⟩:=bE h;apply zT y4 (.exit 6) (λy4=>⟨[],[]⟩) .ret (λy4=>⟨[(2,.d (di y4))],[]⟩) _ _ _;apply zD (λx=>⟨[(44,.d (zJ aB a0)),(45,.d (di (a0.length:Int))),(46,.d (di x))],[]⟩) k wc _
 rintro ao al G
 replace G:zA4 a0 ao=some al:=G;unfold zA4 at G;apply Q15 _;apply zX G (λG=>?_) (λG=>?_);apply Q31 _;have ⟨ag,k,G⟩:=bE G;apply q12 S23 k _;apply zZR G81 k _;apply z72 _;apply zG (zO (t:=10) lr rfl rfl rfl) _;apply Q0 _;apply q8 zG4 _;apply q7 O9 _;apply yGU _;have ⟨_,k,G⟩:=bE G;apply q4 k _;apply q70 (.ip (aB.cells ag) (0+2)) zG4 _;apply q73 (.d (ds ag.bU)) O9 _;have ⟨ah,ad,G⟩:=bE G;refine sqt (.d (db ah)) rfl (λhb=>by subst hb;exact wA lr rfl (zUA ad)) ?_
 apply q96 (.d (db (!ah))) _;apply Q39 _;apply zX G (λG=>?_) (λG=>?_);apply Q23 _;cases G;intro q;cases q;exact⟨rfl,wc⟩;apply Q56 _;exact ew G;apply zC _;cases G;intro q;cases q;exact⟨rfl,wc⟩
 rintro y4 rfl
 replace h:=eL h;apply Q3 _;exact er h
 rintro y4 rfl
 replace h:=eR h;exact es h
 rintro y3 rfl
 replace h:=eR h;exact es h
 rintro Z rfl
 replace h:=eR h;exact es h
theorem zNT {a0 r} (h:zFX a0=some r):zB Tryz.prog 154 [(di a0)] [(db r)]:=by refine co Tryz.func154 ?_;intro _ _ _ _;unfold zFX at h;apply z7Y _;apply q31 _;apply Q1 _;exact er h
theorem zCB {a0 D r} (h:cmp_Compare_int a0 D=some r):zB Tryz.prog 113 [(di a0),(di D)] [(di r)]:=by refine co Tryz.func113 ?_;intro _ _ _ _;unfold cmp_Compare_int at h;apply Q62 _;have ⟨_,k,h⟩:=bE h;apply q5 (zNT k) _;apply Q40 _;have ⟨_,k,h⟩:=bE h;apply q5 (zNT k) _;apply Q1 _;apply Q67 _;apply zX h (λh=>?_) (λh=>?_);apply Q67 _;apply zX h (λh=>?_) (λh=>?_);apply Q3 _;exact er h;apply Q68 _;exact er h;apply zH<|Q67 _;apply zX h (λh=>?_) (λh=>?_);apply Q3 _;exact er h;apply zH<|Q93 _;apply zX h (λh=>?_) (λh=>?_);apply Q3 _;exact er h;apply zH<|Q16 _;apply Q59 _;apply zX h (λh=>?_) (λh=>?_);apply Q3 _;exact er h;apply Q68 _;exact er h
theorem zKI {a0 r} (h:zDC a0=some r):zB Tryz.prog 197 [(ds a0)] [(db r)]:=by refine co Tryz.func197 ?_;intro _ _ _ _;unfold zDC at h;apply z7Y _;apply yGU _;apply Q1 _;exact er h
theorem zPB {a0 D r} (h:zBA a0 D=some r):zB Tryz.prog 168 [(ds a0),(ds D)] [(di r)]:=by refine co Tryz.func168 ?_;intro _ _ _ _;unfold zBA at h;apply Q62 _;have ⟨_,k,h⟩:=bE h;apply q5 (zKI k) _;apply Q40 _;have ⟨_,k,h⟩:=bE h;apply q5 (zKI k) _;apply Q1 _;apply Q67 _;apply zX h (λh=>?_) (λh=>?_);apply Q67 _;apply zX h (λh=>?_) (λh=>?_);apply Q3 _;exact er h;apply Q68 _;exact er h;apply zH<|Q67 _;apply zX h (λh=>?_) (λh=>?_);apply Q3 _;exact er h;apply zH<|Q16 _;apply k6 (yJX (a:=a0) (b:=D) lr rfl rfl) _;apply zF _;apply zX h (λh=>?_) (λh=>?_);apply Q3 _;exact er h;apply zH<|Q16 _;apply k6 (yTE (a:=a0) (b:=D) lr rfl rfl) _;apply zF _;apply zX h (λh=>?_) (λh=>?_);apply Q3 _;exact er h;apply Q68 _;exact er h
theorem z4D {a0 r} (h:zKC a0=some r):zB Tryz.prog 167 [(zJ eI a0)] [(di r)]:=by
 refine co Tryz.func167 ?_;intro _ _ _ _;unfold zKC at h;apply Q3 _;apply Q25 _;apply Q69 _;have ⟨G,k,h⟩:=bE h;apply zT G (.exit 0) (λG=>⟨[(3,.d (di 0))],[]⟩) .ret (λG=>⟨[(2,.d (di G))],[]⟩) _ _ _;apply zD (λx=>⟨[(3,.d (di 0)),(6,.d (zJ eI a0)),(7,.d (di (a0.length:Int))),(8,.d (di x))],[]⟩) k wc _
 rintro K H D
 replace D:zEJ a0 K=some H:=D;unfold zEJ at D;apply Q15 _;apply zX D (λD=>?_) (λD=>?_);apply Q31 _;have ⟨_,k,D⟩:=bE D;apply q12 yP k _;apply q46 O3 k _;apply yBS _;apply Q41 _;apply zX D (λD=>?_) (λD=>?_);apply Q29 _;apply zK _;cases D;intro q;cases q;exact⟨rfl,wc⟩;apply Q56 _;exact ew D;apply zC _;cases D;intro q;cases q;exact⟨rfl,wc⟩
 rintro G rfl
 replace h:=eL h;apply Q29 _;exact er h
 rintro G rfl
 replace h:=eR h;exact es h
theorem zST {a0 D r} (h:zD3 a0 D=some r):zB Tryz.prog 125 [(aB.dv a0),(aB.dv D)] [(di r)]:=by refine co Tryz.func125 ?_;intro _ _ _ _;unfold zD3 at h;apply Q43 _;apply q39 _;apply z31 _;apply yH MX rfl _;apply q56 zJD _;apply q57 O3 _;apply q56 zJD _;apply q57 O3 _;have ⟨_,k,h⟩:=bE h;apply q37 (zCB k) _;apply q56 zG4 _;apply q57 O9 _;apply q56 zG4 _;apply q57 O9 _;have ⟨_,k,h⟩:=bE h;apply q37 (zPB k) _;apply yLK yP _;have ⟨_,k,h⟩:=bE h;apply q37 (z4D k) _;apply Q63 _;exact er h
theorem zNU {a0 r} (h:zFY a0=some r):zB Tryz.prog 126 [(aB.dv a0)] [(dC.dv r)]:=by refine co Tryz.func126 ?_;intro _ _ _ _;unfold zFY at h;apply Q43 _;apply zU rfl (yW (zs:=[(.int IntKind.i64 (0)),(.string ⟨#[]⟩)]) lr (by kernel_rfl) rfl rfl) _;apply Q61 _;apply zZ0 _;apply q8 zG4 _;apply q7 O9 _;apply q41 yYJ _;apply q13 yWW _;apply zF _;cases h;apply zK _;exact zAB rfl rfl yWW rfl
theorem zVZ {a0 r} (h:zFZ a0=some r):zB Tryz.prog 79 [(zJ aB a0)] [(di r)]:=by
 refine co Tryz.func79 ?_;intro _ _ _ _;unfold zFZ at h;apply Q25 _;have ⟨_,ab,h⟩:=bE h;apply q5 (zVY ab) _;apply z3Z _;apply zX h (λh=>?_) (λh=>?_);apply Q29 _;exact er h;apply Q68 _;apply Q38 _;have ⟨y1,ah,h⟩:=bE h;apply tl (.exit 0) ⟨[(0,.d (zJ aB a0)),(4,.d (db y1))],[]⟩ _ _;apply zD (λx=>⟨[(0,.d (zJ aB a0)),(4,.d (db x.1)),(5,.d (di x.2))],[]⟩) ah wc _
 rintro⟨v4,v5⟩ aj H
 replace H:uD a0 v4 v5=some aj:=H;unfold uD at H;apply Q78 _;apply zX H (λH=>?_) (λH=>?_);apply Q5 _;have ⟨y2,D,H⟩:=bE H;apply tl .normal ⟨[(0,.d (zJ aB a0)),(4,.d (db y2)),(5,.d (di v5))],[]⟩ _ _;apply yBT _;apply yH MX rfl _;apply Q44 _;apply z3U _;have ⟨_,K,D⟩:=bE D;apply q36 S23 K _;apply yPX G81 K _;apply Q44 _;have ⟨_,O,D⟩:=bE D;apply q36 S23 O _;apply yPX G81 O _;have ⟨_,ac,D⟩:=bE D;apply q37 (zST ac) _;apply daa (yCT lr rfl rfl) _;apply wZ _;apply zX D (λD=>?_) (λD=>?_);apply xM<|Q1 _;exact eo D;apply zH _;exact eo D;apply Q21 _;exact ew H;exact zC (ex H);apply Q67 _;apply zX h (λh=>?_) (λh=>?_);apply Q3 _;exact er h;apply Q32 _;apply z7M _;apply Q11 _;apply Q4 _;apply z71 _;have ⟨y3,ai,h⟩:=bE h;apply zT y3 (.exit 2) (λy3=>⟨[],[]⟩) .ret (λy3=>⟨[(2,.d (di y3))],[]⟩) _ _ _;apply zD (λx=>⟨[(6,.row 32),(33,.d (zJ aB a0)),(34,.d (di (a0.length:Int))),(35,.d (di x.1))],[(32,.map (jF zJK eB x.2))]⟩) ai wc _
 rintro⟨an,Z⟩ ak G
 replace G:uE a0 an Z=some ak:=G;unfold uE at G;apply Q15 _;apply zX G (λG=>?_) (λG=>?_);apply Q31 _;have ⟨_,T,G⟩:=bE G;apply q12 S23 T _;apply zZR G81 T _;apply z72 _;apply zG (zO (t:=8) lr rfl rfl rfl) _;apply Q12 _;apply q11 _;apply q26 G81 _;have ⟨al,ad,G⟩:=bE G;apply q5 (zNU ad) _;apply k6 (yF2 (kv:=zJK) (ev:=eB) (mp:=Z) (k:=al) (zero:=false) lr yW2 yW6 rfl rfl rfl (yAE rfl) (λ_ _=> .v _)) _;apply zF _;apply zX G (λG=>?_) (λG=>?_);apply Q23 _;cases G;intro q;cases q;exact⟨rfl,wc⟩;apply zH<|Q30 _;apply q26 G81 _;have ⟨am,ag,G⟩:=bE G;apply q5 (zNU ag) _;apply zU rfl (zM7 (kv:=zJK) (ev:=eB) (mp:=Z) (k:=am) (v:=true) yW2 yW6 rfl rfl rfl (yAE rfl) rfl rfl rfl) _;apply yHO _;exact ew G;apply zC _;cases G;intro q;cases q;exact⟨rfl,wc⟩
 rintro y3 rfl
 replace h:=eL h;apply Q3 _;exact er h
 rintro y3 rfl
 replace h:=eR h;exact es h
set_option maxHeartbeats 1000000 in
theorem yUL (x y r:Int) (hr:r=if x=0 then y else x) (b:Nat) (w:World) (Z:w.cell? ⟨b,0,none⟩=some (.int .i64 x)) (G:w.cell? ⟨b,1,none⟩=some (.int .i64 y)):
  Calls Tryz.prog 167 #[.slice (some ⟨b,0,none⟩) 2 2] w λe w'=>e= .returned (.int .i64 r)/\w'=w:=by
 have H:=Lib.hid hr;have H0:=Lib.hid Z;have H1:=Lib.hid G;clear hr Z G
 go_enter Tryz.func167,Tryz.ntmps167
 go_wp2
 go_loopw [8] (λi wr=> ∃k:Nat,k<=2/\i= .int .i64 k/\wr=w/\(0<k->x=0)/\(1<k->y=0))
  (λi _=>2-(Go.RowKit.intOf i).toNat)
 case atStart=>exact⟨0,g5 _,rfl,rfl,by simp,by simp⟩
 case round=>
  obtain⟨k,hk,rfl,rfl,hx,hy⟩:=hrel;have K:=Lib.hid hx;have HY:=Lib.hid hy;clear hx hy;by_cases ak:k<2
  ·
   obtain⟨z,hc,O,T⟩:∃z:Int,wr.cell? ⟨b,k,none⟩=some (.int .i64 z)/\Hid (z=0->(0<k+1->x=0)/\(1<k+1->y=0))/\Hid (z≠0->r=z):=by
    match k with
    | 0=>exact⟨x,H0.out,Lib.hid λh=>⟨λ_=>h,λh=>by omega⟩,Lib.hid λh=>by rw[H.out,dU h]⟩
    | 1=>exact⟨y,H1.out,Lib.hid λh=>⟨λ_=>K.out (by omega),λ_=>h⟩,Lib.hid λh=>by rw[H.out,eG (K.out (by omega))]⟩
   by_cases D:z=0
   ·
    subst D
    go_wp2
    go_roundw
    case rel=>exact⟨k+1,by omega,by simp,trivial,O.out rfl⟩
    case measure=>simp[Go.RowKit.intOf];omega
   ·
    have:=T.out D;subst this
    go_wp2
    go_ret
    exact⟨rfl,rfl⟩
  ·
   have G:=K.out (by omega);have h2:=HY.out (by omega);have h3:=H.out;rw[eG G,h2] at h3;subst h3
   go_wp2
   go_ret
   exact⟨rfl,rfl⟩
theorem z8A (w:World) (xs:Array Value) (e:TypeId) (j:Nat):(w.alloc (.cells xs e)).cell? ⟨w.heap.size,j,none⟩=xs[j]?:=by
 have:(w.alloc (.cells xs e)).heap[w.heap.size]? =some (.cells xs e):=by
  rw[Go.Sort.alloc_eq_grow];show (w.heap++ #[Obj.cells xs e])[w.heap.size]? =_;rw[Array.getElem?_append_right (d9 _),Nat.sub_self];rfl
 simp only[World.cell?,this];rfl
theorem yXE (W:World) (h k:Obj):({(W.alloc h).alloc k with drawn:=((W.alloc h).alloc k).drawn+1}:World)=Go.Sort.grow (W.drewN 1) #[h,k]:=by rw[Go.Sort.alloc_eq_grow,Go.Sort.alloc_eq_grow,Go.Sort.grow_grow];rfl
theorem yDR (W:World) (xs ys:Array Value) (e h:TypeId) (j:Nat):(Go.Sort.grow (W.drewN 1) #[.cells xs e,.cells ys h]).cell? ⟨W.heap.size,j,none⟩=xs[j]?:=by
 have:(Go.Sort.grow (W.drewN 1) #[.cells xs e,.cells ys h]).heap[W.heap.size]? =some (.cells xs e):=by
  show (W.heap++ #[Obj.cells xs e,Obj.cells ys h])[W.heap.size]? =_;rw[Array.getElem?_append_right (d9 _),Nat.sub_self];rfl
 simp only[World.cell?,this];rfl
theorem yDS (W:World) (xs ys:Array Value) (e h:TypeId) (j:Nat):(Go.Sort.grow (W.drewN 1) #[.cells xs e,.cells ys h]).cell? ⟨W.heap.size+1,j,none⟩=ys[j]?:=by
 have:(Go.Sort.grow (W.drewN 1) #[.cells xs e,.cells ys h]).heap[W.heap.size+1]? =some (.cells ys h):=by
  show (W.heap++ #[Obj.cells xs e,Obj.cells ys h])[W.heap.size+1]? =_;rw[Array.getElem?_append_right (by omega),show W.heap.size+1-W.heap.size=1 by omega];rfl
 simp only[World.cell?,this];rfl
def z4E (a b:Range):Int:=if Lib.compareInt a.Lo b.Lo=0 then Lib.compareInt a.Hi b.Hi else Lib.compareInt a.Lo b.Lo
set_option maxRecDepth 100000 in
set_option maxHeartbeats 4000000 in
theorem yQA (a b:Range) (W:World):Calls Tryz.prog 170 #[.agg #[.int .i64 a.Lo,.int .i64 a.Hi],.agg #[.int .i64 b.Lo,.int .i64 b.Hi]] W λe w'=>e= .returned (.int .i64 (z4E a b))/\∃q am,w'=Go.Sort.grow (W.drewN q) am:=by
 obtain⟨O,K⟩:=a;obtain⟨Z,T⟩:=b;have k:=λH=>AnyG.cmp_Compare_int Tryz.cmpInt O Z H;have D:=λH=>AnyG.cmp_Compare_int Tryz.cmpInt K T H;change ∀H,Calls Tryz.prog 113 _ _ _ at k;change ∀H,Calls Tryz.prog 113 _ _ _ at D;unfold z4E;simp only;generalize Lib.compareInt O Z=r1 at k ⊢;generalize Lib.compareInt K T=r2 at D ⊢;obtain⟨r,hr⟩:∃r,r=if r1=0 then r2 else r1:=⟨_,rfl⟩
 have aa:=yUL r1 r2 r hr;rw[<-hr];clear hr;have ag:=Lib.hid k;have ai:=Lib.hid D;have aj:=Lib.hid aa;clear k D aa
 go_enter Tryz.func170,Tryz.ntmps170
 go_wp2
 apply wp_region_still_tail 10 (by kernel_rfl) (by kernel_rfl) _;simp only[List.take_succ_cons,iT,List.drop_succ_cons,e9];generalize ab:({heap:=_,tape:=_,drawn:=_,os:=_,output:=_}:World)=w3;have G:=ab.symm.trans (yXE W (.cells #[.int .i64 O,.int .i64 K] 143) (.cells #[.int .i64 Z,.int .i64 T] 143));have c1:w3.cell? ⟨W.heap.size,0,none⟩=some (.int .i64 O):=by rw[G,yDR];rfl
 have c2:w3.cell? ⟨W.heap.size,1,none⟩=some (.int .i64 K):=by rw[G,yDR];rfl
 have c3:w3.cell? ⟨W.heap.size+1,0,none⟩=some (.int .i64 Z):=by rw[G,yDS];rfl
 have c4:w3.cell? ⟨W.heap.size+1,1,none⟩=some (.int .i64 T):=by rw[G,yDS];rfl
 have HG:=Lib.hid G;clear ab G;generalize W.heap.size=n0 at c1 c2 c3 c4 ⊢
 still_step
 still_step
 still_step
 still_step
 still_call ((ag.out _).mono λ_ _ h=>h)
 still_step
 still_step
 still_step
 still_step
 still_call ((ai.out _).mono λ_ _ h=>h)
 apply wpStill_nil _
 go_wp2_with (go_at_call 167;refine(aj.out _ _ ((z8A _ _ _ 0).trans rfl) ((z8A _ _ _ 1).trans rfl)).mono ?_;rintro e w' ⟨rfl,rfl⟩)
 go_ret
 refine⟨rfl,1,#[Obj.cells #[Value.int IntKind.i64 O,Value.int IntKind.i64 K] 143,Obj.cells #[Value.int IntKind.i64 Z,Value.int IntKind.i64 T] 143,Obj.cells #[Value.int IntKind.i64 r1,Value.int IntKind.i64 r2] 3],?_⟩;have G:=HG.out;rw[Go.Sort.alloc_eq_grow,G,Go.Sort.grow_grow];rfl
theorem zSU (a b:Range):Go.Proofs.ltOf z4E a b=z3J a b:=by
 unfold Go.Proofs.ltOf z4E Lib.compareInt z3J;by_cases h:a.Lo<b.Lo;simp[h];by_cases D:b.Lo<a.Lo;have:¬a.Lo=b.Lo:=by omega
 simp[h,D,this];have:a.Lo=b.Lo:=by omega
 by_cases k:a.Hi<b.Hi;simp[this,k];by_cases G:b.Hi<a.Hi<;>simp[this,k,G]
theorem z8B (a b:Range):z3J a b=true↔a.Lo<b.Lo\/(a.Lo=b.Lo/\a.Hi<b.Hi):=by simp[z3J]
theorem zX5 (a b:Range):z3J a b=false↔¬(a.Lo<b.Lo\/(a.Lo=b.Lo/\a.Hi<b.Hi)):=by rw[<-z8B];simp
theorem z8C:Go.Sort.SWO (Go.Proofs.ltOf z4E) where
 irrefl x:=by rw[zSU,zX5];omega
 trans x y z h1 h2:=by rw[zSU,z8B] at *;omega
 ntrans x y z h1 h2:=by rw[zSU,zX5] at *;omega
theorem yHT {l:List Range} {d:Array Range} (H:Go.Sort.PermIn 0 l.toArray.size l.toArray d) (K:Go.Sort.SortedIn (Go.Proofs.ltOf z4E) 0 l.toArray.size d):d=(l.mergeSort λa b=>!z3J b a).toArray:=by
 have G:Go.Proofs.ltOf z4E=z3J:=by funext a b;exact zSU a b
 have h:=Go.Sort.sorted_unique_holds z8C (λa b D k=>by
  rw[zSU,zX5] at D k;obtain⟨T,O⟩:=a;obtain⟨bl,Z⟩:=b;simp only[Range.mk.injEq] at D k ⊢;omega) l.toArray d H K
 rw[G] at h;have k:d=d.toList.toArray:=by simp
 rw[k,h]
def z8D (x:Range):List Value:=[.int .i64 x.Lo,.int .i64 x.Hi]
theorem yL2 {l r:List Range} (h:zXU l=some r):GC Tryz.prog 169 [.row 0,.d (.v (.func (.func 170) #[] #[]))] [(0,.win 143 aF.size 0 (aF.all l))] [0] [] [(0,.win 143 aF.size 0 (aF.all r))]:=by
 unfold zXU yKR at h;split at h;rename_i T;cases h;refine yKS (encK:=z8D) (λx=>rfl) (λx v G=>by simp[z8D] at G;rcases G with rfl | rfl<;>rfl) (by simp) ⟨_,Tryz.func169,by kernel_rfl,rfl⟩ (λ_ A c w=>AnyF.slices_SortFunc_none Tryz.sortIv A c _ w) (λblk off k w K hb=>?_)
 have H:∀args w,(callFunc 170 args).run Tryz.prog w= .ok (.enter 170 args) w:=enters_of Tryz.func170 (by kernel_rfl) rfl;have D:CmpLays Tryz.prog 170 #[] z8D aF.size z4E blk off l.toArray.size w:=λm os dk _ x y=>yQA x y _;have:=AnyQ.slices_SortFunc Tryz.sortIv aF.size Tryz.isAgg143 Tryz.sizeOf143 z8D (λ_=>rfl) (λx v G=>by simp[z8D] at G;rcases G with rfl | rfl<;>rfl) z4E z8C 170 #[] blk off k l.toArray w H D K hb (by unfold LIM at T;simp;omega)
 apply (show Calls Tryz.prog 169 #[.slice (some ⟨blk,off,none⟩) l.length k,.func (.func 170) #[] #[]] w _ from this).mono _
 rintro e w' ⟨O,d',n,os,Z,hs,hw⟩
 refine⟨O,n,os,?_⟩;rw[hw,yHT Z hs];cases h
theorem zSV {a0 r} (h:zGN a0=some r):zB Tryz.prog 127 [(zJ aF a0)] [(bA.dv r)]:=by
 refine co Tryz.func127 ?_;intro _ _ _ _;unfold zGN at h;apply Q0 _;apply q85 _;apply zF<|Q3 _;apply zG (j6 (t:=3) 1003 143 aF.size lr lr rfl rfl) _;apply Q4 _;apply q6 S24 _;apply Q20 _;have ⟨y1,k,h⟩:=bE h;apply tl (.exit 0) ⟨[(2,.ptr 2 0),(3,.row 1003)],[(2,.box 26 [.d (.v (.slice none 0 0))]),(1003,.row 143 aF.size false (aF.all y1))]⟩ _ _;apply zD (λx=>⟨[(2,.ptr 2 0),(3,.row 1003),(11,.d (zJ aF a0)),(12,.d (di (a0.length:Int))),(13,.d (di x.1))],[(2,.box 26 [.d (.v (.slice none 0 0))]),(1003,.row 143 aF.size false (aF.all x.2))]⟩) k wc _
 rintro⟨ah,T⟩ aj Z
 replace Z:zCH a0 ah T=some aj:=Z;unfold zCH at Z;apply Q15 _;apply zX Z (λZ=>?_) (λZ=>?_);apply Q5 _;have ⟨y2,K,Z⟩:=bE Z;apply tl .normal ⟨[(2,.ptr 2 0),(3,.row 1003),(11,.d (zJ aF a0)),(12,.d (di (a0.length:Int))),(13,.d (di ah))],[(2,.box 26 [.d (.v (.slice none 0 0))]),(1003,.row 143 aF.size false (aF.all y2))]⟩ _ _;apply Q82 _;have ⟨ag,k,K⟩:=bE K;apply q12 S24 k _;apply yP1 zSK k _;apply yBU _;apply zF _;apply zG (zO (t:=5) lr rfl rfl rfl) _;apply Q0 _;apply q8 zNA _;apply q7 O3 _;apply yGZ _;apply q8 zH6 _;apply q7 O3 _;apply yLL _;apply q41 zXW _;apply yBU _;apply zF _;apply zG (zO (t:=6) lr rfl rfl rfl) _;apply Q0 _;apply q8 zNA _;apply q7 O3 _;apply q8 zH6 _;apply q7 O3 _;apply q83 _;apply zF _;apply zX K (λK=>?_) (λK=>?_);apply Q30 _;apply q26 zSK _;apply q30 S24 _;have ⟨_,k,K⟩:=bE K;apply zU rfl (zY (en:=aF) (l:=T) (m:=[({Lo:=max ag.Lo 0,Hi:=min ag.Hi 1114111}:Range)]) lr S24 rfl rfl rfl k (by decide) (by decide) rfl rfl) _;apply Q11 _;exact eo K;apply zH _;exact eo K;apply Q19 _;exact ew Z;exact zC (ex Z);apply Q27 _;refine vH (zSC (id:=1003) rfl) ?_ (by simp);have ⟨H,k,h⟩:=bE h;refine zU rfl (wL [(0,1003)] (yL2 k) lr (by decide) ⟨rfl,rfl,trivial⟩ rfl rfl ⟨rfl,trivial⟩ rfl rfl rfl (λ_=>rfl) rfl) ?_;apply zF _;apply zG (yAC (t:=3) lr rfl rfl) _;apply Q3 _;apply zG (j6 (t:=7) 1007 143 aF.size lr lr rfl rfl) _;apply Q4 _;apply q6 S24 _;apply Q20 _;have ⟨y5,k,h⟩:=bE h;apply tl (.exit 2) ⟨[(2,.ptr 2 0),(7,.row 1007)],[(2,.box 26 [.d (.v (.slice none 0 0))]),(1007,.row 143 aF.size false (aF.all y5))]⟩ _ _;apply zD (λx=>⟨[(2,.ptr 2 0),(7,.row 1007),(36,.d (zJ aF H)),(37,.d (di (H.length:Int))),(38,.d (di x.1))],[(2,.box 26 [.d (.v (.slice none 0 0))]),(1007,.row 143 aF.size false (aF.all x.2))]⟩) k wc _
 rintro⟨ai,D⟩ ak p5
 replace p5:zCI H ai D=some ak:=p5;unfold zCI at p5;apply Q15 _;apply zX p5 (λp5=>?_) (λp5=>?_);apply Q5 _;have ⟨y6,G,p5⟩:=bE p5;apply tl .normal ⟨[(2,.ptr 2 0),(7,.row 1007),(36,.d (zJ aF H)),(37,.d (di (H.length:Int))),(38,.d (di ai))],[(2,.box 26 [.d (.v (.slice none 0 0))]),(1007,.row 143 aF.size false (aF.all y6))]⟩ _ _;apply Q82 _;have ⟨ab,k,G⟩:=bE G;apply q12 S24 k _;apply yP1 zSK k _;apply yBU _;apply zF _;apply zG (zO (t:=9) lr rfl rfl rfl) _;apply Q12 _;apply q11 _;apply yBC S24 _;apply z31 _;apply yH MX rfl _;apply q9 _;apply yUG _;have ⟨_,k,G⟩:=bE G;apply q79 k _;apply yLF (.ip (aF.cells ab) (0+0)) zNA _;apply yPO (.d (di ab.Lo)) O3 _;refine dat (.row 1007) rfl (λhb=>by subst hb;exact zGI lr rfl) ?_
 apply q80 (.d (di (D.length:Int))) _;refine dat (.d (di (wi ((D.length:Int)-1)))) rfl (λhb=>by subst hb;exact z03 lr rfl rfl) ?_
 have ⟨ac,ad,G⟩:=bE G;refine dat (.ptr 1007 ((wi ((D.length:Int)-1)).toNat*aF.size)) rfl (λhb=>by subst hb;exact zR9 (en:=aF) (l:=D) lr S24 rfl rfl rfl ad) ?_
 refine dat (.ptr 1007 ((wi ((D.length:Int)-1)).toNat*aF.size+1)) rfl (λhb=>by subst hb;exact zBS lr zH6 rfl) ?_
 refine dat (.d (di ac.Hi)) rfl (λhb=>by subst hb;exact zL5 (en:=aF) (l:=D) (i:=(wi ((D.length:Int)-1))) (v:=ac) (off:=1) lr O3 rfl rfl ad rfl) ?_
 refine dat (.d (di (wi (ac.Hi+1)))) rfl (λhb=>by subst hb;exact z6H lr rfl rfl) ?_
 refine dat (.d (db (decide (ab.Lo<=(wi (ac.Hi+1)))))) rfl (λhb=>by subst hb;exact zQR lr rfl rfl) ?_
 apply yL1 _;apply zX G (λG=>?_) (λG=>?_);apply zQ _;apply zD0 14 MX rfl _;apply yBV _;apply z3U _;apply yBV _;apply z3U _;have ⟨al,k,G⟩:=bE G;apply yP2 S24 k _;apply q32 zH6 _;apply daa (zL5 (en:=aF) (l:=D) (i:=(wi ((D.length:Int)-1))) (v:=al) (off:=1) lr O3 rfl rfl k rfl) _;apply q56 zH6 _;apply q57 O3 _;apply daa (yR2 lr rfl rfl) _;have ⟨am,k,G⟩:=bE G;apply yP2 S24 k _;apply q32 zH6 _;apply wZ _;have ⟨_,O,G⟩:=bE G;refine zU rfl (zG8 (en:=aF) (l:=D) (i:=(wi ((D.length:Int)-1))) (v:=am) (off:=1) O3 rfl rfl rfl k rfl (by decide) O rfl rfl) ?_;apply zF<|zC _;exact eo G;apply zH<|Q30 _;apply q26 zSK _;apply q30 S24 _;have ⟨_,k,G⟩:=bE G;apply zU rfl (zY (en:=aF) (l:=D) (m:=[ab]) lr S24 rfl rfl rfl k (by decide) (by decide) rfl rfl) _;apply Q11 _;exact eo G;apply Q19 _;exact ew p5;exact zC (ex p5);apply Q27 _;refine vH (k7 (t:=77) lr rfl rfl) ?_ (by simp);apply q41 B26 _;apply z7Z _;cases h;apply zK _;exact zAB rfl rfl G26 rfl
theorem zQ4 {a0 r} (h:zG1 a0=some r):zB Tryz.prog 80 [(bA.dv a0)] [(db r)]:=by
 refine co Tryz.func80 ?_;intro _ _ _ _;unfold zG1 at h;apply Q92 _;apply Q49 _;apply yUK _;have ⟨Z,k,h⟩:=bE h;apply q5 (zSV k) _;apply q85 _;apply z7Z _;apply zG (zO (t:=3) lr rfl rfl rfl) _;apply Q12 _;apply zZZ _;apply zZZ _;apply Q41 _;apply zX h (λh=>?_) (λh=>?_);apply Q3 _;exact er h;apply Q81 _;apply zZZ _;apply Q20 _;have ⟨G,k,h⟩:=bE h;apply zT G (.exit 0) (λG=>⟨[],[]⟩) .ret (λG=>⟨[(2,.d (db G))],[]⟩) _ _ _;apply zD (λx=>⟨[(1,.d (.pt (bA.cells a0))),(17,.d (zJ aF Z.Ranges)),(18,.d (di (Z.Ranges.length:Int))),(19,.d (di x))],[]⟩) k wc _
 rintro K O D
 replace D:zDD Z a0 K=some O:=D;unfold zDD at D;apply Q15 _;apply zX D (λD=>?_) (λD=>?_);apply yBP _;have ⟨T,k,D⟩:=bE D;apply q12 S24 k _;apply yP1 zSK k _;apply q49 _;apply q1 _;apply q13 zSK _;apply zF _;apply zG (zO (t:=5) lr rfl rfl rfl) _;apply zQ _;apply yH MX rfl _;apply q67 zSK _;apply q56 zEB _;apply q57 O24 _;apply q9 _;have ⟨H,k,D⟩:=bE D;apply q36 S24 k _;apply daa (uU (en:=aF) (l:=a0.Ranges) (i:=K) (v:=H) (off:=0) lr zSK rfl k rfl rfl (by decide)) _;apply daa (z2Y (en:=aF) (a:=T) (b:=H) lr yW5 rfl rfl) _;apply wZ _;apply zX D (λD=>?_) (λD=>?_);apply Q23 _;cases D;intro q;cases q;exact⟨rfl,wc⟩;apply Q56 _;exact ew D;apply zC _;cases D;intro q;cases q;exact⟨rfl,wc⟩
 rintro G rfl
 replace h:=eL h;apply Q3 _;exact er h
 rintro G rfl
 replace h:=eR h;exact es h
theorem zF6 {a0 r} (h:zB6 a0=some r):zB Tryz.prog 81 [(di a0)] [(di r)]:=by refine co Tryz.func81 ?_;intro _ _ _ _;unfold zB6 at h;apply Q3 _;apply Q37 _;apply Q2 _;apply q40 _;have ⟨_,k,h⟩:=bE h;apply q4 k _;apply q16 (.d (di a0)) _;apply q84 (.d (db (decide (a0<4371)))) _;apply Q51 _;apply zX h (λh=>?_) (λh=>?_);apply Q3 _;exact er h;apply Q2 _;apply q40 _;have ⟨_,k,h⟩:=bE h;apply q4 k _;apply q16 (.d (di a0)) _;apply q84 (.d (db (decide (a0<4470)))) _;apply Q51 _;apply zX h (λh=>?_) (λh=>?_);apply Q3 _;exact er h;apply Q2 _;apply q40 _;have ⟨_,k,h⟩:=bE h;apply q4 k _;apply q16 (.d (di a0)) _;apply q84 (.d (db (decide (a0<4547)))) _;apply Q51 _;apply zX h (λh=>?_) (λh=>?_);apply Q3 _;exact er h;apply Q2 _;apply q3 _;have ⟨_,k,h⟩:=bE h;apply q4 k _;apply q28 (.d (di a0)) _;apply yLE (.d (db (decide (55204<=a0)))) _;apply q21 _;apply Q1 _;apply zX h (λh=>?_) (λh=>?_);apply Q3 _;exact er h;apply Q2 _;apply q35 _;have ⟨_,k,h⟩:=bE h;apply z3V k _;apply Q28 _;apply zX h (λh=>?_) (λh=>?_);apply Q3 _;exact er h;apply Q68 _;exact er h
theorem zHG {a0 r} (h:zAQ a0=some r):zB Tryz.prog 130 [(zJ aH a0)] [(zJ aH r)]:=by refine co Tryz.func130 ?_;intro _ _ _ _;unfold zAQ at h;apply Q25 _;have ⟨_,k,h⟩:=bE h;apply q5 (zME k) _;apply Q41 _;apply zX h (λh=>?_) (λh=>?_);apply Q3 _;apply zG (zQ9 (t:=2) aH.size lr rfl) _;exact er h;apply zH<|Q29 _;exact er h
theorem zCC {G:DV} {a0:(List bL)} {O:Int} {a2:bL->Int->Option (Int)} (T:∀x0 x1 y,a2 x0 x1=some y->FnC Tryz.prog G [(aH.dv x0),(di x1)] [(di y)]) {r:Int×Bool} (h:kZ a0 O a2=some r):zB Tryz.prog 195 [(zJ aH a0),(di O),G] [(di r.1),(db r.2)]:=by
 refine co Tryz.func195 ?_;intro _ _ _ _;unfold kZ at h;apply Q52 _;apply Q2 _;apply q6 S22 _;apply Q40 _;apply Q8 _;apply Q37 _;have ⟨y1,k,h⟩:=bE h;apply tl (.exit 0) ⟨[(0,.d (zJ aH a0)),(1,.d (di O)),(2,.d G),(8,.d (di (a0.length:Int))),(9,.d (di y1))],[]⟩ _ _;apply zD (λx=>⟨[(0,.d (zJ aH a0)),(1,.d (di O)),(2,.d G),(8,.d (di (a0.length:Int))),(9,.d (di x.1)),(10,.d (di x.2))],[]⟩) k wc _
 rintro⟨v9,ac⟩ ah H
 replace H:yB a0 a2 O v9 ac=some ah:=H;unfold yB at H;apply Q93 _;apply zX H (λH=>?_) (λH=>?_);apply zH _;have ⟨y2,D,H⟩:=bE H;apply tl .normal ⟨[(0,.d (zJ aH a0)),(1,.d (di O)),(2,.d G),(8,.d (di (a0.length:Int))),(9,.d (di y2.1)),(10,.d (di y2.2))],[]⟩ _ _;apply z32 _;apply yHR _;apply yBS _;apply q0 _;have ⟨ai,k,D⟩:=bE D;apply q12 S22 k _;apply k6 (uU (en:=aH) (l:=a0) (i:=(wi ((wu (wi (v9+ac)))/2 ^ 1))) (v:=ai) (off:=0) lr u7 rfl k rfl rfl (by decide)) _;apply q0 _;have ⟨_,k,D⟩:=bE D;apply yPS (T _ _ _ k) _;apply Q6 _;apply zX D (λD=>?_) (λD=>?_);apply Q21 _;exact eo D;apply z30 _;exact eo D;exact ew H;exact zC (ex H);apply Q13 _;apply q0 _;apply q3 _;have ⟨_,k,h⟩:=bE h;apply q4 k _;apply q16 (.d G) _;apply q16 (.d (zJ aH a0)) _;apply q16 (.d (di y1)) _;have ⟨aa,K,h⟩:=bE h;refine sqt (.ip (aH.all a0) (y1.toNat*aH.size)) rfl (λhb=>by subst hb;exact jB (en:=aH) lr S22 rfl rfl K) ?_
 refine sqt (.d (aH.dv aa)) rfl (λhb=>by subst hb;exact uU (en:=aH) (l:=a0) (i:=y1) (v:=aa) (off:=0) lr u7 rfl K rfl rfl (by decide)) ?_
 apply q16 (.d (di O)) _;have ⟨ab,Z,h⟩:=bE h;refine sqt (.d (di ab)) rfl (λhb=>by subst hb;exact zM4 lr rfl rfl (T _ _ _ Z)) ?_
 apply q99 (.d (db (decide (ab=0)))) _;apply q19 _;apply Q8 _;cases h;apply zK _;exact u9 rfl rfl
theorem zRN {a0 k r} (h:zA5 a0 k=some r):zB Tryz.prog 196 [(aH.dv a0),(di k)] [(di r)]:=by refine co Tryz.func196 ?_;intro _ _ _ _;unfold zA5 at h;apply Q43 _;apply Q1 _;apply Q37 _;apply Q0 _;apply q8 zI8 _;apply q7 O3 _;apply q0 _;apply q3 _;apply Q1 _;apply zX h (λh=>?_) (λh=>?_);apply Q3 _;exact er h;apply Q0 _;apply q8 zI7 _;apply q7 O3 _;apply q0 _;apply q53 _;apply Q1 _;apply zX h (λh=>?_) (λh=>?_);apply Q3 _;exact er h;apply Q68 _;exact er h
theorem zFK {a0 H r} (h:kX a0 H=some r):zB Tryz.prog 164 [(zJ aH a0),(di H)] [(di r)]:=by refine co Tryz.func164 ?_;intro _ _ _ _;unfold kX at h;apply z7Y _;have ⟨D,k,h⟩:=bE h;apply q5 (zCC (λ_ _ _ q=> .inr (.inl ⟨_,rfl,zRN q⟩)) k) _;apply z73 _;apply Q45 _;apply zX h (λh=>?_) (λh=>?_);apply Q3 _;exact er h;apply zH<|Q13 _;have ⟨G,k,h⟩:=bE h;apply q12 S22 k _;apply q66 zLR _;apply k6 (yA (en:=aH) (l:=a0) (i:=D.1) (v:=G) (off:=2) lr O3 rfl k rfl) _;apply Q1 _;exact er h
theorem zLH {items:List Range} {O:LI} {a2:(List bL)} {r:Unit} (h:zBT items O a2=some r):z54 Tryz.prog 172 [(.pt [(zJ eI O)]),(.pt [(zJ aH a2)])] (items.map λx=>[aF.dv x]):=by
 apply yOQ Tryz.func172 (by kernel_rfl) rfl lr lr λw0 I0 J hc hg hG l0 hE=>?_;unfold zBT at h;apply Q3 _;apply Q12 _;apply yBB O39 _;apply Q69 _;have ⟨T,an,h⟩:=bE h;apply zT T (.exit 0) (λT=>⟨[(0,.d (.v (.func (.yield l0) #[] #[]))),(1,.d (.pt [(zJ eI O)])),(4,.d (di T.1)),(1000000,.gh T.2)],[]⟩) .ret (λT=>⟨[(1000000,.gh T)],[]⟩) _ _ _;apply zD (λx=>⟨[(0,.d (.v (.func (.yield l0) #[] #[]))),(1,.d (.pt [(zJ eI O)])),(2,.d (.pt [(zJ aH a2)])),(4,.d (di x.1)),(8,.d (zJ eI O)),(9,.d (di (O.length:Int))),(10,.d (di x.2.1)),(1000000,.gh x.2.2)],[]⟩) an wc _
 rintro⟨v4,ac,H⟩ ao K
 replace K:kP O a2 items v4 ac H=some ao:=K;unfold kP at K;apply Q15 _;apply zX K (λK=>?_) (λK=>?_);apply Q5 _;have ⟨y2,G,K⟩:=bE K;apply zT y2 .normal (λy2=>⟨[(0,.d (.v (.func (.yield l0) #[] #[]))),(1,.d (.pt [(zJ eI O)])),(2,.d (.pt [(zJ aH a2)])),(4,.d (di y2.1)),(8,.d (zJ eI O)),(9,.d (di (O.length:Int))),(10,.d (di ac)),(1000000,.gh y2.2)],[]⟩) .ret (λy2=>⟨[(1000000,.gh y2)],[]⟩) _ _ _;apply z36 _;have ⟨_,Z,G⟩:=bE G;apply q12 yP Z _;apply q46 O3 Z _;apply Q8 _;apply Q0 _;apply yBB O22 _;apply q0 _;have ⟨_,ai,G⟩:=bE G;apply q5 (zFK ai) _;apply Q28 _;have ⟨y3,D,G⟩:=bE G;apply zT y3 .normal (λy3=>⟨[(0,.d (.v (.func (.yield l0) #[] #[]))),(1,.d (.pt [(zJ eI O)])),(2,.d (.pt [(zJ aH a2)])),(4,.d (di y3.1)),(8,.d (zJ eI O)),(9,.d (di (O.length:Int))),(10,.d (di ac)),(1000000,.gh y3.2)],[]⟩) .ret (λy3=>⟨[(1000000,.gh y3)],[]⟩) _ _ _;apply z36 _;apply q29 _;have ⟨_,ag,D⟩:=bE D;apply q4 ag _;apply q16 (.d (di v4)) _;apply q84 (.d (db (decide (v4<0)))) _;apply Q51 _;apply zX D (λD=>?_) (λD=>?_);apply z30 _;exact ep D;apply Q2 _;have ⟨_,ah,D⟩:=bE D;apply q4 ah _;apply q16 (.d (di v4)) _;apply yBE (.d (db (decide (0<=v4)))) _;apply Q51 _;apply zX D (λD=>?_) (λD=>?_);apply Q16 _;apply q0 _;apply q41 zXW _;have ⟨_,aj,D⟩:=bE D;apply zU rfl (z2O (k:=H) lr hE rfl rfl rfl (yAL _ aj)) _;apply Q45 _;apply zX D (λD=>?_) (λD=>?_);apply zK _;exact ep D;refine zH<|xM<|Q1 ?_;exact ep D;apply zH _;exact ep D
 rintro y3 rfl
 replace G:=eL G;exact ep G
 rintro y3 rfl
 replace G:=eR G;exact ep G
 rintro y2 rfl
 replace K:=eL K;apply Q19 _;exact ew K
 rintro y2 rfl
 replace K:=eR K;cases K;intro q;cases q;exact⟨rfl,wc⟩;apply zC _;cases K;intro q;cases q;exact⟨rfl,wc⟩
 rintro T rfl
 replace h:=eL h;apply Q2 _;apply yL0 _;apply zX h (λh=>?_) (λh=>?_);apply Q70 _;apply yBB O39 _;apply q6 yP _;apply q41 zXW _;have ⟨_,ak,h⟩:=bE h;apply zU rfl (z2O (k:=T.2) lr hE rfl rfl rfl (yAL _ ak)) _;apply zF _;exact⟨rfl,zOX _ h⟩;apply zH _;exact⟨rfl,zOX _ h⟩
 rintro T rfl
 replace h:=eR h;exact⟨rfl,zOX _ h⟩
theorem zNV {a0:List bL} {h:LI}:zB Tryz.prog 129 [(zJ aH a0),(zJ eI h)] [.fn 172 [.pt [zJ eI h],.pt [zJ aH a0]]]:=by refine co Tryz.func129 ?_;intro _ _ _ _;apply Q92 _;apply q72 _;apply Q49 _;apply yPT _;apply Q1 _;apply zK _;exact zGV rfl
theorem z8E {f:FuncId} {G:List DV} {r:List Range} (O:z54 Tryz.prog f G (r.map λx=>[aF.dv x])) (hr:r.length<=LIM):zB Tryz.prog 171 [.v (.slice none 0 0),.fn f G] [zJ aF r]:=by
 refine co Tryz.func171 ?_;intro _ _ _ _;apply Q0 _;apply zU rfl (yCW lr rfl rfl rfl) _;apply Q1 _;apply zG (wV (bid:=2) (off:=0) 100 143 aF.size lr (by decide) rfl rfl rfl) _;apply Q67 _;apply kV _;refine z00 [(2,.ptr 2 0),(4,.d (.v (.slice none 0 0)))] [2] (λk=>[(2,.box 24 [.row 100]),(100,.row 143 aF.size false (aF.all (r.take k)))]) rfl O rfl (λ_ _ _ _ h=>h) ?hk ?hT rfl (λ_=>rfl) ?hbx (λ_ _=>rfl) ?hl ?hpn ?rd ?hK
 case hk=>exact⟨rfl,rfl,trivial⟩
 case hT=>exact⟨rfl,rfl,trivial⟩
 case hbx=>intro k id hi;simp at hi;subst hi;exact λ(h:Blk.box _ _=Blk.none)=>by cases h
 case hl=>intro x K;obtain⟨y,_,rfl⟩:=fL.1 K;rfl
 case hpn=>intro p Z;simp at Z;subst Z;exact lr
 case rd=>
  intro w1 Iall X C0 ah T l1 D ad ag ac k x K;rw[e7] at K;obtain⟨v,hv,rfl⟩:=g6.1 K;have ab:=(dV.1 hv).1;have H:app (r.take k) [v]=some (r.take (k+1)):=by
   unfold app;rw[eG (by simp;omega),iA,hv]
   rfl
  apply xM<|yBU _;apply z35 _;apply xM<|q20 O24 _;apply k6 ((jE lr zSK rfl rfl rfl rfl).data rfl) _;apply q30 S24 _;apply zU rfl (zY (en:=aF) (l:=r.take k) (m:=[v]) lr S24 rfl rfl rfl H (by decide) (by decide) rfl rfl) _;apply q62 O24 _;apply zF _;exact⟨rfl,rfl,trivial⟩
 case hK=>
  rw[fO,iD];apply Q0 _;apply q20 O24 _;apply Q83 _;exact zGV rfl
theorem yHU {f:FuncId} {h:List DV} {r:List Range} (k:z54 Tryz.prog f h (r.map λx=>[aF.dv x])) (D:r.length<=LIM):zB Tryz.prog 128 [.fn f h] [zJ aF r]:=by refine co Tryz.func128 ?_;intro _ _ _ _;apply Q62 _;apply q5 (z8E k D) _;apply Q1 _;apply zK _;exact zGV rfl
theorem zV0 {a0:List bL} {H:LI} {r:List Range} (h:zF0 a0 H=some r):zB Tryz.prog 82 [(zJ aH a0),(zJ eI H)] [zJ aF r]:=by
 unfold zF0 at h;have ⟨O,D,K⟩:=bE h;clear h;have ⟨T,G,h⟩:=bE K;clear K;unfold z7H at h;split at h
 case isFalse=>cases h
 rename_i k;cases h;refine co Tryz.func82 ?_;intro _ _ _ _;apply Q62 _;apply q5 (zHG D) _;apply q0 _;apply q5 zNV _;apply q5 (yHU (zLH G) k) _;apply Q1 _;apply zK _;exact zGV rfl
theorem zX6 {a0 r} (h:zJM a0=some r):zB Tryz.prog 200 [(di a0)] [(dG.dv r)]:=by refine co Tryz.func200 ?_;intro _ _ _ _;unfold zJM at h;apply Q0 _;apply yLM _;apply zF<|Q4 _;have ⟨_,k,h⟩:=bE h;apply q5 (zF6 k) _;apply Q6 _;apply zX h (λh=>?_) (λh=>?_);apply Q0 _;apply z3Q zXV _;apply q13 z7K _;apply zF _;cases h;apply zK _;exact zAB rfl rfl z7K rfl;apply Q90 _;apply q35 _;apply Q40 _;have ⟨_,k,h⟩:=bE h;apply yGY k _;have ⟨G,k,h⟩:=bE h;apply yGY k _;apply yHP _;have ⟨_,k,h⟩:=bE h;apply yGY k _;have ⟨H,k,h⟩:=bE h;apply z3V k _;apply q2 _;apply z3Q zXV _;apply yLM _;apply q13 z7K _;apply zF<|Q4 _;have ⟨_,k,h⟩:=bE h;apply z3V k _;apply Q59 _;have ⟨K,D,h⟩:=bE h;apply tl .normal ⟨[(2,.ptr 2 0),(4,.ptr 4 0)],[(2,.box 296 [.d (di 0),.d (di 0),.d (di 0)]),(4,.box 296 [.d (di (wi (4352+G))),.d (di (wi (4449+H))),.d (di K)])]⟩ _ _;apply zX D (λD=>?_) (λD=>?_);apply Q9 _;have ⟨_,k,D⟩:=bE D;apply z3V k _;apply q2 _;apply q35 _;apply zZS zXV _;apply z7V _;exact eo D;apply zH _;exact eo D;apply Q0 _;apply k6 ((jE lr z7K rfl rfl rfl rfl).data rfl) _;apply q13 z7K _;apply zF _;cases h;apply zK _;exact zAB rfl rfl z7K rfl
theorem zRO {a0 r} (h:zDE a0=some r):zB Tryz.prog 173 [(di a0)] [(zJ eI r)]:=by refine co Tryz.func173 ?_;intro _ _ _ _;unfold zDE at h;apply Q62 _;have ⟨D,k,h⟩:=bE h;apply q5 (zX6 k) _;apply yLM _;apply q13 z7K _;apply zF _;apply zG (zO (t:=3) lr rfl rfl rfl) _;apply Q37 _;apply Q0 _;apply q26 z7K _;apply z3Q zXV _;apply k6 (z2X (en:=dG) (a:=D) (b:=({x0:=0,x1:=0,x2:=0}:dB)) lr yYX rfl rfl) _;apply Q1 _;apply zX h (λh=>?_) (λh=>?_);apply Q2 _;apply q30 yP _;apply Q1 _;exact er h;apply Q0 _;apply zZT zXV _;apply q7 O3 _;apply Q28 _;apply zX h (λh=>?_) (λh=>?_);apply Q0 _;apply zZT zXV _;apply q7 O3 _;apply zZT zXV _;apply q7 O3 _;apply q30 yP _;apply Q1 _;exact er h;apply Q32 _;apply zZT zXV _;apply q7 O3 _;apply zZT zXV _;apply q7 O3 _;apply zZT zXV _;apply q7 O3 _;apply q30 yP _;apply Q1 _;exact er h
theorem zAS {G:DV} {a0:(List aG)} {O:Int} {a2:aG->Int->Option (Int)} (T:∀x0 x1 y,a2 x0 x1=some y->FnC Tryz.prog G [(aB.dv x0),(di x1)] [(di y)]) {r:Int×Bool} (h:yI a0 O a2=some r):zB Tryz.prog 174 [(zJ aB a0),(di O),G] [(di r.1),(db r.2)]:=by
 refine co Tryz.func174 ?_;intro _ _ _ _;unfold yI at h;apply Q52 _;apply Q2 _;apply q6 S23 _;apply Q40 _;apply Q8 _;apply Q37 _;have ⟨y1,k,h⟩:=bE h;apply tl (.exit 0) ⟨[(0,.d (zJ aB a0)),(1,.d (di O)),(2,.d G),(8,.d (di (a0.length:Int))),(9,.d (di y1))],[]⟩ _ _;apply zD (λx=>⟨[(0,.d (zJ aB a0)),(1,.d (di O)),(2,.d G),(8,.d (di (a0.length:Int))),(9,.d (di x.1)),(10,.d (di x.2))],[]⟩) k wc _
 rintro⟨v9,ah⟩ ag H
 replace H:z2 a0 a2 O v9 ah=some ag:=H;unfold z2 at H;apply Q93 _;apply zX H (λH=>?_) (λH=>?_);apply zH _;have ⟨y2,D,H⟩:=bE H;apply tl .normal ⟨[(0,.d (zJ aB a0)),(1,.d (di O)),(2,.d G),(8,.d (di (a0.length:Int))),(9,.d (di y2.1)),(10,.d (di y2.2))],[]⟩ _ _;apply z32 _;apply yHR _;apply yBS _;apply q0 _;have ⟨_,k,D⟩:=bE D;apply q12 S23 k _;apply zZR G81 k _;apply q0 _;have ⟨_,k,D⟩:=bE D;apply yPS (T _ _ _ k) _;apply Q6 _;apply zX D (λD=>?_) (λD=>?_);apply Q21 _;exact eo D;apply z30 _;exact eo D;exact ew H;exact zC (ex H);apply Q13 _;apply q0 _;apply q3 _;have ⟨_,k,h⟩:=bE h;apply q4 k _;apply q16 (.d G) _;apply q16 (.d (zJ aB a0)) _;apply q16 (.d (di y1)) _;have ⟨aa,K,h⟩:=bE h;refine sqt (.ip (aB.all a0) (y1.toNat*aB.size)) rfl (λhb=>by subst hb;exact jB (en:=aB) lr S23 rfl rfl K) ?_
 refine sqt (.d (aB.dv aa)) rfl (λhb=>by subst hb;exact uU (en:=aB) (l:=a0) (i:=y1) (v:=aa) (off:=0) lr G81 rfl K rfl rfl (by decide)) ?_
 apply q16 (.d (di O)) _;have ⟨ab,Z,h⟩:=bE h;refine sqt (.d (di ab)) rfl (λhb=>by subst hb;exact zM4 lr rfl rfl (T _ _ _ Z)) ?_
 apply q99 (.d (db (decide (ab=0)))) _;apply q19 _;apply Q8 _;cases h;apply zK _;exact u9 rfl rfl
theorem zRP {a0 D r} (h:uF a0 D=some r):zB Tryz.prog 175 [(aB.dv a0),(di D)] [(di r)]:=by refine co Tryz.func175 ?_;intro _ _ _ _;unfold uF at h;apply zX2 _;apply zZ0 _;apply q0 _;have ⟨_,k,h⟩:=bE h;apply q5 (zCB k) _;apply Q1 _;exact er h
theorem zMF {a0 a1 T r} (h:uY a0 a1 T=some r):zB Tryz.prog 132 [(aU.dv a0),(di a1),(db T)] [(zJ eI r.1),(db r.2)]:=by
 refine co Tryz.func132 ?_;intro _ _ _ _;unfold uY at h;apply Q43 _;apply Q8 _;apply Q4 _;have ⟨_,k,h⟩:=bE h;apply q5 (zF6 k) _;apply yL0 _;apply zX h (λh=>?_) (λh=>?_);apply Q2 _;have ⟨_,k,h⟩:=bE h;apply q5 (zRO k) _;apply Q8 _;cases h;apply zK _;exact u9 rfl rfl;apply Q32 _;apply zZ2 _;apply q0 _;have ⟨G,k,h⟩:=bE h;apply q5 (zAS (λ_ _ _ q=> .inr (.inl ⟨_,rfl,zRP q⟩)) k) _;apply z73 _;apply q29 _;have ⟨_,k,h⟩:=bE h;apply q4 k _;apply q33 (.ip (aU.cells a0) (0+1)) zSL _;apply q34 (.d (zJ aB a0.aA)) O23 _;apply q28 (.d (di G.1)) _;have ⟨H,K,h⟩:=bE h;refine sqf (.ip (aB.all a0.aA) (G.1.toNat*aB.size)) rfl (λhb=>by subst hb;exact jB (en:=aB) lr S23 rfl rfl K) ?_
 apply yGV (.ip (aB.all a0.aA) (G.1.toNat*aB.size+2)) zG4 _;refine sqf (.d (ds H.bU)) rfl (λhb=>by subst hb;exact yA (en:=aB) (l:=a0.aA) (i:=G.1) (v:=H) (off:=2) lr O9 rfl K rfl) ?_
 refine sqf (.d (db (!(H.bU== [])))) rfl (λhb=>by subst hb;exact yAB (a:=H.bU) (b:=[]) lr rfl rfl) ?_
 have ⟨D,Z,h⟩:=bE h;refine sqf (.d (db D)) rfl (λhb=>by subst hb;exact(kW lr rfl).bool (oi Z)) ?_
 refine vI (x:= .d (db T)) rfl rfl rfl lr lr rfl (λhb=>by obtain⟨hb,O⟩:=zS hb;obtain rfl:=gF hb;obtain rfl:D=true:=O;exact kW lr rfl) ?_
 refine vI (x:= .d (db (!T))) rfl rfl rfl lr lr rfl (λhb=>by obtain⟨hb,O⟩:=zS hb;obtain rfl:=gF hb;obtain rfl:D=true:=O;exact zQS lr rfl) ?_
 apply yGT (.d (db (D&&(!T)))) _;apply Q36 _;apply zX h (λh=>?_) (λh=>?_);apply Q52 _;apply zG (zQ9 (t:=6) eI.size lr rfl) _;cases h;apply zK _;exact u9 rfl rfl;apply Q32 _;apply zZ2 _;apply q0 _;have ⟨_,k,h⟩:=bE h;apply q12 S23 k _;apply q66 zFL _;apply z7P O39 k _;apply Q8 _;cases h;apply zK _;exact u9 rfl rfl
theorem zN4:∀(n:Nat) {a0:Int} {O:Norm} {T:(List (Int×Int))} {a3:Bool} {a5:Bool} {r:Int×Bool×Bool×(List (Int×Int))},jA n a0 O T a3 a5=some r->GC Tryz.prog 131 [.d (di a0),.d (.pt (aU.cells O)),.ptr 3002 0,.ptr 3003 0,.ptr 3004 0,.ptr 3005 0] [(3002,.box 205 [.row 3140]),(3003,.box 4 [.d (db a3)]),(3004,.box 82 [.clo 131 [.d (.pt (aU.cells O)),.ptr 3002 0,.ptr 3003 0,.ptr 3004 0,.ptr 3005 0]]),(3005,.box 4 [.d (db a5)]),(3140,.map (jF kI eI T))] [3002,3003,3004,3005,3140] [.d (di r.1)] [(3002,.box 205 [.row 3140]),(3003,.box 4 [.d (db r.2.1)]),(3004,.box 82 [.clo 131 [.d (.pt (aU.cells O)),.ptr 3002 0,.ptr 3003 0,.ptr 3004 0,.ptr 3005 0]]),(3005,.box 4 [.d (db r.2.2.1)]),(3140,.map (jF kI eI r.2.2.2))]:=by
 intro n
 induction n with
 | zero=>intro a0 O T a3 a5 r h;cases h
 | succ n ih=>
 intro a0 O T a3 a5 r h;replace h:j8 (jA n) a0 O T a3 a5=some r:=h;generalize jA n=ah at h ih;apply wJ Tryz.func131 (by kernel_rfl) rfl lr lr λw0 I0 am p0=>?_;unfold j8 at h;apply Q3 _;apply Q0 _;apply q26 G28 _;apply q0 _;have ⟨D,ag,h⟩:=bE h;apply q5 (zMF ag) _;apply z73 _;apply q29 _;have ⟨_,ad,h⟩:=bE h;apply q4 ad _;apply q28 (.d (zJ eI D.1)) _;apply q74 (.d (di (D.1.length:Int))) yP _;apply z7O (.d (db (decide ((D.1.length:Int)=0)))) _;apply Q36 _;apply zX h (λh=>?_) (λh=>?_);apply Q3 _;cases h;apply zK _;exact⟨⟨_,_,rfl,rfl,rfl⟩,⟨rfl,rfl,rfl,rfl,rfl,trivial⟩⟩;apply Q81 _;apply q20 yPK _;apply q0 _;apply k6 (z07 (kv:=kI) (ev:=eI) (mp:=T) (k:=a0) (zero:=0) lr yT6 K3 rfl rfl rfl (λ_ _=> .v _)) _;apply z74 _;apply zX h (λh=>?_) (λh=>?_);apply Q0 _;apply q20 O4 _;have ⟨_,k,h⟩:=bE h;apply q4 k _;apply q28 (.d (di (wR T a0 0))) _;apply z7O (.d (db (decide ((wR T a0 0)=(-1))))) _;apply q21 _;apply q68 O4 _;apply zF<|Q2 _;apply yGZ _;apply Q1 _;cases h;apply zK _;exact⟨⟨_,_,rfl,rfl,rfl⟩,⟨rfl,rfl,rfl,rfl,rfl,trivial⟩⟩;apply Q32 _;apply q20 yPK _;apply q0 _;apply yLG yT6 K3 _;apply zF<|Q25 _;apply Q69 _;have ⟨y1,k,h⟩:=bE h;apply tl (.exit 0) ⟨[(0,.d (di a0)),(2,.ptr 3002 0),(3,.ptr 3003 0),(4,.ptr 3004 0),(5,.ptr 3005 0),(12,.d (di y1.1))],[(3002,.box 205 [.row 3140]),(3003,.box 4 [.d (db y1.2.1)]),(3004,.box 82 [.clo 131 [.d (.pt (aU.cells O)),.ptr 3002 0,.ptr 3003 0,.ptr 3004 0,.ptr 3005 0]]),(3005,.box 4 [.d (db y1.2.2.1)]),(3140,.map (jF kI eI y1.2.2.2))]⟩ _ _;apply zD (λx=>⟨[(0,.d (di a0)),(2,.ptr 3002 0),(3,.ptr 3003 0),(4,.ptr 3004 0),(5,.ptr 3005 0),(12,.d (di x.1)),(44,.d (zJ eI D.1)),(45,.d (di (D.1.length:Int))),(46,.d (di x.2.1))],[(3002,.box 205 [.row 3140]),(3003,.box 4 [.d (db x.2.2.1)]),(3004,.box 82 [.clo 131 [.d (.pt (aU.cells O)),.ptr 3002 0,.ptr 3003 0,.ptr 3004 0,.ptr 3005 0]]),(3005,.box 4 [.d (db x.2.2.2.1)]),(3140,.map (jF kI eI x.2.2.2.2))]⟩) k wc _
 rintro⟨aj,ak,H,K,Z⟩ ai G
 replace G:wN D ah O aj ak H K Z=some ai:=G;unfold wN at G;apply Q15 _;apply zX G (λG=>?_) (λG=>?_);apply Q31 _;have ⟨_,k,G⟩:=bE G;apply q12 yP k _;apply q46 O3 k _;apply Q1 _;apply Q9 _;apply q20 O82 _;apply q0 _;have ⟨_,k,G⟩:=bE G;refine zU rfl (z6T [(3002,3002),(3003,3003),(3004,3004),(3005,3005),(3140,3140)] (ih k) lr (by decide) rfl ⟨rfl,rfl,rfl,rfl,rfl,rfl,trivial⟩ rfl rfl ⟨rfl,rfl,rfl,rfl,rfl,trivial⟩ rfl rfl rfl rfl) ?_;apply q2 _;apply yLL _;apply Q1 _;apply Q19 _;exact ew G;exact zC (ex G);apply Q0 _;apply q20 yPK _;apply Q26 _;apply yLG yT6 K3 _;apply Q61 _;apply q20 O4 _;have ⟨_,k,h⟩:=bE h;apply q4 k _;apply q28 (.d (di y1.1)) _;apply q55 (.d (db (decide (64<y1.1)))) _;apply q21 _;apply q68 O4 _;apply zF<|Q29 _;cases h;apply zK _;exact⟨⟨_,_,rfl,rfl,rfl⟩,⟨rfl,rfl,rfl,rfl,rfl,trivial⟩⟩
set_option maxHeartbeats 8000000 in
theorem zQF {a0 r} (h:zAK a0=some r):zB Tryz.prog 83 [(aU.dv a0)] [(db r.1),(db r.2)]:=by
 refine co Tryz.func83 ?_;intro _ _ _ _;unfold zAK at h;apply Q43 _;apply zU rfl (yW (zs:=[(.bool false)]) lr (by kernel_rfl) rfl rfl) _;apply zU rfl (yW (zs:=[(.bool false)]) lr (by kernel_rfl) rfl rfl) _;apply Q61 _;apply z7M _;apply zU rfl (yW (zs:=[(.map none)]) lr (by kernel_rfl) rfl rfl) _;apply q62 yPK _;apply Q61 _;apply zU rfl (yW (zs:=[.nilFunc]) lr (by kernel_rfl) rfl rfl) _;apply Q61 _;refine k6 (zPU (cs:=[.d (.pt (aU.cells a0)),.ptr 4 0,.ptr 2 0,.ptr 5 0,.ptr 3 0]) lr ⟨_,_,rfl,rfl,⟨_,_,rfl,rfl,⟨_,_,rfl,rfl,⟨_,_,rfl,rfl,⟨_,_,rfl,rfl,rfl⟩⟩⟩⟩⟩) ?_;apply zU rfl (zJ5 O82 rfl rfl lr rfl rfl rfl rfl) _;apply z75 _;apply zZ2 _;apply z71 _;have ⟨K,k,h⟩:=bE h;apply tl (.exit 0) ⟨[(2,.ptr 2 0),(3,.ptr 3 0)],[(2,.box 4 [.d (db K.1)]),(3,.box 4 [.d (db K.2)])]⟩ _ _;apply zD (λx=>⟨[(2,.ptr 2 0),(3,.ptr 3 0),(5,.ptr 5 0),(11,.d (zJ aB a0.aA)),(12,.d (di (a0.aA.length:Int))),(13,.d (di x.1))],[(2,.box 4 [.d (db x.2.1)]),(3,.box 4 [.d (db x.2.2.1)]),(4,.box 205 [.row 8]),(5,.box 82 [.clo 131 [.d (.pt (aU.cells a0)),.ptr 4 0,.ptr 2 0,.ptr 5 0,.ptr 3 0]]),(8,.map (jF kI eI x.2.2.2))]⟩) k wc _
 rintro⟨T,G,H,Z⟩ O D
 replace D:wF a0 T G H Z=some O:=D;unfold wF at D;apply Q15 _;apply zX D (λD=>?_) (λD=>?_);apply Q31 _;have ⟨_,k,D⟩:=bE D;apply q12 S23 k _;apply zZR G81 k _;apply z72 _;apply zG (zO (t:=7) lr rfl rfl rfl) _;apply xM<|q20 O82 _;apply zZ0 _;have ⟨_,k,D⟩:=bE D;refine zU rfl (zV9 [(3002,4),(3003,2),(3004,5),(3005,3),(3140,8)] (zN4 _ k) lr (by decide) rfl ⟨rfl,rfl,rfl,rfl,rfl,rfl,trivial⟩ rfl rfl ⟨rfl,rfl,rfl,rfl,rfl,trivial⟩ rfl rfl rfl (λ_=>rfl) rfl) ?_;apply yHO _;exact ew D;exact zC (ex D);apply zQ _;apply tl .normal ⟨[(2,.ptr 2 0),(3,.ptr 3 0)],[(2,.box 4 [.d (db K.1)]),(3,.box 4 [.d (db K.2)])]⟩ _ _;apply zGB MX _;apply xn [0,1] _;apply xa rfl (wY lr O4 rfl rfl rfl) _ _;apply xn [1,2] _;apply xa rfl (wY lr O4 rfl rfl rfl) _ _;apply xn [2] _;apply yG1 O4 _;apply xn [3] _;apply yG1 O4 _;exact ae;apply yG1 O4 _;apply xn [1] _;apply xc rfl (wY lr O4 rfl rfl rfl) _;apply xn [3] _;apply yG1 O4 _;exact ae;apply xc rfl (wY lr O4 rfl rfl rfl) _;apply xn [0] _;apply xc rfl (wY lr O4 rfl rfl rfl) _;apply xn [2] _;apply yG1 O4 _;apply xn [3] _;apply yG1 O4 _;exact ae;cases h;apply zK _;exact yAJ rfl rfl O4 rfl rfl O4
theorem zCD {a0 r} (h:xN a0=some r):zB Tryz.prog 38 [(aU.dv a0)] [(di r)]:=by
 refine co Tryz.func38 ?_;intro _ _ _ _;unfold xN at h;apply Q43 _;apply Q74 _;apply q8 zMC _;apply q7 O22 _;have ⟨_,k,h⟩:=bE h;apply q5 (zME k) _;apply z3Z _;apply zX h (λh=>?_) (λh=>?_);apply Q29 _;exact er h;apply Q81 _;apply zZ2 _;have ⟨_,k,h⟩:=bE h;apply q5 (zVZ k) _;apply z3Z _;apply zX h (λh=>?_) (λh=>?_);apply Q29 _;exact er h;apply Q81 _;apply q8 z7L _;apply z7Q G26 _;have ⟨_,k,h⟩:=bE h;apply q5 (zQ4 k) _;apply Q45 _;apply zX h (λh=>?_) (λh=>?_);apply Q3 _;exact er h;apply Q5 _;apply Q24 _;have ⟨y1,k,h⟩:=bE h;apply zT y1 (.exit 0) (λy1=>⟨[(1,.d (.pt (aU.cells a0)))],[]⟩) .ret (λy1=>⟨[(2,.d (di y1))],[]⟩) _ _ _;apply zD (λx=>⟨[(1,.d (.pt (aU.cells a0))),(5,.d (di x))],[]⟩) k wc _
 rintro v5 ag K
 replace K:uG a0 v5=some ag:=K;unfold uG at K;apply Q4 _;apply zZ2 _;apply q6 S23 _;apply Q6 _;apply zX K (λK=>?_) (λK=>?_);apply zVR _;apply yH MX rfl _;apply q56 zSL _;apply q57 O23 _;apply q9 _;have ⟨_,k,K⟩:=bE K;apply q36 S23 k _;apply q78 zJD _;apply yLI O3 k _;apply q56 zSL _;apply q57 O23 _;apply q9 _;apply z3U _;have ⟨_,k,K⟩:=bE K;apply q36 S23 k _;apply q78 zJD _;apply yLI O3 k _;apply yLJ _;apply wZ _;apply zX K (λK=>?_) (λK=>?_);apply Q23 _;cases K;intro q;cases q;exact⟨rfl,wc⟩;apply Q50 _;exact ew K;apply zC _;cases K;intro q;cases q;exact⟨rfl,wc⟩
 rintro y1 rfl
 replace h:=eL h;apply Q12 _;apply zZ2 _;apply z71 _;have ⟨y2,k,h⟩:=bE h;apply zT y2 (.exit 2) (λy2=>⟨[(1,.d (.pt (aU.cells a0)))],[]⟩) .ret (λy2=>⟨[(2,.d (di y2))],[]⟩) _ _ _;apply zD (λx=>⟨[(1,.d (.pt (aU.cells a0))),(51,.d (zJ aB a0.aA)),(52,.d (di (a0.aA.length:Int))),(53,.d (di x))],[]⟩) k wc _
 rintro ak ah G
 replace G:uH a0 ak=some ah:=G;unfold uH at G;apply Q15 _;apply zX G (λG=>?_) (λG=>?_);apply Q31 _;have ⟨H,k,G⟩:=bE G;apply q12 S23 k _;apply zZR G81 k _;apply z72 _;apply zG (zO (t:=7) lr rfl rfl rfl) _;apply Q0 _;apply q8 zG4 _;apply q7 O9 _;apply yPZ _;have ⟨_,k,G⟩:=bE G;apply q4 k _;apply q70 (.ip (aB.cells H) (0+1)) zFL _;apply q73 (.d (zJ eI H.To)) O39 _;apply yBF (.d (di (H.To.length:Int))) yP _;apply yG0 (.d (db (!decide ((H.To.length:Int)=1)))) _;apply q19 _;have ⟨_,k,G⟩:=bE G;apply q4 k _;apply q70 (.ip (aB.cells H) (0+1)) zFL _;apply q73 (.d (zJ eI H.To)) O39 _;apply yBF (.d (di (H.To.length:Int))) yP _;apply yG0 (.d (db (!decide ((H.To.length:Int)=2)))) _;apply Q39 _;apply zX G (λG=>?_) (λG=>?_);apply Q23 _;cases G;intro q;cases q;exact⟨rfl,wc⟩;apply Q56 _;exact ew G;apply zC _;cases G;intro q;cases q;exact⟨rfl,wc⟩
 rintro y2 rfl
 replace h:=eL h;apply Q3 _;apply zG (j6 (t:=8) 1008 3 eI.size lr lr rfl rfl) _;apply Q12 _;apply zZ2 _;apply z71 _;have ⟨Z,k,h⟩:=bE h;apply zT Z (.exit 4) (λZ=>⟨[(1,.d (.pt (aU.cells a0))),(8,.row 1008)],[(1008,.row 3 eI.size false (eI.all Z))]⟩) .ret (λZ=>⟨[(2,.d (di Z))],[]⟩) _ _ _;apply zD (λx=>⟨[(1,.d (.pt (aU.cells a0))),(8,.row 1008),(74,.d (zJ aB a0.aA)),(75,.d (di (a0.aA.length:Int))),(76,.d (di x.1))],[(1008,.row 3 eI.size false (eI.all x.2))]⟩) k wc _
 rintro⟨ad,T⟩ ai O
 replace O:kH a0 ad T=some ai:=O;unfold kH at O;apply Q15 _;apply zX O (λO=>?_) (λO=>?_);apply Q5 _;have ⟨y4,D,O⟩:=bE O;apply zT y4 .normal (λy4=>⟨[(1,.d (.pt (aU.cells a0))),(8,.row 1008),(74,.d (zJ aB a0.aA)),(75,.d (di (a0.aA.length:Int))),(76,.d (di ad))],[(1008,.row 3 eI.size false (eI.all y4))]⟩) .ret (λy4=>⟨[(2,.d (di 11))],[]⟩) _ _ _;apply Q82 _;have ⟨aj,k,D⟩:=bE D;apply q12 S23 k _;apply zZR G81 k _;apply z72 _;apply zG (zO (t:=10) lr rfl rfl rfl) _;apply Q12 _;apply zZ0 _;have ⟨_,k,D⟩:=bE D;apply q5 (zF6 k) _;apply Q41 _;apply zX D (λD=>?_) (λD=>?_);apply Q23 _;exact ep D;apply Q32 _;apply q8 zG4 _;apply q7 O9 _;apply yGU _;apply zF _;apply zX D (λD=>?_) (λD=>?_);apply Q30 _;apply zZ0 _;apply q30 yP _;have ⟨_,k,D⟩:=bE D;apply zU rfl (zY (en:=eI) (l:=T) (m:=[aj.aN]) lr yP rfl rfl rfl k (by decide) (by decide) rfl rfl) _;apply Q11 _;exact ep D;apply zH _;exact ep D
 rintro y4 rfl
 replace O:=eL O;apply Q19 _;exact ew O
 rintro y4 rfl
 replace O:=eR O;cases O;intro q;cases q;exact⟨rfl,wc⟩;apply zC _;cases O;intro q;cases q;exact⟨rfl,wc⟩
 rintro Z rfl
 replace h:=eL h;apply Q12 _;apply q8 zMC _;apply q7 O22 _;apply q11 _;have ⟨_,k,h⟩:=bE h;apply zU rfl (z95 lr rfl rfl (zV0 k)) _;apply q6 S24 _;apply Q59 _;apply zX h (λh=>?_) (λh=>?_);apply Q3 _;exact er h;apply Q32 _;apply q26 G28 _;have ⟨_,k,h⟩:=bE h;apply q5 (zQF k) _;apply Q64 _;apply Q37 _;apply Q29 _;apply zX h (λh=>?_) (λh=>?_);apply Q3 _;exact er h;apply Q29 _;apply zX h (λh=>?_) (λh=>?_);apply Q3 _;exact er h;apply Q68 _;exact er h
 rintro Z rfl
 replace h:=eR h;exact es h
 rintro y2 rfl
 replace h:=eR h;exact es h
 rintro y1 rfl
 replace h:=eR h;exact es h
theorem zMG {a0 r} (h:zBB a0=some r):zB Tryz.prog 147 [(aU.dv a0)] [(aU.dv r)]:=by refine co Tryz.func147 ?_;intro _ _ _ _;unfold zBB at h;apply Q43 _;apply z7R _;apply z75 _;apply q26 G28 _;have ⟨_,k,h⟩:=bE h;apply q5 (zCD k) _;apply Q41 _;apply zX h (λh=>?_) (λh=>?_);apply Q0 _;apply k6 ((zBK lr B28 rfl rfl).nils (bs:=aU.cells ({aI:=[],aA:=[],aL:=(({Ranges:=[]}):Set)}:Norm)) (nlN (nlN (nlN nl0)))) _;apply q13 G28 _;apply zF _;cases h;apply zK _;exact zAB rfl rfl G28 rfl;apply Q32 _;apply q26 G28 _;apply q13 G28 _;apply zF _;cases h;apply zK _;exact zAB rfl rfl G28 rfl
theorem zLI {a0 H r} (h:zG2 a0 H=some r):zB Tryz.prog 144 [(bA.dv a0),(di H)] [(db r)]:=by
 refine co Tryz.func144 ?_;intro _ _ _ _;unfold zG2 at h;apply Q92 _;apply Q84 _;have ⟨_,k,h⟩:=bE h;apply q5 (zAO k) _;apply Q45 _;apply zX h (λh=>?_) (λh=>?_);apply Q3 _;exact er h;apply Q81 _;apply zZZ _;apply Q20 _;have ⟨K,k,h⟩:=bE h;apply zT K (.exit 0) (λK=>⟨[],[]⟩) .ret (λK=>⟨[(4,.d (db K))],[]⟩) _ _ _;apply zD (λx=>⟨[(1,.d (di H)),(11,.d (zJ aF a0.Ranges)),(12,.d (di (a0.Ranges.length:Int))),(13,.d (di x))],[]⟩) k wc _
 rintro T O D
 replace D:uQ a0 H T=some O:=D;unfold uQ at D;apply Q15 _;apply zX D (λD=>?_) (λD=>?_);apply Q31 _;have ⟨G,k,D⟩:=bE D;apply q12 S24 k _;apply yP1 zSK k _;apply yBU _;apply zF _;apply zG (zO (t:=6) lr rfl rfl rfl) _;apply Q0 _;apply q8 zNA _;apply q7 O3 _;apply q0 _;apply q83 _;have ⟨_,k,D⟩:=bE D;apply q4 k _;apply q16 (.d (di H)) _;apply q70 (.ip (aF.cells G) (0+1)) zH6 _;apply q73 (.d (di G.Hi)) O3 _;apply q60 (.d (db (decide (H<=G.Hi)))) _;apply Q39 _;apply zX D (λD=>?_) (λD=>?_);apply Q23 _;cases D;intro q;cases q;exact⟨rfl,wc⟩;apply Q56 _;exact ew D;apply zC _;cases D;intro q;cases q;exact⟨rfl,wc⟩
 rintro K rfl
 replace h:=eL h;apply Q3 _;exact er h
 rintro K rfl
 replace h:=eR h;exact es h
theorem zMH {a0 D r} (h:zBC a0 D=some r):zB Tryz.prog 149 [(zJ aH a0),(di D)] [(di r)]:=by refine co Tryz.func149 ?_;intro _ _ _ _;unfold zBC at h;apply Q62 _;have ⟨_,k,h⟩:=bE h;apply q5 (zHG k) _;apply q0 _;have ⟨_,k,h⟩:=bE h;apply q5 (zFK k) _;apply Q1 _;exact er h
theorem zGQ {a0 D r} (h:uI a0 D=some r):zB Tryz.prog 143 [(zJ aH a0),(di D)] [(db r)]:=by refine co Tryz.func143 ?_;intro _ _ _ _;unfold uI at h;apply z7Y _;have ⟨_,k,h⟩:=bE h;apply q5 (zMH k) _;apply Q28 _;exact er h
theorem zMI {a0 G r} (h:uZ a0 G=some r):zB Tryz.prog 187 [(di a0),(di G)] [(di r.1),(db r.2)]:=by refine co Tryz.func187 ?_;intro _ _ _ _;unfold uZ at h;apply Q52 _;apply Q2 _;have ⟨H,k,h⟩:=bE h;apply q5 (zF6 k) _;apply q0 _;have ⟨D,k,h⟩:=bE h;apply q5 (zF6 k) _;apply z3Q zO1 _;apply q49 _;apply q13 yGM _;apply zF _;apply zG (zO (t:=6) lr rfl rfl rfl) _;apply Q12 _;apply q26 yGM _;apply zF<|Q82 _;apply z3Q zO1 _;apply k6 (z2X (en:=yAY) (a:=({x0:=H,x1:=D}:bD)) (b:=({x0:=1,x1:=2}:bD)) lr yUB rfl rfl) _;apply Q1 _;apply zX h (λh=>?_) (λh=>?_);apply Q2 _;apply q35 _;apply yLO _;apply q0 _;apply q2 _;apply q35 _;apply yLO _;apply q2 _;apply Q8 _;cases h;apply zK _;exact u9 rfl rfl;apply Q0 _;apply z3Q zO1 _;apply k6 (z2X (en:=yAY) (a:=({x0:=H,x1:=D}:bD)) (b:=({x0:=4,x1:=3}:bD)) lr yUB rfl rfl) _;apply Q1 _;apply zX h (λh=>?_) (λh=>?_);apply Q2 _;apply yHP _;apply q2 _;apply q35 _;apply Q8 _;cases h;apply zK _;exact u9 rfl rfl;apply Q32 _;apply Q8 _;cases h;apply zK _;exact u9 rfl rfl
end Go.Proofs.YtedjilemjidllaaGreatDoor.Walk


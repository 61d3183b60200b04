/- Each function of the program answers as its plain counterpart does, where that answers. Conditions: none. -/
import Derived.Test.YtlcjeomefjmhgaaGreatDoorMir
import Derived.Test.YtlcjeomefjmhgaaGreatDoorLa3
import Derived.Test.YtlcjeomefjmhgaaGreatDoorProg
import Derived.Test.YtlcjeomefjmhgaaGreatDoorSh1
import Derived.Shelf.Sort.Plain
import Derived.Shelf.Slices.In.SortNone
set_option linter.unusedSimpArgs false
set_option linter.unusedVariables false
set_option linter.unnecessarySimpa false
namespace Go.Proofs.YtlcjeomefjmhgaaGreatDoor.Walk
open Go.AV Go.M Go.RowKit Go.Proofs
theorem A150:ArTy Tryz.prog 150 4 1 23 [(.slice none 0 0),(.slice none 0 0),(.slice none 0 0),(.slice none 0 0)]:=ArTy.of Tryz.underlying150 (by kernel_rfl) (by decide) (by kernel_rfl) rfl
theorem B184:StTy Tryz.prog 184 [(0,1),(1,1)] [(.int IntKind.i64 (0)),(.int IntKind.i64 (0))]:=StTy.of Tryz.underlying184 (by kernel_rfl) (by kernel_rfl) rfl
theorem B195:StTy Tryz.prog 195 [(0,1),(1,1)] [(.int IntKind.i64 (0)),(.string ⟨#[]⟩)]:=StTy.of Tryz.underlying195 (by kernel_rfl) (by kernel_rfl) rfl
theorem B26:StTy Tryz.prog 26 [(0,1)] [(.slice none 0 0)]:=StTy.of Tryz.underlying26 (by kernel_rfl) (by kernel_rfl) rfl
theorem B28:StTy Tryz.prog 28 [(0,1),(1,1),(2,1)] [(.slice none 0 0),(.slice none 0 0),(.slice none 0 0)]:=StTy.of Tryz.underlying28 (by kernel_rfl) (by kernel_rfl) rfl
theorem B45:StTy Tryz.prog 45 [(0,1),(1,1),(2,1),(3,1),(4,1),(5,1)] [(.slice none 0 0),(.slice none 0 0),(.slice none 0 0),(.slice none 0 0),(.slice none 0 0),(.slice none 0 0)]:=StTy.of Tryz.underlying45 (by kernel_rfl) (by kernel_rfl) rfl
theorem B72:StTy Tryz.prog 72 [(0,1),(1,1),(2,1)] [(.int IntKind.i64 (0)),(.slice none 0 0),(.string ⟨#[]⟩)]:=StTy.of Tryz.underlying72 (by kernel_rfl) (by kernel_rfl) rfl
theorem G150:AggTy Tryz.prog 150 4:=AggTy.of Tryz.underlying150 rfl (by kernel_rfl)
theorem G184:AggTy Tryz.prog 184 2:=AggTy.of Tryz.underlying184 rfl (by kernel_rfl)
theorem G195:AggTy Tryz.prog 195 2:=AggTy.of Tryz.underlying195 rfl (by kernel_rfl)
theorem G26:AggTy Tryz.prog 26 1:=AggTy.of Tryz.underlying26 rfl (by kernel_rfl)
theorem G28:AggTy Tryz.prog 28 3:=AggTy.of Tryz.underlying28 rfl (by kernel_rfl)
theorem G45:AggTy Tryz.prog 45 6:=AggTy.of Tryz.underlying45 rfl (by kernel_rfl)
theorem G72:AggTy Tryz.prog 72 3:=AggTy.of Tryz.underlying72 rfl (by kernel_rfl)
theorem K3:KeyTy Tryz.prog 3 kI:=keyInt Tryz.underlying3
theorem L184_0:FldTy Tryz.prog 184 0 0 1 3:=FldTy.of Tryz.underlying184 rfl (by kernel_rfl) (by decide)
theorem L184_1:FldTy Tryz.prog 184 1 1 1 3:=FldTy.of Tryz.underlying184 rfl (by kernel_rfl) (by decide)
theorem L26_0:FldTy Tryz.prog 26 0 0 1 24:=FldTy.of Tryz.underlying26 rfl (by kernel_rfl) (by decide)
theorem L45_0:FldTy Tryz.prog 45 0 0 1 23:=FldTy.of Tryz.underlying45 rfl (by kernel_rfl) (by decide)
theorem L45_1:FldTy Tryz.prog 45 1 1 1 23:=FldTy.of Tryz.underlying45 rfl (by kernel_rfl) (by decide)
theorem L45_2:FldTy Tryz.prog 45 2 2 1 23:=FldTy.of Tryz.underlying45 rfl (by kernel_rfl) (by decide)
theorem L45_3:FldTy Tryz.prog 45 3 3 1 23:=FldTy.of Tryz.underlying45 rfl (by kernel_rfl) (by decide)
theorem L45_4:FldTy Tryz.prog 45 4 4 1 26:=FldTy.of Tryz.underlying45 rfl (by kernel_rfl) (by decide)
theorem L45_5:FldTy Tryz.prog 45 5 5 1 26:=FldTy.of Tryz.underlying45 rfl (by kernel_rfl) (by decide)
theorem L72_0:FldTy Tryz.prog 72 0 0 1 3:=FldTy.of Tryz.underlying72 rfl (by kernel_rfl) (by decide)
theorem L72_1:FldTy Tryz.prog 72 1 1 1 37:=FldTy.of Tryz.underlying72 rfl (by kernel_rfl) (by decide)
theorem L72_2:FldTy Tryz.prog 72 2 2 1 9:=FldTy.of Tryz.underlying72 rfl (by kernel_rfl) (by decide)
theorem M193:MapTy Tryz.prog 193 195 4 (.bool false):=MapTy.of Tryz.underlying193 (by kernel_rfl)
theorem M73:MapTy Tryz.prog 73 3 37 (.slice none 0 0):=MapTy.of Tryz.underlying73 (by kernel_rfl)
theorem O23:OneTy Tryz.prog 23:=OneTy.of Tryz.underlying23 rfl (by kernel_rfl)
theorem O24:OneTy Tryz.prog 24:=OneTy.of Tryz.underlying24 rfl (by kernel_rfl)
theorem O3:OneTy Tryz.prog 3:=OneTy.of Tryz.underlying3 rfl (by kernel_rfl)
theorem O37:OneTy Tryz.prog 37:=OneTy.of Tryz.underlying37 rfl (by kernel_rfl)
theorem O9:OneTy Tryz.prog 9:=OneTy.of Tryz.underlying9 rfl (by kernel_rfl)
theorem S153:SlTy Tryz.prog 153 23 1 24 (.slice none 0 0):=SlTy.of Tryz.underlying153 (by kernel_rfl) rfl (by decide) rfl
theorem S23:SlTy Tryz.prog 23 72 3 48 (.agg #[(.int IntKind.i64 (0)),(.slice none 0 0),(.string ⟨#[]⟩)]):=SlTy.of Tryz.underlying23 (by kernel_rfl) rfl (by decide) rfl
theorem S24:SlTy Tryz.prog 24 184 2 16 (.agg #[(.int IntKind.i64 (0)),(.int IntKind.i64 (0))]):=SlTy.of Tryz.underlying24 (by kernel_rfl) rfl (by decide) rfl
theorem S37:SlTy Tryz.prog 37 3 1 8 (.int IntKind.i64 (0)):=SlTy.of Tryz.underlying37 (by kernel_rfl) rfl (by decide) rfl
set_option maxRecDepth 10000 in
theorem E184:EqTy Tryz.prog 184 eRange:=EqTy.of (vals:=fun (x:Range)=>[.int IntKind.i64 x.Lo,.int IntKind.i64 x.Hi]) (cs:=fun (a b:Range)=>[decide (a.Lo=b.Lo),decide (a.Hi=b.Hi)]) Tryz.underlying184 (by kernel_rfl) (by kernel_rfl) (fun _=>rfl) (fun a b w=>(eqs_int (d:=9998) rfl O3 (eqs_int (d:=9998) rfl O3 eqs_nil Tryz.underlying3 rfl rfl) Tryz.underlying3 rfl rfl)) (fun a b=>by cases a;cases b;simp)
set_option maxRecDepth 10000 in
theorem E195:EqTy Tryz.prog 195 eMapping_key:=EqTy.of (vals:=fun (x:Mapping_key)=>[.int IntKind.i64 x.from_,.string ⟨x.tag.toArray⟩]) (cs:=fun (a b:Mapping_key)=>[decide (a.from_=b.from_),decide (a.tag=b.tag)]) Tryz.underlying195 (by kernel_rfl) (by kernel_rfl) (fun _=>rfl) (fun a b w=>(eqs_int (d:=9998) rfl O3 (eqs_str (d:=9998) rfl O9 eqs_nil Tryz.underlying9 rfl rfl) Tryz.underlying3 rfl rfl)) (fun a b=>by cases a;cases b;simp)
theorem K195:KeyTy Tryz.prog 195 kMapping_key:=keyAgg (vals:=fun (x:Mapping_key)=>[.int IntKind.i64 x.from_,.string ⟨x.tag.toArray⟩]) Tryz.underlying195 E195 (fun _=>rfl) (fun _=>rfl) (fun _=>rfl) (fun _=>by simp [Instr.sameBits,ba_beq]) (fun a b w=>check_str' Tryz.underlying195 (List.forall_mem_cons.2 ⟨⟨O3,⟨_,Tryz.underlying3,rfl⟩,lq rfl⟩,(List.forall_mem_cons.2 ⟨⟨O9,⟨_,Tryz.underlying9,rfl⟩,lq rfl⟩,(fun _ h=>by cases h)⟩)⟩) b w)
theorem MX:Tryz.prog.follows .mixedOrders=true:=by kernel_rfl
theorem ref11_Small_c {a0} {r} (h:ref11_Small a0=some r):Contract Tryz.prog 78 [(dsl eMapping a0)] [(db r)]:=by
 refine contract_of Tryz.func78 (by kernel_rfl) rfl (lq rfl) (lq rfl) fun w0 I0 hI0 hG0=>?_
 unfold ref11_Small at h
 refine avc_sq2<|avc_sq ?_
 refine sqa (a_assign_d (lq rfl) rfl) ?_
 refine sq_nil<|avc_sq2<|avc_sq2<|avc_sq ?_
 refine sqa (a_assign_d (lq rfl) rfl) ?_
 refine sq_nil<|avc_block ?_
 obtain ⟨y1,hy1,h⟩:=bE h
 refine avc_tail2 y1 (.exit 0) (fun y1=>⟨[(0,.d (dsl eMapping a0))],[]⟩) .ret (fun y1=>⟨[(2,.d (db y1))],[]⟩) ?_ ?_ ?_
 refine avc_loopM (fun x=>⟨[(0,.d (dsl eMapping a0)),(3,.d (di x))],[]⟩) hy1 (weak_cov ⟨rfl,rfl,trivial⟩ trivial) ?_
 rintro v3 sy1 hsy1
 replace hsy1:ref11_Small_L0 a0 v3=some sy1:=hsy1
 unfold ref11_Small_L0 at hsy1
 refine avc_sq2<|avc_sq2<|avc_sq ?_
 refine sqa (a_move_d (lq rfl) rfl) ?_
 refine sqa (a_move_d (lq rfl) rfl) ?_
 refine sqa (m_len (en:=eMapping) (l:=a0) (lq rfl) S23 rfl) ?_
 refine sqa (a_lss (lq rfl) rfl rfl) ?_
 obtain ⟨b8,hb8,hsy1⟩:=bE hsy1
 refine sqa ((a_move_d (lq rfl) rfl).bool (Option.some.inj hb8)) ?_
 refine sq_g (x:= .d (di v3)) rfl rfl rfl (lq rfl) (lq rfl) rfl (fun hb=>by obtain rfl:b8=true:=hb;exact a_move_d (lq rfl) rfl) ?_
 refine sq_g (x:= .d (db (decide (v3 < 30)))) rfl rfl rfl (lq rfl) (lq rfl) rfl (fun hb=>by obtain rfl:b8=true:=hb;exact a_lss (lq rfl) rfl rfl) ?_
 refine sqa (a_pick_and (lq rfl) rfl rfl) ?_
 refine sq_nil ?_
 refine ifM rfl hsy1 (fun _ hsy1=>?_) (fun _ hsy1=>?_)
 refine avc_skip<|avc_sq2<|avc_block<|avc_sq2<|avc_sq ?_
 refine sqa (a_move_d (lq rfl) rfl) ?_
 refine sqa (a_move_d (lq rfl) rfl) ?_
 obtain ⟨t16,ht16,hsy1⟩:=bE hsy1
 refine sqa (m_index (en:=eMapping) (lq rfl) S23 rfl rfl ht16) ?_
 refine sqa (a_fieldAddr_ip (lq rfl) L72_1 rfl) ?_
 refine sqa (m_loadE (en:=eMapping) (l:=a0) (i:=v3) (v:=t16) (off:=1) (lq rfl) O37 rfl ht16 rfl) ?_
 refine sqa (m_len (en:=eI) (l:=t16.To) (lq rfl) S37 rfl) ?_
 refine sqa (a_gtr (lq rfl) rfl rfl) ?_
 obtain ⟨b21,hb21,hsy1⟩:=bE hsy1
 refine sqa ((a_move_d (lq rfl) rfl).bool (Option.some.inj hb21)) ?_
 refine sq_g (x:= .d (dsl eMapping a0)) rfl rfl rfl (lq rfl) (lq rfl) rfl (fun hb=>by obtain rfl:=gF hb;exact a_move_d (lq rfl) rfl) ?_
 refine sq_g (x:= .d (di v3)) rfl rfl rfl (lq rfl) (lq rfl) rfl (fun hb=>by obtain rfl:=gF hb;exact a_move_d (lq rfl) rfl) ?_
 obtain ⟨t24,ht24,hsy1⟩:=bE hsy1
 refine sq_g (x:= .ip (eMapping.all a0) (v3.toNat*eMapping.size)) rfl rfl rfl (lq rfl) (lq rfl) rfl (fun hb=>by obtain rfl:=gF hb;exact m_index (en:=eMapping) (lq rfl) S23 rfl rfl ht24) ?_
 refine sq_g (x:= .ip (eMapping.all a0) (v3.toNat*eMapping.size+2)) rfl rfl rfl (lq rfl) (lq rfl) rfl (fun hb=>by obtain rfl:=gF hb;exact a_fieldAddr_ip (lq rfl) L72_2 rfl) ?_
 refine sq_g (x:= .d (ds t24.Tag)) rfl rfl rfl (lq rfl) (lq rfl) rfl (fun hb=>by obtain rfl:=gF hb;exact m_loadE (en:=eMapping) (l:=a0) (i:=v3) (v:=t24) (off:=2) (lq rfl) O9 rfl ht24 rfl) ?_
 refine sq_g (x:= .d (di (t24.Tag.length:Int))) rfl rfl rfl (lq rfl) (lq rfl) rfl (fun hb=>by obtain rfl:=gF hb;exact m_slen (s:=t24.Tag) (lq rfl) Tryz.underlying9 rfl) ?_
 refine sq_g (x:= .d (db (decide (40 < (t24.Tag.length:Int))))) rfl rfl rfl (lq rfl) (lq rfl) rfl (fun hb=>by obtain rfl:=gF hb;exact a_gtr (lq rfl) rfl rfl) ?_
 refine sqa (a_pick_or (lq rfl) rfl rfl) ?_
 refine sq_nil ?_
 refine ifM rfl hsy1 (fun _ hsy1=>?_) (fun _ hsy1=>?_)
 refine avc_sq2<|avc_sq ?_
 refine sqa (a_assign_d (lq rfl) rfl) ?_
 refine sq_nil ?_
 refine avc_ret ?_
 cases hsy1
 intro q;cases q
 exact ⟨rfl,weak_cov ⟨rfl,trivial⟩ trivial⟩
 refine avc_skip<|avc_sq ?_
 refine sqa (a_move_d (lq rfl) rfl) ?_
 refine sqa (m_add (lq rfl) rfl rfl) ?_
 refine sqa (a_assign_d (lq rfl) rfl) ?_
 refine sq_nil ?_
 cases hsy1
 exact weak_cov ⟨rfl,rfl,trivial⟩ trivial
 refine avc_exit ?_
 cases hsy1
 intro q;cases q
 exact ⟨rfl,weak_cov ⟨rfl,trivial⟩ trivial⟩
 rintro y1 rfl
 replace h:=eL h
 refine avc_sq2<|avc_sq ?_
 refine sqa (a_move_d (lq rfl) rfl) ?_
 refine sqa (m_len (en:=eMapping) (l:=a0) (lq rfl) S23 rfl) ?_
 refine sqa (a_leq (lq rfl) rfl rfl) ?_
 refine sqa (a_assign_d (lq rfl) rfl) ?_
 refine sq_nil ?_
 cases h
 refine avc_ret ?_
 exact ret_1 rfl
 rintro y1 rfl
 replace h:=eR h
 cases h
 exact ret_1 rfl
theorem ref38_Small_c {a0} {r} (h:ref38_Small a0=some r):Contract Tryz.prog 41 [(eCase.dv a0)] [(db r)]:=by
 refine contract_of Tryz.func41 (by kernel_rfl) rfl (lq rfl) (lq rfl) fun w0 I0 hI0 hG0=>?_
 unfold ref38_Small at h
 refine avc_sq2<|avc_sq ?_
 refine sqa (m_box (size:=6) (lq rfl) rfl rfl) ?_
 refine sqa (a_assign_d (lq rfl) rfl) ?_
 refine sq_nil<|avc_sq2<|avc_sq ?_
 refine sqa (m_fieldPt (lq rfl) L45_0 rfl) ?_
 refine sqa (a_load_ip (lq rfl) O23 rfl rfl) ?_
 obtain ⟨t5,ht5,h⟩:=bE h
 refine sqa (a_call (lq rfl) rfl (ref11_Small_c ht5)) ?_
 obtain ⟨b6,hb6,h⟩:=bE h
 refine sqa ((a_move_d (lq rfl) rfl).bool (Option.some.inj hb6)) ?_
 refine sq_g (x:= .ip (eCase.cells a0) (0+1)) rfl rfl rfl (lq rfl) (lq rfl) rfl (fun hb=>by obtain rfl:b6=true:=hb;exact m_fieldPt (lq rfl) L45_1 rfl) ?_
 refine sq_g (x:= .d (dsl eMapping a0.Upper)) rfl rfl rfl (lq rfl) (lq rfl) rfl (fun hb=>by obtain rfl:b6=true:=hb;exact a_load_ip (lq rfl) O23 rfl rfl) ?_
 obtain ⟨t9,ht9,h⟩:=bE h
 refine sq_g (x:= .d (db t9)) rfl rfl rfl (lq rfl) (lq rfl) rfl (fun hb=>by obtain rfl:b6=true:=hb;exact a_call (lq rfl) rfl (ref11_Small_c ht9)) ?_
 refine sqa (a_pick_and (lq rfl) rfl rfl) ?_
 obtain ⟨b11,hb11,h⟩:=bE h
 refine sqa ((a_move_d (lq rfl) rfl).bool (Option.some.inj hb11)) ?_
 refine sq_g (x:= .ip (eCase.cells a0) (0+2)) rfl rfl rfl (lq rfl) (lq rfl) rfl (fun hb=>by obtain rfl:b11=true:=hb;exact m_fieldPt (lq rfl) L45_2 rfl) ?_
 refine sq_g (x:= .d (dsl eMapping a0.Title)) rfl rfl rfl (lq rfl) (lq rfl) rfl (fun hb=>by obtain rfl:b11=true:=hb;exact a_load_ip (lq rfl) O23 rfl rfl) ?_
 obtain ⟨t14,ht14,h⟩:=bE h
 refine sq_g (x:= .d (db t14)) rfl rfl rfl (lq rfl) (lq rfl) rfl (fun hb=>by obtain rfl:b11=true:=hb;exact a_call (lq rfl) rfl (ref11_Small_c ht14)) ?_
 refine sqa (a_pick_and (lq rfl) rfl rfl) ?_
 obtain ⟨b16,hb16,h⟩:=bE h
 refine sqa ((a_move_d (lq rfl) rfl).bool (Option.some.inj hb16)) ?_
 refine sq_g (x:= .ip (eCase.cells a0) (0+3)) rfl rfl rfl (lq rfl) (lq rfl) rfl (fun hb=>by obtain rfl:b16=true:=hb;exact m_fieldPt (lq rfl) L45_3 rfl) ?_
 refine sq_g (x:= .d (dsl eMapping a0.Fold)) rfl rfl rfl (lq rfl) (lq rfl) rfl (fun hb=>by obtain rfl:b16=true:=hb;exact a_load_ip (lq rfl) O23 rfl rfl) ?_
 obtain ⟨t19,ht19,h⟩:=bE h
 refine sq_g (x:= .d (db t19)) rfl rfl rfl (lq rfl) (lq rfl) rfl (fun hb=>by obtain rfl:b16=true:=hb;exact a_call (lq rfl) rfl (ref11_Small_c ht19)) ?_
 refine sqa (a_pick_and (lq rfl) rfl rfl) ?_
 obtain ⟨b21,hb21,h⟩:=bE h
 refine sqa ((a_move_d (lq rfl) rfl).bool (Option.some.inj hb21)) ?_
 refine sq_g (x:= .ip (eCase.cells a0) (0+4)) rfl rfl rfl (lq rfl) (lq rfl) rfl (fun hb=>by obtain rfl:b21=true:=hb;exact m_fieldPt (lq rfl) L45_4 rfl) ?_
 refine sq_g (x:= .ip (eCase.cells a0) (0+4+0)) rfl rfl rfl (lq rfl) (lq rfl) rfl (fun hb=>by obtain rfl:b21=true:=hb;exact a_fieldAddr_ip (lq rfl) L26_0 rfl) ?_
 refine sq_g (x:= .d (dsl eRange a0.Cased.Ranges)) rfl rfl rfl (lq rfl) (lq rfl) rfl (fun hb=>by obtain rfl:b21=true:=hb;exact a_load_ip (lq rfl) O24 rfl rfl) ?_
 refine sq_g (x:= .d (di (a0.Cased.Ranges.length:Int))) rfl rfl rfl (lq rfl) (lq rfl) rfl (fun hb=>by obtain rfl:b21=true:=hb;exact m_len (en:=eRange) (l:=a0.Cased.Ranges) (lq rfl) S24 rfl) ?_
 refine sq_g (x:= .d (db (decide ((a0.Cased.Ranges.length:Int)≤12)))) rfl rfl rfl (lq rfl) (lq rfl) rfl (fun hb=>by obtain rfl:b21=true:=hb;exact a_leq (lq rfl) rfl rfl) ?_
 refine sqa (a_pick_and (lq rfl) rfl rfl) ?_
 obtain ⟨b28,hb28,h⟩:=bE h
 refine sqa ((a_move_d (lq rfl) rfl).bool (Option.some.inj hb28)) ?_
 refine sq_g (x:= .ip (eCase.cells a0) (0+5)) rfl rfl rfl (lq rfl) (lq rfl) rfl (fun hb=>by obtain rfl:b28=true:=hb;exact m_fieldPt (lq rfl) L45_5 rfl) ?_
 refine sq_g (x:= .ip (eCase.cells a0) (0+5+0)) rfl rfl rfl (lq rfl) (lq rfl) rfl (fun hb=>by obtain rfl:b28=true:=hb;exact a_fieldAddr_ip (lq rfl) L26_0 rfl) ?_
 refine sq_g (x:= .d (dsl eRange a0.Ignorable.Ranges)) rfl rfl rfl (lq rfl) (lq rfl) rfl (fun hb=>by obtain rfl:b28=true:=hb;exact a_load_ip (lq rfl) O24 rfl rfl) ?_
 refine sq_g (x:= .d (di (a0.Ignorable.Ranges.length:Int))) rfl rfl rfl (lq rfl) (lq rfl) rfl (fun hb=>by obtain rfl:b28=true:=hb;exact m_len (en:=eRange) (l:=a0.Ignorable.Ranges) (lq rfl) S24 rfl) ?_
 refine sq_g (x:= .d (db (decide ((a0.Ignorable.Ranges.length:Int)≤12)))) rfl rfl rfl (lq rfl) (lq rfl) rfl (fun hb=>by obtain rfl:b28=true:=hb;exact a_leq (lq rfl) rfl rfl) ?_
 refine sqa (a_pick_and (lq rfl) rfl rfl) ?_
 refine sqa (a_assign_d (lq rfl) rfl) ?_
 refine sq_nil ?_
 cases h
 refine avc_ret ?_
 exact ret_1 rfl
theorem law38_few_c {a0} {a1} {a2} {r} (h:law38_few a0 a1 a2=some r):Contract Tryz.prog 15 [(eCase.dv a0),(dsl eI a1),(dsl eI a2)] [(db r)]:=by
 refine contract_of Tryz.func15 (by kernel_rfl) rfl (lq rfl) (lq rfl) fun w0 I0 hI0 hG0=>?_
 unfold law38_few at h
 refine avc_sq2<|avc_sq ?_
 refine sqa (m_box (size:=6) (lq rfl) rfl rfl) ?_
 refine sqa (a_assign_d (lq rfl) rfl) ?_
 refine sq_nil<|avc_sq2<|avc_sq ?_
 refine sqa (m_loadPt (lq rfl) G45 rfl rfl) ?_
 obtain ⟨t8,ht8,h⟩:=bE h
 refine sqa (a_call (lq rfl) rfl (ref38_Small_c ht8)) ?_
 obtain ⟨b9,hb9,h⟩:=bE h
 refine sqa ((a_move_d (lq rfl) rfl).bool (Option.some.inj hb9)) ?_
 refine sq_g (x:= .d (dsl eI a1)) rfl rfl rfl (lq rfl) (lq rfl) rfl (fun hb=>by obtain rfl:b9=true:=hb;exact a_move_d (lq rfl) rfl) ?_
 refine sq_g (x:= .d (di (a1.length:Int))) rfl rfl rfl (lq rfl) (lq rfl) rfl (fun hb=>by obtain rfl:b9=true:=hb;exact m_len (en:=eI) (l:=a1) (lq rfl) S37 rfl) ?_
 refine sq_g (x:= .d (db (decide ((a1.length:Int)≤30)))) rfl rfl rfl (lq rfl) (lq rfl) rfl (fun hb=>by obtain rfl:b9=true:=hb;exact a_leq (lq rfl) rfl rfl) ?_
 refine sqa (a_pick_and (lq rfl) rfl rfl) ?_
 obtain ⟨b14,hb14,h⟩:=bE h
 refine sqa ((a_move_d (lq rfl) rfl).bool (Option.some.inj hb14)) ?_
 refine sq_g (x:= .d (dsl eI a2)) rfl rfl rfl (lq rfl) (lq rfl) rfl (fun hb=>by obtain rfl:b14=true:=hb;exact a_move_d (lq rfl) rfl) ?_
 refine sq_g (x:= .d (di (a2.length:Int))) rfl rfl rfl (lq rfl) (lq rfl) rfl (fun hb=>by obtain rfl:b14=true:=hb;exact m_len (en:=eI) (l:=a2) (lq rfl) S37 rfl) ?_
 refine sq_g (x:= .d (db (decide ((a2.length:Int)≤30)))) rfl rfl rfl (lq rfl) (lq rfl) rfl (fun hb=>by obtain rfl:b14=true:=hb;exact a_leq (lq rfl) rfl rfl) ?_
 refine sqa (a_pick_and (lq rfl) rfl rfl) ?_
 refine sqa (a_assign_d (lq rfl) rfl) ?_
 refine sq_nil ?_
 cases h
 refine avc_ret ?_
 exact ret_1 rfl
theorem codepoint_Valid_c {a0} {r} (h:codepoint_Valid a0=some r):Contract Tryz.prog 90 [(di a0)] [(db r)]:=by
 refine contract_of Tryz.func90 (by kernel_rfl) rfl (lq rfl) (lq rfl) fun w0 I0 hI0 hG0=>?_
 unfold codepoint_Valid at h
 refine avc_sq2<|avc_sq ?_
 refine sqa (a_assign_d (lq rfl) rfl) ?_
 refine sq_nil<|avc_sq2<|avc_sq ?_
 refine sqa (a_move_d (lq rfl) rfl) ?_
 refine sqa (a_geq (lq rfl) rfl rfl) ?_
 obtain ⟨b5,hb5,h⟩:=bE h
 refine sqa ((a_move_d (lq rfl) rfl).bool (Option.some.inj hb5)) ?_
 refine sq_g (x:= .d (di a0)) rfl rfl rfl (lq rfl) (lq rfl) rfl (fun hb=>by obtain rfl:b5=true:=hb;exact a_move_d (lq rfl) rfl) ?_
 refine sq_g (x:= .d (db (decide (a0≤1114111)))) rfl rfl rfl (lq rfl) (lq rfl) rfl (fun hb=>by obtain rfl:b5=true:=hb;exact a_leq (lq rfl) rfl rfl) ?_
 refine sqa (a_pick_and (lq rfl) rfl rfl) ?_
 refine sqa (a_assign_d (lq rfl) rfl) ?_
 refine sq_nil ?_
 cases h
 refine avc_ret ?_
 exact ret_1 rfl
theorem mapping_isName_c {a0} {r} (h:mapping_isName a0=some r):Contract Tryz.prog 181 [(ds a0)] [(db r)]:=by
 refine contract_of Tryz.func181 (by kernel_rfl) rfl (lq rfl) (lq rfl) fun w0 I0 hI0 hG0=>?_
 unfold mapping_isName at h
 refine avc_sq2<|avc_sq ?_
 refine sqa (a_assign_d (lq rfl) rfl) ?_
 refine sq_nil<|avc_sq2<|avc_sq2<|avc_sq ?_
 refine sqa (a_move_d (lq rfl) rfl) ?_
 refine sqa (m_seql (a:=a0) (b:=[]) (lq rfl) rfl rfl) ?_
 obtain ⟨b8,hb8,h⟩:=bE h
 refine sqa ((a_move_d (lq rfl) rfl).bool (Option.some.inj hb8)) ?_
 refine sq_g (x:= .d (ds a0)) rfl rfl rfl (lq rfl) (lq rfl) rfl (fun hb=>by obtain rfl:=gF hb;exact a_move_d (lq rfl) rfl) ?_
 refine sq_g (x:= .d (di (a0.length:Int))) rfl rfl rfl (lq rfl) (lq rfl) rfl (fun hb=>by obtain rfl:=gF hb;exact m_slen (s:=a0) (lq rfl) Tryz.underlying9 rfl) ?_
 refine sq_g (x:= .d (db (decide (32 < (a0.length:Int))))) rfl rfl rfl (lq rfl) (lq rfl) rfl (fun hb=>by obtain rfl:=gF hb;exact a_gtr (lq rfl) rfl rfl) ?_
 refine sqa (a_pick_or (lq rfl) rfl rfl) ?_
 refine sq_nil ?_
 refine ifM rfl h (fun _ h=>?_) (fun _ h=>?_)
 refine avc_sq2<|avc_sq ?_
 refine sqa (a_assign_d (lq rfl) rfl) ?_
 refine sq_nil ?_
 cases h
 refine avc_ret ?_
 exact ret_1 rfl
 refine avc_skip<|avc_sq2<|avc_sq2<|avc_sq ?_
 refine sqa (a_move_d (lq rfl) rfl) ?_
 refine sqa (m_slen (s:=a0) (lq rfl) Tryz.underlying9 rfl) ?_
 refine sqa (a_move_d (lq rfl) rfl) ?_
 refine sq_nil<|avc_block ?_
 obtain ⟨y1,hy1,h⟩:=bE h
 refine avc_tail2 y1 (.exit 0) (fun y1=>⟨[],[]⟩) .ret (fun y1=>⟨[(2,.d (db y1))],[]⟩) ?_ ?_ ?_
 refine avc_loopM (fun x=>⟨[(0,.d (ds a0)),(14,.d (di (a0.length:Int))),(15,.d (di x))],[]⟩) hy1 (weak_cov ⟨rfl,rfl,rfl,trivial⟩ trivial) ?_
 rintro v15 sy1 hsy1
 replace hsy1:mapping_isName_L0 a0 v15=some sy1:=hsy1
 unfold mapping_isName_L0 at hsy1
 refine avc_sq2<|avc_sq ?_
 refine sqa (a_lss (lq rfl) rfl rfl) ?_
 refine sq_nil<|avc_sq2 ?_
 refine ifM rfl hsy1 (fun _ hsy1=>?_) (fun _ hsy1=>?_)
 refine avc_skip<|avc_sq2<|avc_block<|avc_sq2<|avc_sq ?_
 refine sqa (a_move_d (lq rfl) rfl) ?_
 refine sqa (a_assign_d (lq rfl) rfl) ?_
 refine sq_nil<|avc_sq2<|avc_sq ?_
 refine sqa (a_move_d (lq rfl) rfl) ?_
 refine sqa (a_move_d (lq rfl) rfl) ?_
 obtain ⟨t20,ht20,hsy1⟩:=bE hsy1
 refine sqa (m_sindex (s:=a0) (lq rfl) Tryz.underlying9 rfl rfl ht20) ?_
 refine sqa (a_assign_d (lq rfl) rfl) ?_
 refine sq_nil<|avc_sq2<|avc_sq ?_
 refine sqa (a_move_d (lq rfl) rfl) ?_
 refine sqa (a_geq (lq rfl) rfl rfl) ?_
 obtain ⟨b23,hb23,hsy1⟩:=bE hsy1
 refine sqa ((a_move_d (lq rfl) rfl).bool (Option.some.inj hb23)) ?_
 refine sq_g (x:= .d (dby t20)) rfl rfl rfl (lq rfl) (lq rfl) rfl (fun hb=>by obtain rfl:b23=true:=hb;exact a_move_d (lq rfl) rfl) ?_
 refine sq_g (x:= .d (db (decide (t20≤90)))) rfl rfl rfl (lq rfl) (lq rfl) rfl (fun hb=>by obtain rfl:b23=true:=hb;exact a_leq (lq rfl) rfl rfl) ?_
 refine sqa (a_pick_and (lq rfl) rfl rfl) ?_
 obtain ⟨b27,hb27,hsy1⟩:=bE hsy1
 refine sqa ((a_move_d (lq rfl) rfl).bool (Option.some.inj hb27)) ?_
 refine sq_g (x:= .d (dby t20)) rfl rfl rfl (lq rfl) (lq rfl) rfl (fun hb=>by obtain rfl:=gF hb;exact a_move_d (lq rfl) rfl) ?_
 refine sq_g (x:= .d (db (decide (97≤t20)))) rfl rfl rfl (lq rfl) (lq rfl) rfl (fun hb=>by obtain rfl:=gF hb;exact a_geq (lq rfl) rfl rfl) ?_
 obtain ⟨b30,hb30,hsy1⟩:=bE hsy1
 refine sq_g (x:= .d (db b30)) rfl rfl rfl (lq rfl) (lq rfl) rfl (fun hb=>by obtain rfl:=gF hb;exact (a_move_d (lq rfl) rfl).bool (Option.some.inj hb30)) ?_
 refine sq_g2 (x:= .d (dby t20)) rfl rfl rfl (lq rfl) (lq rfl) rfl (fun hb=>by obtain ⟨hb,hb1⟩:=and_split hb;obtain rfl:=gF hb;obtain rfl:b30=true:=hb1;exact a_move_d (lq rfl) rfl) ?_
 refine sq_g2 (x:= .d (db (decide (t20≤122)))) rfl rfl rfl (lq rfl) (lq rfl) rfl (fun hb=>by obtain ⟨hb,hb1⟩:=and_split hb;obtain rfl:=gF hb;obtain rfl:b30=true:=hb1;exact a_leq (lq rfl) rfl rfl) ?_
 refine sq_g (x:= .d (db (b30&&(decide (t20≤122))))) rfl rfl rfl (lq rfl) (lq rfl) rfl (fun hb=>by obtain rfl:=gF hb;exact a_pick_and (lq rfl) rfl rfl) ?_
 refine sqa (a_pick_or (lq rfl) rfl rfl) ?_
 refine sqa (a_assign_d (lq rfl) rfl) ?_
 refine sq_nil<|avc_sq2<|avc_sq ?_
 refine sqa (a_move_d (lq rfl) rfl) ?_
 refine sqa (a_not (lq rfl) rfl) ?_
 obtain ⟨b37,hb37,hsy1⟩:=bE hsy1
 refine sqa ((a_move_d (lq rfl) rfl).bool (Option.some.inj hb37)) ?_
 refine sq_g (x:= .d (dby t20)) rfl rfl rfl (lq rfl) (lq rfl) rfl (fun hb=>by obtain rfl:b37=true:=hb;exact a_move_d (lq rfl) rfl) ?_
 refine sq_g (x:= .d (db (decide (48≤t20)))) rfl rfl rfl (lq rfl) (lq rfl) rfl (fun hb=>by obtain rfl:b37=true:=hb;exact a_geq (lq rfl) rfl rfl) ?_
 obtain ⟨b40,hb40,hsy1⟩:=bE hsy1
 refine sq_g (x:= .d (db b40)) rfl rfl rfl (lq rfl) (lq rfl) rfl (fun hb=>by obtain rfl:b37=true:=hb;exact (a_move_d (lq rfl) rfl).bool (Option.some.inj hb40)) ?_
 refine sq_g2 (x:= .d (dby t20)) rfl rfl rfl (lq rfl) (lq rfl) rfl (fun hb=>by obtain ⟨hb,hb1⟩:=and_split hb;obtain rfl:b37=true:=hb;obtain rfl:b40=true:=hb1;exact a_move_d (lq rfl) rfl) ?_
 refine sq_g2 (x:= .d (db (decide (t20≤57)))) rfl rfl rfl (lq rfl) (lq rfl) rfl (fun hb=>by obtain ⟨hb,hb1⟩:=and_split hb;obtain rfl:b37=true:=hb;obtain rfl:b40=true:=hb1;exact a_leq (lq rfl) rfl rfl) ?_
 refine sq_g (x:= .d (db (b40&&(decide (t20≤57))))) rfl rfl rfl (lq rfl) (lq rfl) rfl (fun hb=>by obtain rfl:b37=true:=hb;exact a_pick_and (lq rfl) rfl rfl) ?_
 refine sq_g (x:= .d (db (!(b40&&(decide (t20≤57)))))) rfl rfl rfl (lq rfl) (lq rfl) rfl (fun hb=>by obtain rfl:b37=true:=hb;exact a_not (lq rfl) rfl) ?_
 refine sqa (a_pick_and (lq rfl) rfl rfl) ?_
 obtain ⟨b46,hb46,hsy1⟩:=bE hsy1
 refine sqa ((a_move_d (lq rfl) rfl).bool (Option.some.inj hb46)) ?_
 refine sq_g (x:= .d (dby t20)) rfl rfl rfl (lq rfl) (lq rfl) rfl (fun hb=>by obtain rfl:b46=true:=hb;exact a_move_d (lq rfl) rfl) ?_
 refine sq_g (x:= .d (db (!decide (t20=95)))) rfl rfl rfl (lq rfl) (lq rfl) rfl (fun hb=>by obtain rfl:b46=true:=hb;exact a_neq (lq rfl) rfl rfl) ?_
 refine sqa (a_pick_and (lq rfl) rfl rfl) ?_
 refine sq_nil ?_
 refine ifM rfl hsy1 (fun _ hsy1=>?_) (fun _ hsy1=>?_)
 refine avc_sq2<|avc_sq ?_
 refine sqa (a_assign_d (lq rfl) rfl) ?_
 refine sq_nil ?_
 refine avc_ret ?_
 cases hsy1
 intro q;cases q
 exact ⟨rfl,weak_cov ⟨rfl,trivial⟩ trivial⟩
 refine avc_skip<|avc_sq ?_
 refine sqa (m_add (lq rfl) rfl rfl) ?_
 refine sqa (a_move_d (lq rfl) rfl) ?_
 refine sq_nil ?_
 cases hsy1
 exact weak_cov ⟨rfl,rfl,rfl,trivial⟩ trivial
 refine avc_exit ?_
 cases hsy1
 intro q;cases q
 exact ⟨rfl,weak_cov trivial trivial⟩
 rintro y1 rfl
 replace h:=eL h
 refine avc_sq2<|avc_sq ?_
 refine sqa (a_assign_d (lq rfl) rfl) ?_
 refine sq_nil ?_
 cases h
 refine avc_ret ?_
 exact ret_1 rfl
 rintro y1 rfl
 replace h:=eR h
 cases h
 exact ret_1 rfl
theorem mapping_parts_c {a0} {r} (h:mapping_parts a0=some r):Contract Tryz.prog 157 [(dsl eMapping a0)] [(di r)]:=by
 refine contract_of Tryz.func157 (by kernel_rfl) rfl (lq rfl) (lq rfl) fun w0 I0 hI0 hG0=>?_
 unfold mapping_parts at h
 refine avc_sq2<|avc_sq ?_
 refine sqa (a_assign_d (lq rfl) rfl) ?_
 refine sq_nil<|avc_sq2<|avc_sq2<|avc_sq ?_
 refine sqa (a_move_d (lq rfl) rfl) ?_
 refine sqa (m_len (en:=eMapping) (l:=a0) (lq rfl) S23 rfl) ?_
 refine sqa (a_move_d (lq rfl) rfl) ?_
 refine sq_nil<|avc_block ?_
 obtain ⟨y1,hy1,h⟩:=bE h
 refine avc_tail2 y1 (.exit 0) (fun y1=>⟨[(0,.d (dsl eMapping a0))],[]⟩) .ret (fun y1=>⟨[(2,.d (di y1))],[]⟩) ?_ ?_ ?_
 refine avc_loopM (fun x=>⟨[(0,.d (dsl eMapping a0)),(11,.d (dsl eMapping a0)),(12,.d (di (a0.length:Int))),(13,.d (di x))],[]⟩) hy1 (weak_cov ⟨rfl,rfl,rfl,rfl,trivial⟩ trivial) ?_
 rintro v13 sy1 hsy1
 replace hsy1:mapping_parts_L0 a0 v13=some sy1:=hsy1
 unfold mapping_parts_L0 at hsy1
 refine avc_sq2<|avc_sq ?_
 refine sqa (a_lss (lq rfl) rfl rfl) ?_
 refine sq_nil<|avc_sq2 ?_
 refine ifM rfl hsy1 (fun _ hsy1=>?_) (fun _ hsy1=>?_)
 refine avc_skip<|avc_sq2<|avc_block<|avc_sq2<|avc_sq ?_
 obtain ⟨t15,ht15,hsy1⟩:=bE hsy1
 refine sqa (m_index (en:=eMapping) (lq rfl) S23 rfl rfl ht15) ?_
 refine sqa (m_loadEA (en:=eMapping) (l:=a0) (i:=v13) (v:=t15) (off:=0) (lq rfl) G72 rfl ht15 rfl rfl (by decide)) ?_
 refine sq_b rfl (step_alloc (zs:=[(.int IntKind.i64 (0)),(.slice none 0 0),(.string ⟨#[]⟩)]) (lq rfl) (by kernel_rfl) rfl rfl) ?_
 refine sq_b rfl (s_store_boxA G72 rfl rfl rfl rfl rfl rfl) ?_
 refine sq_nil ?_
 refine avc_weak (weak_freeze (t:=4) (lq rfl) rfl rfl rfl) ?_
 refine avc_sq2<|avc_sq2<|avc_sq ?_
 refine sqa (m_fieldPt (lq rfl) L72_0 rfl) ?_
 refine sqa (a_load_ip (lq rfl) O3 rfl rfl) ?_
 obtain ⟨t19,ht19,hsy1⟩:=bE hsy1
 refine sqa (a_call (lq rfl) rfl (codepoint_Valid_c ht19)) ?_
 refine sqa (a_not (lq rfl) rfl) ?_
 refine sq_nil ?_
 refine ifM rfl hsy1 (fun _ hsy1=>?_) (fun _ hsy1=>?_)
 refine avc_sq2<|avc_sq ?_
 refine sqa (a_assign_d (lq rfl) rfl) ?_
 refine sq_nil ?_
 refine avc_ret ?_
 cases hsy1
 intro q;cases q
 exact ⟨rfl,weak_cov ⟨rfl,trivial⟩ trivial⟩
 refine avc_skip<|avc_sq2<|avc_sq ?_
 refine sqa (m_fieldPt (lq rfl) L72_1 rfl) ?_
 refine sqa (a_load_ip (lq rfl) O37 rfl rfl) ?_
 refine sqa (m_len (en:=eI) (l:=t15.To) (lq rfl) S37 rfl) ?_
 refine sqa (a_move_d (lq rfl) rfl) ?_
 refine sq_nil<|avc_block ?_
 obtain ⟨y2,hy2,hsy1⟩:=bE hsy1
 refine avc_tail2 y2 (.exit 2) (fun y2=>⟨[(0,.d (dsl eMapping a0)),(11,.d (dsl eMapping a0)),(12,.d (di (a0.length:Int))),(13,.d (di v13))],[]⟩) .ret (fun y2=>⟨[(2,.d (di y2))],[]⟩) ?_ ?_ ?_
 refine avc_loopM (fun x=>⟨[(0,.d (dsl eMapping a0)),(11,.d (dsl eMapping a0)),(12,.d (di (a0.length:Int))),(13,.d (di v13)),(22,.d (dsl eI t15.To)),(23,.d (di (t15.To.length:Int))),(24,.d (di x))],[]⟩) hy2 (weak_cov ⟨rfl,rfl,rfl,rfl,rfl,rfl,rfl,trivial⟩ trivial) ?_
 rintro v24 sy2 hsy2
 replace hsy2:mapping_parts_L1 t15 v24=some sy2:=hsy2
 unfold mapping_parts_L1 at hsy2
 refine avc_sq2<|avc_sq ?_
 refine sqa (a_lss (lq rfl) rfl rfl) ?_
 refine sq_nil<|avc_sq2 ?_
 refine ifM rfl hsy2 (fun _ hsy2=>?_) (fun _ hsy2=>?_)
 refine avc_skip<|avc_sq2<|avc_block<|avc_sq2<|avc_sq ?_
 obtain ⟨t26,ht26,hsy2⟩:=bE hsy2
 refine sqa (m_index (en:=eI) (lq rfl) S37 rfl rfl ht26) ?_
 refine sqa (m_loadE (en:=eI) (l:=t15.To) (i:=v24) (v:=t26) (off:=0) (lq rfl) O3 rfl ht26 rfl) ?_
 refine sqa (a_assign_d (lq rfl) rfl) ?_
 refine sq_nil<|avc_sq2<|avc_sq ?_
 refine sqa (a_move_d (lq rfl) rfl) ?_
 obtain ⟨t29,ht29,hsy2⟩:=bE hsy2
 refine sqa (a_call (lq rfl) rfl (codepoint_Valid_c ht29)) ?_
 refine sqa (a_not (lq rfl) rfl) ?_
 refine sq_nil ?_
 refine ifM rfl hsy2 (fun _ hsy2=>?_) (fun _ hsy2=>?_)
 refine avc_sq2<|avc_sq ?_
 refine sqa (a_assign_d (lq rfl) rfl) ?_
 refine sq_nil ?_
 refine avc_ret ?_
 cases hsy2
 intro q;cases q
 exact ⟨rfl,weak_cov ⟨rfl,trivial⟩ trivial⟩
 refine avc_skip<|avc_sq ?_
 refine sqa (m_add (lq rfl) rfl rfl) ?_
 refine sqa (a_move_d (lq rfl) rfl) ?_
 refine sq_nil ?_
 cases hsy2
 exact weak_cov ⟨rfl,rfl,rfl,rfl,rfl,rfl,rfl,trivial⟩ trivial
 refine avc_exit ?_
 cases hsy2
 intro q;cases q
 exact ⟨rfl,weak_cov ⟨rfl,rfl,rfl,rfl,trivial⟩ trivial⟩
 rintro y2 rfl
 replace hsy1:=eL hsy1
 refine avc_sq ?_
 refine sqa (m_add (lq rfl) rfl rfl) ?_
 refine sqa (a_move_d (lq rfl) rfl) ?_
 refine sq_nil ?_
 cases hsy1
 exact weak_cov ⟨rfl,rfl,rfl,rfl,trivial⟩ trivial
 rintro y2 rfl
 replace hsy1:=eR hsy1
 cases hsy1
 intro q;cases q
 exact ⟨rfl,weak_cov ⟨rfl,trivial⟩ trivial⟩
 refine avc_exit ?_
 cases hsy1
 intro q;cases q
 exact ⟨rfl,weak_cov ⟨rfl,trivial⟩ trivial⟩
 rintro y1 rfl
 replace h:=eL h
 refine avc_sq2<|avc_sq2<|avc_sq ?_
 refine sqa (a_move_d (lq rfl) rfl) ?_
 refine sqa (m_len (en:=eMapping) (l:=a0) (lq rfl) S23 rfl) ?_
 refine sqa (a_move_d (lq rfl) rfl) ?_
 refine sq_nil<|avc_block ?_
 obtain ⟨y3,hy3,h⟩:=bE h
 refine avc_tail2 y3 (.exit 4) (fun y3=>⟨[(0,.d (dsl eMapping a0))],[]⟩) .ret (fun y3=>⟨[(2,.d (di y3))],[]⟩) ?_ ?_ ?_
 refine avc_loopM (fun x=>⟨[(0,.d (dsl eMapping a0)),(33,.d (dsl eMapping a0)),(34,.d (di (a0.length:Int))),(35,.d (di x))],[]⟩) hy3 (weak_cov ⟨rfl,rfl,rfl,rfl,trivial⟩ trivial) ?_
 rintro v35 sy3 hsy3
 replace hsy3:mapping_parts_L2 a0 v35=some sy3:=hsy3
 unfold mapping_parts_L2 at hsy3
 refine avc_sq2<|avc_sq ?_
 refine sqa (a_lss (lq rfl) rfl rfl) ?_
 refine sq_nil<|avc_sq2 ?_
 refine ifM rfl hsy3 (fun _ hsy3=>?_) (fun _ hsy3=>?_)
 refine avc_skip<|avc_sq2<|avc_block<|avc_sq2<|avc_sq ?_
 obtain ⟨t37,ht37,hsy3⟩:=bE hsy3
 refine sqa (m_index (en:=eMapping) (lq rfl) S23 rfl rfl ht37) ?_
 refine sqa (m_loadEA (en:=eMapping) (l:=a0) (i:=v35) (v:=t37) (off:=0) (lq rfl) G72 rfl ht37 rfl rfl (by decide)) ?_
 refine sq_b rfl (step_alloc (zs:=[(.int IntKind.i64 (0)),(.slice none 0 0),(.string ⟨#[]⟩)]) (lq rfl) (by kernel_rfl) rfl rfl) ?_
 refine sq_b rfl (s_store_boxA G72 rfl rfl rfl rfl rfl rfl) ?_
 refine sq_nil ?_
 refine avc_weak (weak_freeze (t:=8) (lq rfl) rfl rfl rfl) ?_
 refine avc_sq2<|avc_sq ?_
 refine sqa (m_fieldPt (lq rfl) L72_1 rfl) ?_
 refine sqa (a_load_ip (lq rfl) O37 rfl rfl) ?_
 refine sqa (m_len (en:=eI) (l:=t37.To) (lq rfl) S37 rfl) ?_
 refine sqa (a_gtr (lq rfl) rfl rfl) ?_
 refine sq_nil ?_
 refine ifM rfl hsy3 (fun _ hsy3=>?_) (fun _ hsy3=>?_)
 refine avc_sq2<|avc_sq ?_
 refine sqa (a_assign_d (lq rfl) rfl) ?_
 refine sq_nil ?_
 refine avc_ret ?_
 cases hsy3
 intro q;cases q
 exact ⟨rfl,weak_cov ⟨rfl,trivial⟩ trivial⟩
 refine avc_skip<|avc_sq ?_
 refine sqa (m_add (lq rfl) rfl rfl) ?_
 refine sqa (a_move_d (lq rfl) rfl) ?_
 refine sq_nil ?_
 cases hsy3
 exact weak_cov ⟨rfl,rfl,rfl,rfl,trivial⟩ trivial
 refine avc_exit ?_
 cases hsy3
 intro q;cases q
 exact ⟨rfl,weak_cov ⟨rfl,trivial⟩ trivial⟩
 rintro y3 rfl
 replace h:=eL h
 refine avc_sq2<|avc_sq2<|avc_sq ?_
 refine sqa (a_move_d (lq rfl) rfl) ?_
 refine sqa (m_len (en:=eMapping) (l:=a0) (lq rfl) S23 rfl) ?_
 refine sqa (a_move_d (lq rfl) rfl) ?_
 refine sq_nil<|avc_block ?_
 obtain ⟨y4,hy4,h⟩:=bE h
 refine avc_tail2 y4 (.exit 6) (fun y4=>⟨[],[]⟩) .ret (fun y4=>⟨[(2,.d (di y4))],[]⟩) ?_ ?_ ?_
 refine avc_loopM (fun x=>⟨[(44,.d (dsl eMapping a0)),(45,.d (di (a0.length:Int))),(46,.d (di x))],[]⟩) hy4 (weak_cov ⟨rfl,rfl,rfl,trivial⟩ trivial) ?_
 rintro v46 sy4 hsy4
 replace hsy4:mapping_parts_L3 a0 v46=some sy4:=hsy4
 unfold mapping_parts_L3 at hsy4
 refine avc_sq2<|avc_sq ?_
 refine sqa (a_lss (lq rfl) rfl rfl) ?_
 refine sq_nil<|avc_sq2 ?_
 refine ifM rfl hsy4 (fun _ hsy4=>?_) (fun _ hsy4=>?_)
 refine avc_skip<|avc_sq2<|avc_block<|avc_sq2<|avc_sq ?_
 obtain ⟨t48,ht48,hsy4⟩:=bE hsy4
 refine sqa (m_index (en:=eMapping) (lq rfl) S23 rfl rfl ht48) ?_
 refine sqa (m_loadEA (en:=eMapping) (l:=a0) (i:=v46) (v:=t48) (off:=0) (lq rfl) G72 rfl ht48 rfl rfl (by decide)) ?_
 refine sq_b rfl (step_alloc (zs:=[(.int IntKind.i64 (0)),(.slice none 0 0),(.string ⟨#[]⟩)]) (lq rfl) (by kernel_rfl) rfl rfl) ?_
 refine sq_b rfl (s_store_boxA G72 rfl rfl rfl rfl rfl rfl) ?_
 refine sq_nil ?_
 refine avc_weak (weak_freeze (t:=10) (lq rfl) rfl rfl rfl) ?_
 refine avc_sq2<|avc_sq ?_
 refine sqa (m_fieldPt (lq rfl) L72_2 rfl) ?_
 refine sqa (a_load_ip (lq rfl) O9 rfl rfl) ?_
 refine sqa (m_sneq (a:=t48.Tag) (b:=[]) (lq rfl) rfl rfl) ?_
 obtain ⟨b53,hb53,hsy4⟩:=bE hsy4
 refine sqa ((a_move_d (lq rfl) rfl).bool (Option.some.inj hb53)) ?_
 refine sq_g (x:= .ip (eMapping.cells t48) (0+2)) rfl rfl rfl (lq rfl) (lq rfl) rfl (fun hb=>by obtain rfl:b53=true:=hb;exact m_fieldPt (lq rfl) L72_2 rfl) ?_
 refine sq_g (x:= .d (ds t48.Tag)) rfl rfl rfl (lq rfl) (lq rfl) rfl (fun hb=>by obtain rfl:b53=true:=hb;exact a_load_ip (lq rfl) O9 rfl rfl) ?_
 obtain ⟨t56,ht56,hsy4⟩:=bE hsy4
 refine sq_g (x:= .d (db t56)) rfl rfl rfl (lq rfl) (lq rfl) rfl (fun hb=>by obtain rfl:b53=true:=hb;exact a_call (lq rfl) rfl (mapping_isName_c ht56)) ?_
 refine sq_g (x:= .d (db (!t56))) rfl rfl rfl (lq rfl) (lq rfl) rfl (fun hb=>by obtain rfl:b53=true:=hb;exact a_not (lq rfl) rfl) ?_
 refine sqa (a_pick_and (lq rfl) rfl rfl) ?_
 refine sq_nil ?_
 refine ifM rfl hsy4 (fun _ hsy4=>?_) (fun _ hsy4=>?_)
 refine avc_sq2<|avc_sq ?_
 refine sqa (a_assign_d (lq rfl) rfl) ?_
 refine sq_nil ?_
 refine avc_ret ?_
 cases hsy4
 intro q;cases q
 exact ⟨rfl,weak_cov ⟨rfl,trivial⟩ trivial⟩
 refine avc_skip<|avc_sq ?_
 refine sqa (m_add (lq rfl) rfl rfl) ?_
 refine sqa (a_move_d (lq rfl) rfl) ?_
 refine sq_nil ?_
 cases hsy4
 exact weak_cov ⟨rfl,rfl,rfl,trivial⟩ trivial
 refine avc_exit ?_
 cases hsy4
 intro q;cases q
 exact ⟨rfl,weak_cov trivial trivial⟩
 rintro y4 rfl
 replace h:=eL h
 refine avc_sq2<|avc_sq ?_
 refine sqa (a_assign_d (lq rfl) rfl) ?_
 refine sq_nil ?_
 cases h
 refine avc_ret ?_
 exact ret_1 rfl
 rintro y4 rfl
 replace h:=eR h
 cases h
 exact ret_1 rfl
 rintro y3 rfl
 replace h:=eR h
 cases h
 exact ret_1 rfl
 rintro y1 rfl
 replace h:=eR h
 cases h
 exact ret_1 rfl
theorem cmp_isNaN_int_c {a0} {r} (h:cmp_isNaN_int a0=some r):Contract Tryz.prog 134 [(di a0)] [(db r)]:=by
 refine contract_of Tryz.func134 (by kernel_rfl) rfl (lq rfl) (lq rfl) fun w0 I0 hI0 hG0=>?_
 unfold cmp_isNaN_int at h
 refine avc_sq2<|avc_sq ?_
 refine sqa (a_assign_d (lq rfl) rfl) ?_
 refine sq_nil<|avc_sq2<|avc_sq ?_
 refine sqa (a_move_d (lq rfl) rfl) ?_
 refine sqa (a_move_d (lq rfl) rfl) ?_
 refine sqa (a_neq (lq rfl) rfl rfl) ?_
 refine sqa (a_assign_d (lq rfl) rfl) ?_
 refine sq_nil ?_
 cases h
 refine avc_ret ?_
 exact ret_1 rfl
theorem cmp_Compare_int_c {a0} {a1} {r} (h:cmp_Compare_int a0 a1=some r):Contract Tryz.prog 92 [(di a0),(di a1)] [(di r)]:=by
 refine contract_of Tryz.func92 (by kernel_rfl) rfl (lq rfl) (lq rfl) fun w0 I0 hI0 hG0=>?_
 unfold cmp_Compare_int at h
 refine avc_sq2<|avc_sq ?_
 refine sqa (a_assign_d (lq rfl) rfl) ?_
 refine sq_nil<|avc_sq2<|avc_sq ?_
 refine sqa (a_move_d (lq rfl) rfl) ?_
 obtain ⟨t8,ht8,h⟩:=bE h
 refine sqa (a_call (lq rfl) rfl (cmp_isNaN_int_c ht8)) ?_
 refine sqa (a_assign_d (lq rfl) rfl) ?_
 refine sq_nil<|avc_sq2<|avc_sq ?_
 refine sqa (a_move_d (lq rfl) rfl) ?_
 obtain ⟨t10,ht10,h⟩:=bE h
 refine sqa (a_call (lq rfl) rfl (cmp_isNaN_int_c ht10)) ?_
 refine sqa (a_assign_d (lq rfl) rfl) ?_
 refine sq_nil<|avc_sq2<|avc_sq2<|avc_sq ?_
 refine sqa (a_move_d (lq rfl) rfl) ?_
 refine sq_nil ?_
 refine ifM rfl h (fun _ h=>?_) (fun _ h=>?_)
 refine avc_sq2<|avc_sq2<|avc_sq ?_
 refine sqa (a_move_d (lq rfl) rfl) ?_
 refine sq_nil ?_
 refine ifM rfl h (fun _ h=>?_) (fun _ h=>?_)
 refine avc_sq2<|avc_sq ?_
 refine sqa (a_assign_d (lq rfl) rfl) ?_
 refine sq_nil ?_
 cases h
 refine avc_ret ?_
 exact ret_1 rfl
 refine avc_skip<|avc_sq2<|avc_sq ?_
 refine sqa (a_assign_d (lq rfl) rfl) ?_
 refine sq_nil ?_
 cases h
 refine avc_ret ?_
 exact ret_1 rfl
 refine avc_skip<|avc_sq2<|avc_sq2<|avc_sq ?_
 refine sqa (a_move_d (lq rfl) rfl) ?_
 refine sq_nil ?_
 refine ifM rfl h (fun _ h=>?_) (fun _ h=>?_)
 refine avc_sq2<|avc_sq ?_
 refine sqa (a_assign_d (lq rfl) rfl) ?_
 refine sq_nil ?_
 cases h
 refine avc_ret ?_
 exact ret_1 rfl
 refine avc_skip<|avc_sq2<|avc_sq2<|avc_sq ?_
 refine sqa (a_move_d (lq rfl) rfl) ?_
 refine sqa (a_move_d (lq rfl) rfl) ?_
 refine sqa (a_lss (lq rfl) rfl rfl) ?_
 refine sq_nil ?_
 refine ifM rfl h (fun _ h=>?_) (fun _ h=>?_)
 refine avc_sq2<|avc_sq ?_
 refine sqa (a_assign_d (lq rfl) rfl) ?_
 refine sq_nil ?_
 cases h
 refine avc_ret ?_
 exact ret_1 rfl
 refine avc_skip<|avc_sq2<|avc_sq2<|avc_sq ?_
 refine sqa (a_move_d (lq rfl) rfl) ?_
 refine sqa (a_move_d (lq rfl) rfl) ?_
 refine sqa (a_gtr (lq rfl) rfl rfl) ?_
 refine sq_nil ?_
 refine ifM rfl h (fun _ h=>?_) (fun _ h=>?_)
 refine avc_sq2<|avc_sq ?_
 refine sqa (a_assign_d (lq rfl) rfl) ?_
 refine sq_nil ?_
 cases h
 refine avc_ret ?_
 exact ret_1 rfl
 refine avc_skip<|avc_sq2<|avc_sq ?_
 refine sqa (a_assign_d (lq rfl) rfl) ?_
 refine sq_nil ?_
 cases h
 refine avc_ret ?_
 exact ret_1 rfl
theorem cmp_isNaN_string_c {a0} {r} (h:cmp_isNaN_string a0=some r):Contract Tryz.prog 198 [(ds a0)] [(db r)]:=by
 refine contract_of Tryz.func198 (by kernel_rfl) rfl (lq rfl) (lq rfl) fun w0 I0 hI0 hG0=>?_
 unfold cmp_isNaN_string at h
 refine avc_sq2<|avc_sq ?_
 refine sqa (a_assign_d (lq rfl) rfl) ?_
 refine sq_nil<|avc_sq2<|avc_sq ?_
 refine sqa (a_move_d (lq rfl) rfl) ?_
 refine sqa (a_move_d (lq rfl) rfl) ?_
 refine sqa (m_sneq (a:=a0) (b:=a0) (lq rfl) rfl rfl) ?_
 refine sqa (a_assign_d (lq rfl) rfl) ?_
 refine sq_nil ?_
 cases h
 refine avc_ret ?_
 exact ret_1 rfl
theorem cmp_Compare_string_c {a0} {a1} {r} (h:cmp_Compare_string a0 a1=some r):Contract Tryz.prog 183 [(ds a0),(ds a1)] [(di r)]:=by
 refine contract_of Tryz.func183 (by kernel_rfl) rfl (lq rfl) (lq rfl) fun w0 I0 hI0 hG0=>?_
 unfold cmp_Compare_string at h
 refine avc_sq2<|avc_sq ?_
 refine sqa (a_assign_d (lq rfl) rfl) ?_
 refine sq_nil<|avc_sq2<|avc_sq ?_
 refine sqa (a_move_d (lq rfl) rfl) ?_
 obtain ⟨t8,ht8,h⟩:=bE h
 refine sqa (a_call (lq rfl) rfl (cmp_isNaN_string_c ht8)) ?_
 refine sqa (a_assign_d (lq rfl) rfl) ?_
 refine sq_nil<|avc_sq2<|avc_sq ?_
 refine sqa (a_move_d (lq rfl) rfl) ?_
 obtain ⟨t10,ht10,h⟩:=bE h
 refine sqa (a_call (lq rfl) rfl (cmp_isNaN_string_c ht10)) ?_
 refine sqa (a_assign_d (lq rfl) rfl) ?_
 refine sq_nil<|avc_sq2<|avc_sq2<|avc_sq ?_
 refine sqa (a_move_d (lq rfl) rfl) ?_
 refine sq_nil ?_
 refine ifM rfl h (fun _ h=>?_) (fun _ h=>?_)
 refine avc_sq2<|avc_sq2<|avc_sq ?_
 refine sqa (a_move_d (lq rfl) rfl) ?_
 refine sq_nil ?_
 refine ifM rfl h (fun _ h=>?_) (fun _ h=>?_)
 refine avc_sq2<|avc_sq ?_
 refine sqa (a_assign_d (lq rfl) rfl) ?_
 refine sq_nil ?_
 cases h
 refine avc_ret ?_
 exact ret_1 rfl
 refine avc_skip<|avc_sq2<|avc_sq ?_
 refine sqa (a_assign_d (lq rfl) rfl) ?_
 refine sq_nil ?_
 cases h
 refine avc_ret ?_
 exact ret_1 rfl
 refine avc_skip<|avc_sq2<|avc_sq2<|avc_sq ?_
 refine sqa (a_move_d (lq rfl) rfl) ?_
 refine sq_nil ?_
 refine ifM rfl h (fun _ h=>?_) (fun _ h=>?_)
 refine avc_sq2<|avc_sq ?_
 refine sqa (a_assign_d (lq rfl) rfl) ?_
 refine sq_nil ?_
 cases h
 refine avc_ret ?_
 exact ret_1 rfl
 refine avc_skip<|avc_sq2<|avc_sq2<|avc_sq ?_
 refine sqa (a_move_d (lq rfl) rfl) ?_
 refine sqa (a_move_d (lq rfl) rfl) ?_
 refine sqa (m_slss (a:=a0) (b:=a1) (lq rfl) rfl rfl) ?_
 refine sq_nil ?_
 refine ifM rfl h (fun _ h=>?_) (fun _ h=>?_)
 refine avc_sq2<|avc_sq ?_
 refine sqa (a_assign_d (lq rfl) rfl) ?_
 refine sq_nil ?_
 cases h
 refine avc_ret ?_
 exact ret_1 rfl
 refine avc_skip<|avc_sq2<|avc_sq2<|avc_sq ?_
 refine sqa (a_move_d (lq rfl) rfl) ?_
 refine sqa (a_move_d (lq rfl) rfl) ?_
 refine sqa (m_sgtr (a:=a0) (b:=a1) (lq rfl) rfl rfl) ?_
 refine sq_nil ?_
 refine ifM rfl h (fun _ h=>?_) (fun _ h=>?_)
 refine avc_sq2<|avc_sq ?_
 refine sqa (a_assign_d (lq rfl) rfl) ?_
 refine sq_nil ?_
 cases h
 refine avc_ret ?_
 exact ret_1 rfl
 refine avc_skip<|avc_sq2<|avc_sq ?_
 refine sqa (a_assign_d (lq rfl) rfl) ?_
 refine sq_nil ?_
 cases h
 refine avc_ret ?_
 exact ret_1 rfl
theorem cmp_Or_int_c {a0} {r} (h:cmp_Or_int a0=some r):Contract Tryz.prog 182 [(dsl eI a0)] [(di r)]:=by
 refine contract_of Tryz.func182 (by kernel_rfl) rfl (lq rfl) (lq rfl) fun w0 I0 hI0 hG0=>?_
 unfold cmp_Or_int at h
 refine avc_sq2<|avc_sq ?_
 refine sqa (a_assign_d (lq rfl) rfl) ?_
 refine sq_nil<|avc_sq2<|avc_sq ?_
 refine sqa (a_assign_d (lq rfl) rfl) ?_
 refine sq_nil<|avc_sq2<|avc_sq2<|avc_sq ?_
 refine sqa (a_move_d (lq rfl) rfl) ?_
 refine sqa (m_len (en:=eI) (l:=a0) (lq rfl) S37 rfl) ?_
 refine sqa (a_move_d (lq rfl) rfl) ?_
 refine sq_nil<|avc_block ?_
 obtain ⟨y1,hy1,h⟩:=bE h
 refine avc_tail2 y1 (.exit 0) (fun y1=>⟨[(3,.d (di 0))],[]⟩) .ret (fun y1=>⟨[(2,.d (di y1))],[]⟩) ?_ ?_ ?_
 refine avc_loopM (fun x=>⟨[(3,.d (di 0)),(6,.d (dsl eI a0)),(7,.d (di (a0.length:Int))),(8,.d (di x))],[]⟩) hy1 (weak_cov ⟨rfl,rfl,rfl,rfl,trivial⟩ trivial) ?_
 rintro v8 sy1 hsy1
 replace hsy1:cmp_Or_int_L0 a0 v8=some sy1:=hsy1
 unfold cmp_Or_int_L0 at hsy1
 refine avc_sq2<|avc_sq ?_
 refine sqa (a_lss (lq rfl) rfl rfl) ?_
 refine sq_nil<|avc_sq2 ?_
 refine ifM rfl hsy1 (fun _ hsy1=>?_) (fun _ hsy1=>?_)
 refine avc_skip<|avc_sq2<|avc_block<|avc_sq2<|avc_sq ?_
 obtain ⟨t10,ht10,hsy1⟩:=bE hsy1
 refine sqa (m_index (en:=eI) (lq rfl) S37 rfl rfl ht10) ?_
 refine sqa (m_loadE (en:=eI) (l:=a0) (i:=v8) (v:=t10) (off:=0) (lq rfl) O3 rfl ht10 rfl) ?_
 refine sqa (a_assign_d (lq rfl) rfl) ?_
 refine sq_nil<|avc_sq2<|avc_sq ?_
 refine sqa (a_move_d (lq rfl) rfl) ?_
 refine sqa (a_move_d (lq rfl) rfl) ?_
 refine sqa (a_neq (lq rfl) rfl rfl) ?_
 refine sq_nil ?_
 refine ifM rfl hsy1 (fun _ hsy1=>?_) (fun _ hsy1=>?_)
 refine avc_sq2<|avc_sq ?_
 refine sqa (a_move_d (lq rfl) rfl) ?_
 refine sqa (a_assign_d (lq rfl) rfl) ?_
 refine sq_nil ?_
 refine avc_ret ?_
 cases hsy1
 intro q;cases q
 exact ⟨rfl,weak_cov ⟨rfl,trivial⟩ trivial⟩
 refine avc_skip<|avc_sq ?_
 refine sqa (m_add (lq rfl) rfl rfl) ?_
 refine sqa (a_move_d (lq rfl) rfl) ?_
 refine sq_nil ?_
 cases hsy1
 exact weak_cov ⟨rfl,rfl,rfl,rfl,trivial⟩ trivial
 refine avc_exit ?_
 cases hsy1
 intro q;cases q
 exact ⟨rfl,weak_cov ⟨rfl,trivial⟩ trivial⟩
 rintro y1 rfl
 replace h:=eL h
 refine avc_sq2<|avc_sq ?_
 refine sqa (a_move_d (lq rfl) rfl) ?_
 refine sqa (a_assign_d (lq rfl) rfl) ?_
 refine sq_nil ?_
 cases h
 refine avc_ret ?_
 exact ret_1 rfl
 rintro y1 rfl
 replace h:=eR h
 cases h
 exact ret_1 rfl
theorem mapping_compare_c {a0} {a1} {r} (h:mapping_compare a0 a1=some r):Contract Tryz.prog 158 [(eMapping.dv a0),(eMapping.dv a1)] [(di r)]:=by
 refine contract_of Tryz.func158 (by kernel_rfl) rfl (lq rfl) (lq rfl) fun w0 I0 hI0 hG0=>?_
 unfold mapping_compare at h
 refine avc_sq2<|avc_sq ?_
 refine sqa (m_box (size:=3) (lq rfl) rfl rfl) ?_
 refine sqa (m_box (size:=3) (lq rfl) rfl rfl) ?_
 refine sqa (a_assign_d (lq rfl) rfl) ?_
 refine sq_nil<|avc_sq2 ?_
 refine avc_drawA MX rfl ?_
 refine daa (m_fieldPt (lq rfl) L72_0 rfl) ?_
 refine daa (a_load_ip (lq rfl) O3 rfl rfl) ?_
 refine daa (m_fieldPt (lq rfl) L72_0 rfl) ?_
 refine daa (a_load_ip (lq rfl) O3 rfl rfl) ?_
 obtain ⟨t9,ht9,h⟩:=bE h
 refine daa (a_call (lq rfl) rfl (cmp_Compare_int_c ht9)) ?_
 refine daa (m_fieldPt (lq rfl) L72_2 rfl) ?_
 refine daa (a_load_ip (lq rfl) O9 rfl rfl) ?_
 refine daa (m_fieldPt (lq rfl) L72_2 rfl) ?_
 refine daa (a_load_ip (lq rfl) O9 rfl rfl) ?_
 obtain ⟨t14,ht14,h⟩:=bE h
 refine daa (a_call (lq rfl) rfl (cmp_Compare_string_c ht14)) ?_
 refine daa (a_lit (lq rfl) S37 rfl rfl rfl rfl (by decide) rfl) ?_
 obtain ⟨t16,ht16,h⟩:=bE h
 refine daa (a_call (lq rfl) rfl (cmp_Or_int_c ht16)) ?_
 refine daa (a_assign_d (lq rfl) rfl) ?_
 refine da_nil ?_
 cases h
 refine avc_ret ?_
 exact ret_1 rfl
theorem mapping_keyOf_c {a0} {r} (h:mapping_keyOf a0=some r):Contract Tryz.prog 159 [(eMapping.dv a0)] [(eMapping_key.dv r)]:=by
 refine contract_of Tryz.func159 (by kernel_rfl) rfl (lq rfl) (lq rfl) fun w0 I0 hI0 hG0=>?_
 unfold mapping_keyOf at h
 refine avc_sq2<|avc_sq ?_
 refine sqa (m_box (size:=3) (lq rfl) rfl rfl) ?_
 refine sq_b rfl (step_alloc (zs:=[(.int IntKind.i64 (0)),(.string ⟨#[]⟩)]) (lq rfl) (by kernel_rfl) rfl rfl) ?_
 refine sq_nil<|avc_sq2<|avc_sq ?_
 refine sqa (m_fieldPt (lq rfl) L72_0 rfl) ?_
 refine sqa (a_load_ip (lq rfl) O3 rfl rfl) ?_
 refine sqa (m_fieldPt (lq rfl) L72_2 rfl) ?_
 refine sqa (a_load_ip (lq rfl) O9 rfl rfl) ?_
 refine sqa (m_build (lq rfl) B195 rfl rfl) ?_
 refine sq_b rfl (s_store_boxA G195 rfl rfl rfl rfl rfl rfl) ?_
 refine sq_nil ?_
 cases h
 refine avc_ret ?_
 exact ret_cellA rfl rfl G195 rfl
theorem mapping_Check_c {a0} {r} (h:mapping_Check a0=some r):Contract Tryz.prog 113 [(dsl eMapping a0)] [(di r)]:=by
 refine contract_of Tryz.func113 (by kernel_rfl) rfl (lq rfl) (lq rfl) fun w0 I0 hI0 hG0=>?_
 unfold mapping_Check at h
 refine avc_sq2<|avc_sq ?_
 refine sqa (a_assign_d (lq rfl) rfl) ?_
 refine sq_nil<|avc_sq2<|avc_sq2<|avc_sq ?_
 refine sqa (a_move_d (lq rfl) rfl) ?_
 obtain ⟨t10,ht10,h⟩:=bE h
 refine sqa (a_call (lq rfl) rfl (mapping_parts_c ht10)) ?_
 refine sqa (a_assign_d (lq rfl) rfl) ?_
 refine sq_nil<|avc_sq2<|avc_sq ?_
 refine sqa (a_move_d (lq rfl) rfl) ?_
 refine sqa (a_neq (lq rfl) rfl rfl) ?_
 refine sq_nil ?_
 refine ifM rfl h (fun _ h=>?_) (fun _ h=>?_)
 refine avc_sq2<|avc_sq ?_
 refine sqa (a_move_d (lq rfl) rfl) ?_
 refine sqa (a_assign_d (lq rfl) rfl) ?_
 refine sq_nil ?_
 cases h
 refine avc_ret ?_
 exact ret_1 rfl
 refine avc_skip<|avc_sq2<|avc_sq ?_
 refine sqa (a_assign_d (lq rfl) rfl) ?_
 refine sq_nil<|avc_sq2<|avc_sq2<|avc_sq ?_
 refine sqa (a_assign_d (lq rfl) rfl) ?_
 refine sq_nil<|avc_block ?_
 obtain ⟨y1,hy1,h⟩:=bE h
 refine avc_tail (e:=(.exit 0)) (S2:=⟨[(0,.d (dsl eMapping a0)),(4,.d (db y1))],[]⟩) ?_ ?_
 refine avc_loopM (fun x=>⟨[(0,.d (dsl eMapping a0)),(4,.d (db x.1)),(5,.d (di x.2))],[]⟩) hy1 (weak_cov ⟨rfl,rfl,rfl,trivial⟩ trivial) ?_
 rintro ⟨v4,v5⟩ sy1 hsy1
 replace hsy1:mapping_Check_L0 a0 v4 v5=some sy1:=hsy1
 unfold mapping_Check_L0 at hsy1
 refine avc_sq2<|avc_sq2<|avc_sq ?_
 refine sqa (a_move_d (lq rfl) rfl) ?_
 refine sqa (a_move_d (lq rfl) rfl) ?_
 refine sqa (m_len (en:=eMapping) (l:=a0) (lq rfl) S23 rfl) ?_
 refine sqa (a_lss (lq rfl) rfl rfl) ?_
 refine sq_nil ?_
 refine ifM rfl hsy1 (fun _ hsy1=>?_) (fun _ hsy1=>?_)
 refine avc_skip<|avc_sq2 ?_
 obtain ⟨y2,hy2,hsy1⟩:=bE hsy1
 refine avc_tail (e:= .normal) (S2:=⟨[(0,.d (dsl eMapping a0)),(4,.d (db y2)),(5,.d (di v5))],[]⟩) ?_ ?_
 refine avc_block<|avc_sq2 ?_
 refine avc_drawA MX rfl ?_
 refine daa (a_move_d (lq rfl) rfl) ?_
 refine daa (a_move_d (lq rfl) rfl) ?_
 refine daa (m_sub (lq rfl) rfl rfl) ?_
 obtain ⟨t23,ht23,hy2⟩:=bE hy2
 refine daa (m_index (en:=eMapping) (lq rfl) S23 rfl rfl ht23) ?_
 refine daa (m_loadEA (en:=eMapping) (l:=a0) (i:=(wi (v5 - 1))) (v:=t23) (off:=0) (lq rfl) G72 rfl ht23 rfl rfl (by decide)) ?_
 refine daa (a_move_d (lq rfl) rfl) ?_
 refine daa (a_move_d (lq rfl) rfl) ?_
 obtain ⟨t27,ht27,hy2⟩:=bE hy2
 refine daa (m_index (en:=eMapping) (lq rfl) S23 rfl rfl ht27) ?_
 refine daa (m_loadEA (en:=eMapping) (l:=a0) (i:=v5) (v:=t27) (off:=0) (lq rfl) G72 rfl ht27 rfl rfl (by decide)) ?_
 obtain ⟨t29,ht29,hy2⟩:=bE hy2
 refine daa (a_call (lq rfl) rfl (mapping_compare_c ht29)) ?_
 refine daa (a_geq (lq rfl) rfl rfl) ?_
 refine da_nil ?_
 refine ifM rfl hy2 (fun _ hy2=>?_) (fun _ hy2=>?_)
 refine avc_sq ?_
 refine sqa (a_assign_d (lq rfl) rfl) ?_
 refine sq_nil ?_
 cases hy2
 exact out_mk (weak_cov ⟨rfl,rfl,rfl,trivial⟩ trivial)
 refine avc_skip ?_
 cases hy2
 exact out_mk (weak_cov ⟨rfl,rfl,rfl,trivial⟩ trivial)
 refine avc_sq ?_
 refine sqa (a_move_d (lq rfl) rfl) ?_
 refine sqa (m_add (lq rfl) rfl rfl) ?_
 refine sqa (a_assign_d (lq rfl) rfl) ?_
 refine sq_nil ?_
 cases hsy1
 exact weak_cov ⟨rfl,rfl,rfl,trivial⟩ trivial
 refine avc_exit ?_
 cases hsy1
 intro q;cases q
 exact out_mk (weak_cov ⟨rfl,rfl,trivial⟩ trivial)
 refine avc_sq2<|avc_sq2<|avc_sq ?_
 refine sqa (a_move_d (lq rfl) rfl) ?_
 refine sq_nil ?_
 refine ifM rfl h (fun _ h=>?_) (fun _ h=>?_)
 refine avc_sq2<|avc_sq ?_
 refine sqa (a_assign_d (lq rfl) rfl) ?_
 refine sq_nil ?_
 cases h
 refine avc_ret ?_
 exact ret_1 rfl
 refine avc_skip<|avc_sq2<|avc_sq ?_
 refine sq_b rfl (m_makeMap (lq rfl) rfl) ?_
 refine sqa (a_assign_row (lq rfl) rfl) ?_
 refine sq_nil<|avc_sq2<|avc_sq2<|avc_sq ?_
 refine sqa (a_move_d (lq rfl) rfl) ?_
 refine sqa (m_len (en:=eMapping) (l:=a0) (lq rfl) S23 rfl) ?_
 refine sqa (a_move_d (lq rfl) rfl) ?_
 refine sq_nil<|avc_block ?_
 obtain ⟨y3,hy3,h⟩:=bE h
 refine avc_tail2 y3 (.exit 2) (fun y3=>⟨[],[]⟩) .ret (fun y3=>⟨[(2,.d (di y3))],[]⟩) ?_ ?_ ?_
 refine avc_loopM (fun x=>⟨[(6,.row 32),(33,.d (dsl eMapping a0)),(34,.d (di (a0.length:Int))),(35,.d (di x.1))],[(32,.map (mapE kMapping_key eB x.2))]⟩) hy3 (weak_cov ⟨rfl,rfl,rfl,rfl,trivial⟩ ⟨rfl,trivial⟩) ?_
 rintro ⟨v35,r32⟩ sy3 hsy3
 replace hsy3:mapping_Check_L1 a0 v35 r32=some sy3:=hsy3
 unfold mapping_Check_L1 at hsy3
 refine avc_sq2<|avc_sq ?_
 refine sqa (a_lss (lq rfl) rfl rfl) ?_
 refine sq_nil<|avc_sq2 ?_
 refine ifM rfl hsy3 (fun _ hsy3=>?_) (fun _ hsy3=>?_)
 refine avc_skip<|avc_sq2<|avc_block<|avc_sq2<|avc_sq ?_
 obtain ⟨t37,ht37,hsy3⟩:=bE hsy3
 refine sqa (m_index (en:=eMapping) (lq rfl) S23 rfl rfl ht37) ?_
 refine sqa (m_loadEA (en:=eMapping) (l:=a0) (i:=v35) (v:=t37) (off:=0) (lq rfl) G72 rfl ht37 rfl rfl (by decide)) ?_
 refine sq_b rfl (step_alloc (zs:=[(.int IntKind.i64 (0)),(.slice none 0 0),(.string ⟨#[]⟩)]) (lq rfl) (by kernel_rfl) rfl rfl) ?_
 refine sq_b rfl (s_store_boxA G72 rfl rfl rfl rfl rfl rfl) ?_
 refine sq_nil ?_
 refine avc_weak (weak_freeze (t:=8) (lq rfl) rfl rfl rfl) ?_
 refine avc_sq2<|avc_sq2<|avc_sq ?_
 refine sqa (a_move_row (lq rfl) rfl) ?_
 refine sqa (m_loadPt (lq rfl) G72 rfl rfl) ?_
 obtain ⟨t41,ht41,hsy3⟩:=bE hsy3
 refine sqa (a_call (lq rfl) rfl (mapping_keyOf_c ht41)) ?_
 refine sqa (m_lookupK (kv:=kMapping_key) (ev:=eB) (mp:=r32) (k:=t41) (zero:=false) (lq rfl) M193 K195 rfl rfl rfl (kAgg rfl) (fun _ _=> .v _)) ?_
 refine sq_nil ?_
 refine ifM rfl hsy3 (fun _ hsy3=>?_) (fun _ hsy3=>?_)
 refine avc_sq2<|avc_sq ?_
 refine sqa (a_assign_d (lq rfl) rfl) ?_
 refine sq_nil ?_
 refine avc_ret ?_
 cases hsy3
 intro q;cases q
 exact ⟨rfl,weak_cov ⟨rfl,trivial⟩ trivial⟩
 refine avc_skip<|avc_sq ?_
 refine sqa (a_move_row (lq rfl) rfl) ?_
 refine sqa (m_loadPt (lq rfl) G72 rfl rfl) ?_
 obtain ⟨t45,ht45,hsy3⟩:=bE hsy3
 refine sqa (a_call (lq rfl) rfl (mapping_keyOf_c ht45)) ?_
 refine sq_b rfl (m_mapUpdateK (kv:=kMapping_key) (ev:=eB) (mp:=r32) (k:=t45) (v:=true) M193 K195 rfl rfl rfl (kAgg rfl) rfl rfl rfl) ?_
 refine sq_nil<|avc_sq ?_
 refine sqa (m_add (lq rfl) rfl rfl) ?_
 refine sqa (a_move_d (lq rfl) rfl) ?_
 refine sq_nil ?_
 cases hsy3
 exact weak_cov ⟨rfl,rfl,rfl,rfl,trivial⟩ ⟨rfl,trivial⟩
 refine avc_exit ?_
 cases hsy3
 intro q;cases q
 exact ⟨rfl,weak_cov trivial trivial⟩
 rintro y3 rfl
 replace h:=eL h
 refine avc_sq2<|avc_sq ?_
 refine sqa (a_assign_d (lq rfl) rfl) ?_
 refine sq_nil ?_
 cases h
 refine avc_ret ?_
 exact ret_1 rfl
 rintro y3 rfl
 replace h:=eR h
 cases h
 exact ret_1 rfl
set_option maxRecDepth 20000 in
theorem math_bits_Len64_c {a0} {r} (h:math_bits_Len64 a0=some r):Contract Tryz.prog 128 [(.v (.int .u64 a0))] [(di r)]:=by
 refine contract_of Tryz.func128 (by kernel_rfl) rfl (lq rfl) (lq rfl) fun w0 I0 hI0 hG0=>?_
 unfold math_bits_Len64 at h
 refine avc_sq2<|avc_sq ?_
 refine sqa (a_assign_d (lq rfl) rfl) ?_
 refine sq_nil<|avc_sq2<|avc_sq2<|avc_sq ?_
 refine sqa (a_move_d (lq rfl) rfl) ?_
 refine sqa (a_geq (lq rfl) rfl rfl) ?_
 refine sq_nil ?_
 obtain ⟨y1,hy1,h⟩:=bE h
 refine avc_tail (e:= .normal) (S2:=⟨[(0,.d (.v (.int .u64 y1.1))),(2,.d (di y1.2))],[]⟩) ?_ ?_
 refine ifM rfl hy1 (fun _ hy1=>?_) (fun _ hy1=>?_)
 refine avc_sq2<|avc_sq ?_
 refine sqa (a_move_d (lq rfl) rfl) ?_
 refine sqa (a_shr (m:=32) (lq rfl) rfl rfl (by decide)) ?_
 refine sqa (a_assign_d (lq rfl) rfl) ?_
 refine sq_nil<|avc_sq ?_
 refine sqa (a_assign_d (lq rfl) rfl) ?_
 refine sq_nil ?_
 cases hy1
 exact out_mk (weak_cov ⟨rfl,rfl,trivial⟩ trivial)
 refine avc_skip ?_
 cases hy1
 exact out_mk (weak_cov ⟨rfl,rfl,trivial⟩ trivial)
 refine avc_sq2<|avc_sq2<|avc_sq ?_
 refine sqa (a_move_d (lq rfl) rfl) ?_
 refine sqa (a_geq (lq rfl) rfl rfl) ?_
 refine sq_nil ?_
 obtain ⟨y2,hy2,h⟩:=bE h
 refine avc_tail (e:= .normal) (S2:=⟨[(0,.d (.v (.int .u64 y2.1))),(2,.d (di y2.2))],[]⟩) ?_ ?_
 refine ifM rfl hy2 (fun _ hy2=>?_) (fun _ hy2=>?_)
 refine avc_sq2<|avc_sq ?_
 refine sqa (a_move_d (lq rfl) rfl) ?_
 refine sqa (a_shr (m:=16) (lq rfl) rfl rfl (by decide)) ?_
 refine sqa (a_assign_d (lq rfl) rfl) ?_
 refine sq_nil<|avc_sq ?_
 refine sqa (a_move_d (lq rfl) rfl) ?_
 refine sqa (m_add (lq rfl) rfl rfl) ?_
 refine sqa (a_assign_d (lq rfl) rfl) ?_
 refine sq_nil ?_
 cases hy2
 exact out_mk (weak_cov ⟨rfl,rfl,trivial⟩ trivial)
 refine avc_skip ?_
 cases hy2
 exact out_mk (weak_cov ⟨rfl,rfl,trivial⟩ trivial)
 refine avc_sq2<|avc_sq2<|avc_sq ?_
 refine sqa (a_move_d (lq rfl) rfl) ?_
 refine sqa (a_geq (lq rfl) rfl rfl) ?_
 refine sq_nil ?_
 obtain ⟨y3,hy3,h⟩:=bE h
 refine avc_tail (e:= .normal) (S2:=⟨[(0,.d (.v (.int .u64 y3.1))),(2,.d (di y3.2))],[]⟩) ?_ ?_
 refine ifM rfl hy3 (fun _ hy3=>?_) (fun _ hy3=>?_)
 refine avc_sq2<|avc_sq ?_
 refine sqa (a_move_d (lq rfl) rfl) ?_
 refine sqa (a_shr (m:=8) (lq rfl) rfl rfl (by decide)) ?_
 refine sqa (a_assign_d (lq rfl) rfl) ?_
 refine sq_nil<|avc_sq ?_
 refine sqa (a_move_d (lq rfl) rfl) ?_
 refine sqa (m_add (lq rfl) rfl rfl) ?_
 refine sqa (a_assign_d (lq rfl) rfl) ?_
 refine sq_nil ?_
 cases hy3
 exact out_mk (weak_cov ⟨rfl,rfl,trivial⟩ trivial)
 refine avc_skip ?_
 cases hy3
 exact out_mk (weak_cov ⟨rfl,rfl,trivial⟩ trivial)
 refine avc_sq2<|avc_sq ?_
 refine sqa (a_move_d (lq rfl) rfl) ?_
 refine sqa (a_move_d (lq rfl) rfl) ?_
 refine sqa (m_conv (lq rfl) Tryz.underlying166 Tryz.underlying5 rfl) ?_
 obtain ⟨t22,ht22,h⟩:=bE h
 refine sqa (m_sindex (s:=[0,1,2,2,3,3,3,3,4,4,4,4,4,4,4,4,5,5,5,5,5,5,5,5,5,5,5,5,5,5,5,5,6,6,6,6,6,6,6,6,6,6,6,6,6,6,6,6,6,6,6,6,6,6,6,6,6,6,6,6,6,6,6,6,7,7,7,7,7,7,7,7,7,7,7,7,7,7,7,7,7,7,7,7,7,7,7,7,7,7,7,7,7,7,7,7,7,7,7,7,7,7,7,7,7,7,7,7,7,7,7,7,7,7,7,7,7,7,7,7,7,7,7,7,7,7,7,7,8,8,8,8,8,8,8,8,8,8,8,8,8,8,8,8,8,8,8,8,8,8,8,8,8,8,8,8,8,8,8,8,8,8,8,8,8,8,8,8,8,8,8,8,8,8,8,8,8,8,8,8,8,8,8,8,8,8,8,8,8,8,8,8,8,8,8,8,8,8,8,8,8,8,8,8,8,8,8,8,8,8,8,8,8,8,8,8,8,8,8,8,8,8,8,8,8,8,8,8,8,8,8,8,8,8,8,8,8,8,8,8,8,8,8,8,8,8,8,8,8,8,8,8,8,8,8,8]) (lq rfl) Tryz.underlying9 rfl rfl ht22) ?_
 refine sqa (m_conv (lq rfl) Tryz.underlying5 Tryz.underlying3 rfl) ?_
 refine sqa (m_add (lq rfl) rfl rfl) ?_
 refine sqa (a_assign_d (lq rfl) rfl) ?_
 refine sq_nil ?_
 cases h
 refine avc_ret ?_
 exact ret_1 rfl
theorem math_bits_Len_c {a0} {r} (h:math_bits_Len a0=some r):Contract Tryz.prog 84 [(.v (.int .u64 a0))] [(di r)]:=by
 refine contract_of Tryz.func84 (by kernel_rfl) rfl (lq rfl) (lq rfl) fun w0 I0 hI0 hG0=>?_
 unfold math_bits_Len at h
 refine avc_sq2<|avc_sq ?_
 refine sqa (a_assign_d (lq rfl) rfl) ?_
 refine sq_nil<|avc_sq2 ?_
 refine avc_if rfl ⟨fun c=>(by cases c),fun _=>?_⟩
 refine avc_skip<|avc_sq2<|avc_sq ?_
 refine sqa (a_move_d (lq rfl) rfl) ?_
 obtain ⟨t7,ht7,h⟩:=bE h
 refine sqa (a_call (lq rfl) rfl (math_bits_Len64_c ht7)) ?_
 refine sqa (a_assign_d (lq rfl) rfl) ?_
 refine sq_nil ?_
 cases h
 refine avc_ret ?_
 exact ret_1 rfl
set_option maxHeartbeats 8000000 in
theorem slices_insertionSortCmpFunc_api_Range_g {fv3:DV} {a0:(List Range)} {a1:Int} {a2:Int} {a3:Range→Range→Option (Int)} (hf3:∀x0 x1 y,a3 x0 x1=some y→FnC Tryz.prog fv3 [(eRange.dv x0),(eRange.dv x1)] [(di y)]) {r:(List Range)} (h:slices_insertionSortCmpFunc_api_Range a0 a1 a2 a3=some r):GC Tryz.prog 207 [.row 3000,.d (di a1),.d (di a2),.d fv3] [(3000,.row 184 eRange.size false (eRange.all a0))] [3000] [] [(3000,.row 184 eRange.size false (eRange.all r))]:=by
 refine gc_of Tryz.func207 (by kernel_rfl) rfl (lq rfl) (lq rfl) fun w0 I0 hG0 p0=>?_
 unfold slices_insertionSortCmpFunc_api_Range at h
 refine avc_sq2<|avc_sq ?_
 refine sqa (a_move_d (lq rfl) rfl) ?_
 refine sqa (m_add (lq rfl) rfl rfl) ?_
 refine sqa (a_assign_d (lq rfl) rfl) ?_
 refine sq_nil<|avc_block ?_
 obtain ⟨y1,hy1,h⟩:=bE h
 refine avc_tail (e:=(.exit 0)) (S2:=⟨[(0,.row 3000)],[(3000,.row 184 eRange.size false (eRange.all y1))]⟩) ?_ ?_
 refine avc_loopM (fun x=>⟨[(0,.row 3000),(1,.d (di a1)),(2,.d (di a2)),(3,.d fv3),(8,.d (di x.1))],[(3000,.row 184 eRange.size false (eRange.all x.2))]⟩) hy1 (weak_cov ⟨rfl,rfl,rfl,rfl,rfl,trivial⟩ ⟨rfl,trivial⟩) ?_
 rintro ⟨v8,r3000⟩ sy1 hsy1
 replace hsy1:slices_insertionSortCmpFunc_api_Range_L0 a2 a1 a3 v8 r3000=some sy1:=hsy1
 unfold slices_insertionSortCmpFunc_api_Range_L0 at hsy1
 refine avc_sq2<|avc_sq2<|avc_sq ?_
 refine sqa (a_move_d (lq rfl) rfl) ?_
 refine sqa (a_move_d (lq rfl) rfl) ?_
 refine sqa (a_lss (lq rfl) rfl rfl) ?_
 refine sq_nil ?_
 refine ifM rfl hsy1 (fun _ hsy1=>?_) (fun _ hsy1=>?_)
 refine avc_skip<|avc_sq2<|avc_block<|avc_sq2<|avc_sq ?_
 refine sqa (a_move_d (lq rfl) rfl) ?_
 refine sqa (a_assign_d (lq rfl) rfl) ?_
 refine sq_nil<|avc_block ?_
 obtain ⟨y2,hy2,hsy1⟩:=bE hsy1
 refine avc_tail (e:=(.exit 2)) (S2:=⟨[(0,.row 3000),(1,.d (di a1)),(2,.d (di a2)),(3,.d fv3),(8,.d (di v8))],[(3000,.row 184 eRange.size false (eRange.all y2))]⟩) ?_ ?_
 refine avc_loopM (fun x=>⟨[(0,.row 3000),(1,.d (di a1)),(2,.d (di a2)),(3,.d fv3),(8,.d (di v8)),(9,.d (di x.1))],[(3000,.row 184 eRange.size false (eRange.all x.2))]⟩) hy2 (weak_cov ⟨rfl,rfl,rfl,rfl,rfl,rfl,trivial⟩ ⟨rfl,trivial⟩) ?_
 rintro ⟨v9,r3000⟩ sy2 hsy2
 replace hsy2:slices_insertionSortCmpFunc_api_Range_L1 a1 a3 v9 r3000=some sy2:=hsy2
 unfold slices_insertionSortCmpFunc_api_Range_L1 at hsy2
 refine avc_sq2<|avc_sq2 ?_
 refine avc_drawA MX rfl ?_
 refine daa (a_move_d (lq rfl) rfl) ?_
 refine daa (a_move_d (lq rfl) rfl) ?_
 refine daa (a_gtr (lq rfl) rfl rfl) ?_
 obtain ⟨b21,hb21,hsy2⟩:=bE hsy2
 refine daa ((a_move_d (lq rfl) rfl).bool (Option.some.inj hb21)) ?_
 refine da_g (x:= .d fv3) rfl rfl rfl (lq rfl) (lq rfl) rfl (fun hb=>by obtain rfl:b21=true:=hb;exact a_move_d (lq rfl) rfl) ?_
 refine da_g (x:= .row 3000) rfl rfl rfl (lq rfl) (lq rfl) rfl (fun hb=>by obtain rfl:b21=true:=hb;exact a_move_row (lq rfl) rfl) ?_
 refine da_g (x:= .d (di v9)) rfl rfl rfl (lq rfl) (lq rfl) rfl (fun hb=>by obtain rfl:b21=true:=hb;exact a_move_d (lq rfl) rfl) ?_
 obtain ⟨t25,ht25,hsy2⟩:=bE hsy2
 refine da_g (x:= .ptr 3000 (v9.toNat*eRange.size)) rfl rfl rfl (lq rfl) (lq rfl) rfl (fun hb=>by obtain rfl:b21=true:=hb;exact m_indexR (en:=eRange) (l:=r3000) (lq rfl) S24 rfl rfl rfl ht25) ?_
 refine da_g (x:= .d (eRange.dv t25)) rfl rfl rfl (lq rfl) (lq rfl) rfl (fun hb=>by obtain rfl:b21=true:=hb;exact m_loadEAR (en:=eRange) (l:=r3000) (i:=v9) (v:=t25) (off:=0) (lq rfl) G184 rfl rfl ht25 rfl rfl (by decide)) ?_
 refine da_g (x:= .row 3000) rfl rfl rfl (lq rfl) (lq rfl) rfl (fun hb=>by obtain rfl:b21=true:=hb;exact a_move_row (lq rfl) rfl) ?_
 refine da_g (x:= .d (di v9)) rfl rfl rfl (lq rfl) (lq rfl) rfl (fun hb=>by obtain rfl:b21=true:=hb;exact a_move_d (lq rfl) rfl) ?_
 refine da_g (x:= .d (di (wi (v9 - 1)))) rfl rfl rfl (lq rfl) (lq rfl) rfl (fun hb=>by obtain rfl:b21=true:=hb;exact m_sub (lq rfl) rfl rfl) ?_
 obtain ⟨t30,ht30,hsy2⟩:=bE hsy2
 refine da_g (x:= .ptr 3000 ((wi (v9 - 1)).toNat*eRange.size)) rfl rfl rfl (lq rfl) (lq rfl) rfl (fun hb=>by obtain rfl:b21=true:=hb;exact m_indexR (en:=eRange) (l:=r3000) (lq rfl) S24 rfl rfl rfl ht30) ?_
 refine da_g (x:= .d (eRange.dv t30)) rfl rfl rfl (lq rfl) (lq rfl) rfl (fun hb=>by obtain rfl:b21=true:=hb;exact m_loadEAR (en:=eRange) (l:=r3000) (i:=(wi (v9 - 1))) (v:=t30) (off:=0) (lq rfl) G184 rfl rfl ht30 rfl rfl (by decide)) ?_
 obtain ⟨t32,ht32,hsy2⟩:=bE hsy2
 refine da_g (x:= .d (di t32)) rfl rfl rfl (lq rfl) (lq rfl) rfl (fun hb=>by obtain rfl:b21=true:=hb;exact a_callF (lq rfl) rfl rfl (hf3 _ _ _ ht32)) ?_
 refine da_g (x:= .d (db (decide (t32 < 0)))) rfl rfl rfl (lq rfl) (lq rfl) rfl (fun hb=>by obtain rfl:b21=true:=hb;exact a_lss (lq rfl) rfl rfl) ?_
 refine daa (a_pick_and (lq rfl) rfl rfl) ?_
 refine da_nil ?_
 refine ifM rfl hsy2 (fun _ hsy2=>?_) (fun _ hsy2=>?_)
 refine avc_skip<|avc_sq2<|avc_block ?_
 obtain ⟨t45,ht45,hsy2⟩:=bE hsy2
 obtain ⟨t49,ht49,hsy2⟩:=bE hsy2
 obtain ⟨t51,ht51,hsy2⟩:=bE hsy2
 obtain ⟨r3000_6x15,hr3000_6x15,hsy2⟩:=bE hsy2
 obtain ⟨t52,ht52,hsy2⟩:=bE hsy2
 obtain ⟨r3000_6x17,hr3000_6x17,hsy2⟩:=bE hsy2
 refine avc_tail (e:= .normal) (S2:=⟨[(0,.row 3000),(1,.d (di a1)),(2,.d (di a2)),(3,.d fv3),(8,.d (di v8)),(9,.d (di v9))],[(3000,.row 184 eRange.size false (eRange.all r3000_6x17))]⟩) ?_ ?_
 refine avc_any MX ?_
 refine any_move (i:=0) rfl (lq rfl) rfl rfl rfl rfl ?_
 refine any_move (i:=1) rfl (lq rfl) rfl rfl rfl rfl ?_
 refine any_move (i:=2) rfl (lq rfl) rfl rfl rfl rfl ?_
 refine any_move (i:=3) rfl (lq rfl) rfl rfl rfl rfl ?_
 refine any_sub (i:=4) rfl (lq rfl) rfl rfl rfl rfl rfl rfl ?_
 refine any_move (i:=5) rfl (lq rfl) rfl rfl rfl rfl ?_
 refine any_move (i:=6) rfl (lq rfl) rfl rfl rfl rfl ?_
 refine any_sub (i:=7) rfl (lq rfl) rfl rfl rfl rfl rfl rfl ?_
 refine any_move (i:=10) rfl (lq rfl) rfl rfl rfl rfl ?_
 refine any_move (i:=11) rfl (lq rfl) rfl rfl rfl rfl ?_
 refine any_n [8,12] (by kernel_rfl) rfl ?_
 refine any_a (i:=8) rfl rfl (m_indexR (en:=eRange) (l:=r3000) (lq rfl) S24 rfl rfl rfl ht45) ?_ ?_
 refine any_n [9,12] (by kernel_rfl) rfl ?_
 refine any_a (i:=9) rfl rfl (m_loadEAR (en:=eRange) (l:=r3000) (i:=(wi (v9 - 1))) (v:=t45) (off:=0) (lq rfl) G184 rfl rfl ht45 rfl rfl (by decide)) ?_ ?_
 refine any_n [12] (by kernel_rfl) rfl ?_
 refine xc rfl (m_indexR (en:=eRange) (l:=r3000) (lq rfl) S24 rfl rfl rfl ht49) ?_
 refine any_n [13] (by kernel_rfl) rfl ?_
 refine xc rfl (m_loadEAR (en:=eRange) (l:=r3000) (i:=v9) (v:=t49) (off:=0) (lq rfl) G184 rfl rfl ht49 rfl rfl (by decide)) ?_
 refine any_n [14] (by kernel_rfl) rfl ?_
 refine xc rfl (m_indexR (en:=eRange) (l:=r3000) (lq rfl) S24 rfl rfl rfl ht51) ?_
 refine any_n [15] (by kernel_rfl) rfl ?_
 refine xd rfl (m_storeA (en:=eRange) (l:=r3000) (i:=v9) (v:=t45) G184 rfl rfl rfl rfl hr3000_6x15 rfl) ?_
 refine any_n [16] (by kernel_rfl) rfl ?_
 refine xc rfl (m_indexR (en:=eRange) (l:=r3000_6x15) (lq rfl) S24 rfl rfl rfl ht52) ?_
 refine any_n [17] (by kernel_rfl) rfl ?_
 refine xd rfl (m_storeA (en:=eRange) (l:=r3000_6x15) (i:=(wi (v9 - 1))) (v:=t49) G184 rfl rfl rfl rfl hr3000_6x17 rfl) ?_
 exact any_end rfl (out_mk (weak_cov ⟨rfl,rfl,rfl,rfl,rfl,rfl,trivial⟩ ⟨rfl,trivial⟩))
 refine xc rfl (m_indexR (en:=eRange) (l:=r3000) (lq rfl) S24 rfl rfl rfl ht49) ?_
 refine any_n [9,13] (by kernel_rfl) rfl ?_
 refine any_a (i:=9) rfl rfl (m_loadEAR (en:=eRange) (l:=r3000) (i:=(wi (v9 - 1))) (v:=t45) (off:=0) (lq rfl) G184 rfl rfl ht45 rfl rfl (by decide)) ?_ ?_
 refine any_n [13] (by kernel_rfl) rfl ?_
 refine xc rfl (m_loadEAR (en:=eRange) (l:=r3000) (i:=v9) (v:=t49) (off:=0) (lq rfl) G184 rfl rfl ht49 rfl rfl (by decide)) ?_
 refine any_n [14] (by kernel_rfl) rfl ?_
 refine xc rfl (m_indexR (en:=eRange) (l:=r3000) (lq rfl) S24 rfl rfl rfl ht51) ?_
 refine any_n [15] (by kernel_rfl) rfl ?_
 refine xd rfl (m_storeA (en:=eRange) (l:=r3000) (i:=v9) (v:=t45) G184 rfl rfl rfl rfl hr3000_6x15 rfl) ?_
 refine any_n [16] (by kernel_rfl) rfl ?_
 refine xc rfl (m_indexR (en:=eRange) (l:=r3000_6x15) (lq rfl) S24 rfl rfl rfl ht52) ?_
 refine any_n [17] (by kernel_rfl) rfl ?_
 refine xd rfl (m_storeA (en:=eRange) (l:=r3000_6x15) (i:=(wi (v9 - 1))) (v:=t49) G184 rfl rfl rfl rfl hr3000_6x17 rfl) ?_
 exact any_end rfl (out_mk (weak_cov ⟨rfl,rfl,rfl,rfl,rfl,rfl,trivial⟩ ⟨rfl,trivial⟩))
 refine xc rfl (m_loadEAR (en:=eRange) (l:=r3000) (i:=v9) (v:=t49) (off:=0) (lq rfl) G184 rfl rfl ht49 rfl rfl (by decide)) ?_
 refine any_n [9] (by kernel_rfl) rfl ?_
 refine xc rfl (m_loadEAR (en:=eRange) (l:=r3000) (i:=(wi (v9 - 1))) (v:=t45) (off:=0) (lq rfl) G184 rfl rfl ht45 rfl rfl (by decide)) ?_
 refine any_n [14] (by kernel_rfl) rfl ?_
 refine xc rfl (m_indexR (en:=eRange) (l:=r3000) (lq rfl) S24 rfl rfl rfl ht51) ?_
 refine any_n [15] (by kernel_rfl) rfl ?_
 refine xd rfl (m_storeA (en:=eRange) (l:=r3000) (i:=v9) (v:=t45) G184 rfl rfl rfl rfl hr3000_6x15 rfl) ?_
 refine any_n [16] (by kernel_rfl) rfl ?_
 refine xc rfl (m_indexR (en:=eRange) (l:=r3000_6x15) (lq rfl) S24 rfl rfl rfl ht52) ?_
 refine any_n [17] (by kernel_rfl) rfl ?_
 refine xd rfl (m_storeA (en:=eRange) (l:=r3000_6x15) (i:=(wi (v9 - 1))) (v:=t49) G184 rfl rfl rfl rfl hr3000_6x17 rfl) ?_
 exact any_end rfl (out_mk (weak_cov ⟨rfl,rfl,rfl,rfl,rfl,rfl,trivial⟩ ⟨rfl,trivial⟩))
 refine xc rfl (m_indexR (en:=eRange) (l:=r3000) (lq rfl) S24 rfl rfl rfl ht49) ?_
 refine any_n [8,13] (by kernel_rfl) rfl ?_
 refine any_a (i:=8) rfl rfl (m_indexR (en:=eRange) (l:=r3000) (lq rfl) S24 rfl rfl rfl ht45) ?_ ?_
 refine any_n [9,13] (by kernel_rfl) rfl ?_
 refine any_a (i:=9) rfl rfl (m_loadEAR (en:=eRange) (l:=r3000) (i:=(wi (v9 - 1))) (v:=t45) (off:=0) (lq rfl) G184 rfl rfl ht45 rfl rfl (by decide)) ?_ ?_
 refine any_n [13] (by kernel_rfl) rfl ?_
 refine xc rfl (m_loadEAR (en:=eRange) (l:=r3000) (i:=v9) (v:=t49) (off:=0) (lq rfl) G184 rfl rfl ht49 rfl rfl (by decide)) ?_
 refine any_n [14] (by kernel_rfl) rfl ?_
 refine xc rfl (m_indexR (en:=eRange) (l:=r3000) (lq rfl) S24 rfl rfl rfl ht51) ?_
 refine any_n [15] (by kernel_rfl) rfl ?_
 refine xd rfl (m_storeA (en:=eRange) (l:=r3000) (i:=v9) (v:=t45) G184 rfl rfl rfl rfl hr3000_6x15 rfl) ?_
 refine any_n [16] (by kernel_rfl) rfl ?_
 refine xc rfl (m_indexR (en:=eRange) (l:=r3000_6x15) (lq rfl) S24 rfl rfl rfl ht52) ?_
 refine any_n [17] (by kernel_rfl) rfl ?_
 refine xd rfl (m_storeA (en:=eRange) (l:=r3000_6x15) (i:=(wi (v9 - 1))) (v:=t49) G184 rfl rfl rfl rfl hr3000_6x17 rfl) ?_
 exact any_end rfl (out_mk (weak_cov ⟨rfl,rfl,rfl,rfl,rfl,rfl,trivial⟩ ⟨rfl,trivial⟩))
 refine xc rfl (m_loadEAR (en:=eRange) (l:=r3000) (i:=v9) (v:=t49) (off:=0) (lq rfl) G184 rfl rfl ht49 rfl rfl (by decide)) ?_
 refine any_n [9] (by kernel_rfl) rfl ?_
 refine xc rfl (m_loadEAR (en:=eRange) (l:=r3000) (i:=(wi (v9 - 1))) (v:=t45) (off:=0) (lq rfl) G184 rfl rfl ht45 rfl rfl (by decide)) ?_
 refine any_n [14] (by kernel_rfl) rfl ?_
 refine xc rfl (m_indexR (en:=eRange) (l:=r3000) (lq rfl) S24 rfl rfl rfl ht51) ?_
 refine any_n [15] (by kernel_rfl) rfl ?_
 refine xd rfl (m_storeA (en:=eRange) (l:=r3000) (i:=v9) (v:=t45) G184 rfl rfl rfl rfl hr3000_6x15 rfl) ?_
 refine any_n [16] (by kernel_rfl) rfl ?_
 refine xc rfl (m_indexR (en:=eRange) (l:=r3000_6x15) (lq rfl) S24 rfl rfl rfl ht52) ?_
 refine any_n [17] (by kernel_rfl) rfl ?_
 refine xd rfl (m_storeA (en:=eRange) (l:=r3000_6x15) (i:=(wi (v9 - 1))) (v:=t49) G184 rfl rfl rfl rfl hr3000_6x17 rfl) ?_
 exact any_end rfl (out_mk (weak_cov ⟨rfl,rfl,rfl,rfl,rfl,rfl,trivial⟩ ⟨rfl,trivial⟩))
 refine xc rfl (m_loadEAR (en:=eRange) (l:=r3000) (i:=v9) (v:=t49) (off:=0) (lq rfl) G184 rfl rfl ht49 rfl rfl (by decide)) ?_
 refine any_n [8] (by kernel_rfl) rfl ?_
 refine xc rfl (m_indexR (en:=eRange) (l:=r3000) (lq rfl) S24 rfl rfl rfl ht45) ?_
 refine any_n [9] (by kernel_rfl) rfl ?_
 refine xc rfl (m_loadEAR (en:=eRange) (l:=r3000) (i:=(wi (v9 - 1))) (v:=t45) (off:=0) (lq rfl) G184 rfl rfl ht45 rfl rfl (by decide)) ?_
 refine any_n [14] (by kernel_rfl) rfl ?_
 refine xc rfl (m_indexR (en:=eRange) (l:=r3000) (lq rfl) S24 rfl rfl rfl ht51) ?_
 refine any_n [15] (by kernel_rfl) rfl ?_
 refine xd rfl (m_storeA (en:=eRange) (l:=r3000) (i:=v9) (v:=t45) G184 rfl rfl rfl rfl hr3000_6x15 rfl) ?_
 refine any_n [16] (by kernel_rfl) rfl ?_
 refine xc rfl (m_indexR (en:=eRange) (l:=r3000_6x15) (lq rfl) S24 rfl rfl rfl ht52) ?_
 refine any_n [17] (by kernel_rfl) rfl ?_
 refine xd rfl (m_storeA (en:=eRange) (l:=r3000_6x15) (i:=(wi (v9 - 1))) (v:=t49) G184 rfl rfl rfl rfl hr3000_6x17 rfl) ?_
 exact any_end rfl (out_mk (weak_cov ⟨rfl,rfl,rfl,rfl,rfl,rfl,trivial⟩ ⟨rfl,trivial⟩))
 refine avc_sq ?_
 refine sqa (a_move_d (lq rfl) rfl) ?_
 refine sqa (m_sub (lq rfl) rfl rfl) ?_
 refine sqa (a_assign_d (lq rfl) rfl) ?_
 refine sq_nil ?_
 cases hsy2
 exact weak_cov ⟨rfl,rfl,rfl,rfl,rfl,rfl,trivial⟩ ⟨rfl,trivial⟩
 refine avc_exit ?_
 cases hsy2
 intro q;cases q
 exact out_mk (weak_cov ⟨rfl,rfl,rfl,rfl,rfl,trivial⟩ ⟨rfl,trivial⟩)
 refine avc_sq ?_
 refine sqa (a_move_d (lq rfl) rfl) ?_
 refine sqa (m_add (lq rfl) rfl rfl) ?_
 refine sqa (a_assign_d (lq rfl) rfl) ?_
 refine sq_nil ?_
 cases hsy1
 exact weak_cov ⟨rfl,rfl,rfl,rfl,rfl,trivial⟩ ⟨rfl,trivial⟩
 refine avc_exit ?_
 cases hsy1
 intro q;cases q
 exact out_mk (weak_cov ⟨rfl,trivial⟩ ⟨rfl,trivial⟩)
 cases h
 exact ⟨rfl,⟨rfl,trivial⟩⟩
theorem slices_pdqsortCmpFunc_api_Range_g {fv4:DV} {a0:(List Range)} {a1:Int} {a2:Int} {a3:Int} {a4:Range→Range→Option (Int)} (hf4:∀x0 x1 y,a4 x0 x1=some y→FnC Tryz.prog fv4 [(eRange.dv x0),(eRange.dv x1)] [(di y)]) {r:(List Range)} (h:slices_pdqsortCmpFunc_api_Range a0 a1 a2 a3 a4=some r):GC Tryz.prog 199 [.row 3000,.d (di a1),.d (di a2),.d (di a3),.d fv4] [(3000,.row 184 eRange.size false (eRange.all a0))] [3000] [] [(3000,.row 184 eRange.size false (eRange.all r))]:=by
 refine gc_of Tryz.func199 (by kernel_rfl) rfl (lq rfl) (lq rfl) fun w0 I0 hG0 p0=>?_
 unfold slices_pdqsortCmpFunc_api_Range at h
 refine avc_sq2<|avc_sq ?_
 refine sqa (a_assign_d (lq rfl) rfl) ?_
 refine sq_nil<|avc_sq2<|avc_sq ?_
 refine sqa (a_assign_d (lq rfl) rfl) ?_
 refine sq_nil<|avc_block ?_
 obtain ⟨y1,hy1,h⟩:=bE h
 refine avc_tail (e:= .ret) (S2:=⟨[(0,.row 3000)],[(3000,.row 184 eRange.size false (eRange.all y1))]⟩) ?_ ?_
 refine avc_loopM (fun x=>⟨[(0,.row 3000),(1,.d (di a1)),(2,.d (di a2)),(3,.d (di a3)),(4,.d fv4),(10,.d (db true)),(11,.d (db true))],[(3000,.row 184 eRange.size false (eRange.all a0))]⟩) hy1 (weak_cov ⟨rfl,rfl,rfl,rfl,rfl,rfl,rfl,trivial⟩ ⟨rfl,trivial⟩) ?_
 rintro _ sy1 hsy1
 replace hsy1:slices_pdqsortCmpFunc_api_Range_L0 a2 a1 a0 a4 a3=some sy1:=hsy1
 unfold slices_pdqsortCmpFunc_api_Range_L0 at hsy1
 obtain ⟨y2,hy2,hsy1⟩:=bE hsy1
 refine avc_tail (e:= .ret) (S2:=⟨[(0,.row 3000)],[(3000,.row 184 eRange.size false (eRange.all y2))]⟩) ?_ ?_
 refine avc_block<|avc_sq2<|avc_sq ?_
 refine sqa (a_move_d (lq rfl) rfl) ?_
 refine sqa (a_move_d (lq rfl) rfl) ?_
 refine sqa (m_sub (lq rfl) rfl rfl) ?_
 refine sqa (a_assign_d (lq rfl) rfl) ?_
 refine sq_nil<|avc_sq2<|avc_sq2<|avc_sq ?_
 refine sqa (a_move_d (lq rfl) rfl) ?_
 refine sqa (a_leq (lq rfl) rfl rfl) ?_
 refine sq_nil ?_
 refine ifM rfl hy2 (fun _ hy2=>?_) (fun _ hy2=>?_)
 refine avc_sq2<|avc_sq ?_
 refine sqa (a_move_row (lq rfl) rfl) ?_
 refine sqa (a_move_d (lq rfl) rfl) ?_
 refine sqa (a_move_d (lq rfl) rfl) ?_
 refine sqa (a_move_d (lq rfl) rfl) ?_
 obtain ⟨t30,ht30,hy2⟩:=bE hy2
 refine sq_b rfl (g_callN [(3000,3000)] (slices_insertionSortCmpFunc_api_Range_g hf4 ht30) (lq rfl) (by decide) ⟨rfl,rfl,rfl,rfl,trivial⟩ rfl rfl ⟨rfl,trivial⟩ rfl rfl rfl rfl) ?_
 refine sq_nil ?_
 refine avc_ret ?_
 cases hy2
 exact out_mk (weak_cov ⟨rfl,trivial⟩ ⟨rfl,trivial⟩)
 refine avc_skip<|avc_sq2<|avc_sq2<|avc_sq ?_
 refine sqa (a_move_d (lq rfl) rfl) ?_
 refine sqa (a_eql (lq rfl) rfl rfl) ?_
 refine sq_nil ?_
 refine ifM rfl hy2 (fun _ hy2=>?_) (fun _ hy2=>?_)
 refine avc_sq2<|avc_sq ?_
 refine sqa (a_move_row (lq rfl) rfl) ?_
 refine sqa (a_move_d (lq rfl) rfl) ?_
 refine sqa (a_move_d (lq rfl) rfl) ?_
 refine sqa (a_move_d (lq rfl) rfl) ?_
 cases hy2
 refine avc_skip<|avc_sq2<|avc_sq2<|avc_sq ?_
 refine sqa (a_move_d (lq rfl) rfl) ?_
 refine sqa (a_not (lq rfl) rfl) ?_
 refine sq_nil ?_
 obtain ⟨y3,hy3,hy2⟩:=bE hy2
 refine avc_tail (e:= .normal) (S2:=⟨[(0,.row 3000),(1,.d (di a1)),(2,.d (di a2)),(3,.d (di a3)),(4,.d fv4),(10,.d (db true)),(11,.d (db true)),(12,.d (di (wi (a2 - a1))))],[(3000,.row 184 eRange.size false (eRange.all a0))]⟩) ?_ ?_
 refine ifM rfl hy3 (fun _ hy3=>?_) (fun _ hy3=>?_)
 refine avc_sq2<|avc_sq ?_
 refine sqa (a_move_row (lq rfl) rfl) ?_
 refine sqa (a_move_d (lq rfl) rfl) ?_
 refine sqa (a_move_d (lq rfl) rfl) ?_
 refine sqa (a_move_d (lq rfl) rfl) ?_
 cases hy3
 refine avc_skip ?_
 cases hy3
 exact out_mk (weak_cov ⟨rfl,rfl,rfl,rfl,rfl,rfl,rfl,rfl,trivial⟩ ⟨rfl,trivial⟩)
 refine avc_sq2<|avc_sq ?_
 refine sqa (a_move_row (lq rfl) rfl) ?_
 refine sqa (a_move_d (lq rfl) rfl) ?_
 refine sqa (a_move_d (lq rfl) rfl) ?_
 refine sqa (a_move_d (lq rfl) rfl) ?_
 cases hy2
 cases hsy1
 intro q;cases q
 exact out_mk (weak_cov ⟨rfl,trivial⟩ ⟨rfl,trivial⟩)
 cases h
 exact ⟨rfl,⟨rfl,trivial⟩⟩
theorem slices_SortFunc_api_Range_api_Range_g {fv1:DV} {a0:(List Range)} {a1:Range→Range→Option (Int)} (hf1:∀x0 x1 y,a1 x0 x1=some y→FnC Tryz.prog fv1 [(eRange.dv x0),(eRange.dv x1)] [(di y)]) {r:(List Range)} (h:slices_SortFunc_api_Range_api_Range a0 a1=some r):GC Tryz.prog 184 [.row 3000,.d fv1] [(3000,.row 184 eRange.size false (eRange.all a0))] [3000] [] [(3000,.row 184 eRange.size false (eRange.all r))]:=by
 refine gc_of Tryz.func184 (by kernel_rfl) rfl (lq rfl) (lq rfl) fun w0 I0 hG0 p0=>?_
 unfold slices_SortFunc_api_Range_api_Range at h
 refine avc_sq2<|avc_sq ?_
 refine sqa (a_move_row (lq rfl) rfl) ?_
 refine sqa (m_lenR (en:=eRange) (l:=a0) (lq rfl) S24 rfl rfl) ?_
 refine sqa (a_assign_d (lq rfl) rfl) ?_
 refine sq_nil<|avc_sq ?_
 refine sqa (a_move_row (lq rfl) rfl) ?_
 refine sqa (a_move_d (lq rfl) rfl) ?_
 refine sqa (a_move_d (lq rfl) rfl) ?_
 refine sqa (m_conv (lq rfl) Tryz.underlying3 Tryz.underlying94 rfl) ?_
 obtain ⟨t11,ht11,h⟩:=bE h
 refine sqa (a_call (lq rfl) rfl (math_bits_Len_c ht11)) ?_
 refine sqa (a_move_d (lq rfl) rfl) ?_
 obtain ⟨t13,ht13,h⟩:=bE h
 refine sq_b rfl (g_callN [(3000,3000)] (slices_pdqsortCmpFunc_api_Range_g hf1 ht13) (lq rfl) (by decide) ⟨rfl,rfl,rfl,rfl,rfl,trivial⟩ rfl rfl ⟨rfl,trivial⟩ rfl rfl rfl rfl) ?_
 refine sq_nil ?_
 cases h
 exact ⟨rfl,⟨rfl,trivial⟩⟩
theorem cpset_Make_1_c {a0} {a1} {r} (h:cpset_Make_1 a0 a1=some r):Contract Tryz.prog 185 [(eRange.dv a0),(eRange.dv a1)] [(di r)]:=by
 refine contract_of Tryz.func185 (by kernel_rfl) rfl (lq rfl) (lq rfl) fun w0 I0 hI0 hG0=>?_
 unfold cpset_Make_1 at h
 refine avc_sq2<|avc_sq ?_
 refine sqa (m_box (size:=2) (lq rfl) rfl rfl) ?_
 refine sqa (m_box (size:=2) (lq rfl) rfl rfl) ?_
 refine sqa (a_assign_d (lq rfl) rfl) ?_
 refine sq_nil<|avc_sq2 ?_
 refine avc_drawA MX rfl ?_
 refine daa (m_fieldPt (lq rfl) L184_0 rfl) ?_
 refine daa (a_load_ip (lq rfl) O3 rfl rfl) ?_
 refine daa (m_fieldPt (lq rfl) L184_0 rfl) ?_
 refine daa (a_load_ip (lq rfl) O3 rfl rfl) ?_
 obtain ⟨t9,ht9,h⟩:=bE h
 refine daa (a_call (lq rfl) rfl (cmp_Compare_int_c ht9)) ?_
 refine daa (m_fieldPt (lq rfl) L184_1 rfl) ?_
 refine daa (a_load_ip (lq rfl) O3 rfl rfl) ?_
 refine daa (m_fieldPt (lq rfl) L184_1 rfl) ?_
 refine daa (a_load_ip (lq rfl) O3 rfl rfl) ?_
 obtain ⟨t14,ht14,h⟩:=bE h
 refine daa (a_call (lq rfl) rfl (cmp_Compare_int_c ht14)) ?_
 refine daa (a_lit (lq rfl) S37 rfl rfl rfl rfl (by decide) rfl) ?_
 obtain ⟨t16,ht16,h⟩:=bE h
 refine daa (a_call (lq rfl) rfl (cmp_Or_int_c ht16)) ?_
 refine daa (a_assign_d (lq rfl) rfl) ?_
 refine da_nil ?_
 cases h
 refine avc_ret ?_
 exact ret_1 rfl
theorem cpset_Make_c {a0} {r} (h:cpset_Make a0=some r):Contract Tryz.prog 160 [(dsl eRange a0)] [(eSet.dv r)]:=by
 refine contract_of Tryz.func160 (by kernel_rfl) rfl (lq rfl) (lq rfl) fun w0 I0 hI0 hG0=>?_
 unfold cpset_Make at h
 refine avc_sq2<|avc_sq ?_
 refine sq_b rfl (step_alloc (zs:=[(.slice none 0 0)]) (lq rfl) (by kernel_rfl) rfl rfl) ?_
 refine sq_nil<|avc_sq2<|avc_sq ?_
 refine sqa (a_assign_d (lq rfl) rfl) ?_
 refine sq_nil ?_
 refine avc_weak (weak_nil (t:=3) 1003 184 eRange.size (lq rfl) (lq rfl) rfl rfl) ?_
 refine avc_sq2<|avc_sq2<|avc_sq ?_
 refine sqa (a_move_d (lq rfl) rfl) ?_
 refine sqa (m_len (en:=eRange) (l:=a0) (lq rfl) S24 rfl) ?_
 refine sqa (a_move_d (lq rfl) rfl) ?_
 refine sq_nil<|avc_block ?_
 obtain ⟨y1,hy1,h⟩:=bE h
 refine avc_tail (e:=(.exit 0)) (S2:=⟨[(2,.ptr 2 0),(3,.row 1003)],[(2,.box 26 [.d (.v (.slice none 0 0))]),(1003,.row 184 eRange.size false (eRange.all y1))]⟩) ?_ ?_
 refine avc_loopM (fun x=>⟨[(2,.ptr 2 0),(3,.row 1003),(11,.d (dsl eRange a0)),(12,.d (di (a0.length:Int))),(13,.d (di x.1))],[(2,.box 26 [.d (.v (.slice none 0 0))]),(1003,.row 184 eRange.size false (eRange.all x.2))]⟩) hy1 (weak_cov ⟨rfl,rfl,rfl,rfl,rfl,trivial⟩ ⟨rfl,rfl,trivial⟩) ?_
 rintro ⟨v13,r1003⟩ sy1 hsy1
 replace hsy1:cpset_Make_L0 a0 v13 r1003=some sy1:=hsy1
 unfold cpset_Make_L0 at hsy1
 refine avc_sq2<|avc_sq ?_
 refine sqa (a_lss (lq rfl) rfl rfl) ?_
 refine sq_nil<|avc_sq2 ?_
 refine ifM rfl hsy1 (fun _ hsy1=>?_) (fun _ hsy1=>?_)
 refine avc_skip<|avc_sq2 ?_
 obtain ⟨y2,hy2,hsy1⟩:=bE hsy1
 refine avc_tail (e:= .normal) (S2:=⟨[(2,.ptr 2 0),(3,.row 1003),(11,.d (dsl eRange a0)),(12,.d (di (a0.length:Int))),(13,.d (di v13))],[(2,.box 26 [.d (.v (.slice none 0 0))]),(1003,.row 184 eRange.size false (eRange.all y2))]⟩) ?_ ?_
 refine avc_block<|avc_sq2<|avc_sq ?_
 obtain ⟨t15,ht15,hy2⟩:=bE hy2
 refine sqa (m_index (en:=eRange) (lq rfl) S24 rfl rfl ht15) ?_
 refine sqa (m_loadEA (en:=eRange) (l:=a0) (i:=v13) (v:=t15) (off:=0) (lq rfl) G184 rfl ht15 rfl rfl (by decide)) ?_
 refine sq_b rfl (step_alloc (zs:=[(.int IntKind.i64 (0)),(.int IntKind.i64 (0))]) (lq rfl) (by kernel_rfl) rfl rfl) ?_
 refine sq_b rfl (s_store_boxA G184 rfl rfl rfl rfl rfl rfl) ?_
 refine sq_nil ?_
 refine avc_weak (weak_freeze (t:=5) (lq rfl) rfl rfl rfl) ?_
 refine avc_sq2<|avc_sq ?_
 refine sqa (m_fieldPt (lq rfl) L184_0 rfl) ?_
 refine sqa (a_load_ip (lq rfl) O3 rfl rfl) ?_
 refine sqa (a_max (lq rfl) rfl rfl) ?_
 refine sqa (m_fieldPt (lq rfl) L184_1 rfl) ?_
 refine sqa (a_load_ip (lq rfl) O3 rfl rfl) ?_
 refine sqa (a_min (lq rfl) rfl rfl) ?_
 refine sqa (m_build (lq rfl) B184 rfl rfl) ?_
 refine sq_b rfl (step_alloc (zs:=[(.int IntKind.i64 (0)),(.int IntKind.i64 (0))]) (lq rfl) (by kernel_rfl) rfl rfl) ?_
 refine sq_b rfl (s_store_boxA G184 rfl rfl rfl rfl rfl rfl) ?_
 refine sq_nil ?_
 refine avc_weak (weak_freeze (t:=6) (lq rfl) rfl rfl rfl) ?_
 refine avc_sq2<|avc_sq ?_
 refine sqa (m_fieldPt (lq rfl) L184_0 rfl) ?_
 refine sqa (a_load_ip (lq rfl) O3 rfl rfl) ?_
 refine sqa (m_fieldPt (lq rfl) L184_1 rfl) ?_
 refine sqa (a_load_ip (lq rfl) O3 rfl rfl) ?_
 refine sqa (a_leq (lq rfl) rfl rfl) ?_
 refine sq_nil ?_
 refine ifM rfl hy2 (fun _ hy2=>?_) (fun _ hy2=>?_)
 refine avc_sq ?_
 refine sqa (a_move_row (lq rfl) rfl) ?_
 refine sqa (m_loadPt (lq rfl) G184 rfl rfl) ?_
 refine sqa (a_lit (lq rfl) S24 rfl rfl rfl rfl (by decide) rfl) ?_
 obtain ⟨r1003_3,hr1003_3,hy2⟩:=bE hy2
 refine sq_b rfl (m_append (en:=eRange) (l:=r1003) (m:=[({Lo:=max t15.Lo 0,Hi:=min t15.Hi 1114111}:Range)]) (lq rfl) S24 rfl rfl rfl hr1003_3 (by decide) (by decide) rfl rfl) ?_
 refine sqa (a_assign_row (lq rfl) rfl) ?_
 refine sq_nil ?_
 cases hy2
 exact out_mk (weak_cov ⟨rfl,rfl,rfl,rfl,rfl,trivial⟩ ⟨rfl,rfl,trivial⟩)
 refine avc_skip ?_
 cases hy2
 exact out_mk (weak_cov ⟨rfl,rfl,rfl,rfl,rfl,trivial⟩ ⟨rfl,rfl,trivial⟩)
 refine avc_sq ?_
 refine sqa (m_add (lq rfl) rfl rfl) ?_
 refine sqa (a_move_d (lq rfl) rfl) ?_
 refine sq_nil ?_
 cases hsy1
 exact weak_cov ⟨rfl,rfl,rfl,rfl,rfl,trivial⟩ ⟨rfl,rfl,trivial⟩
 refine avc_exit ?_
 cases hsy1
 intro q;cases q
 exact out_mk (weak_cov ⟨rfl,rfl,trivial⟩ ⟨rfl,rfl,trivial⟩)
 refine avc_sq2<|avc_sq ?_
 refine sqa (a_move_row (lq rfl) rfl) ?_
 obtain ⟨t35,ht35,h⟩:=bE h
 refine sq_b rfl (g_call [(3000,1003)] (slices_SortFunc_api_Range_api_Range_g (fun _ _ _ q=> .inr ⟨_,rfl,cpset_Make_1_c q⟩) ht35) (lq rfl) (by decide) ⟨rfl,rfl,trivial⟩ rfl rfl ⟨rfl,trivial⟩ rfl rfl rfl (fun _=>rfl) rfl) ?_
 refine sq_nil<|avc_sq2<|avc_sq ?_
 refine sqa (a_assign_d (lq rfl) rfl) ?_
 refine sq_nil ?_
 refine avc_weak (weak_nil (t:=7) 1007 184 eRange.size (lq rfl) (lq rfl) rfl rfl) ?_
 refine avc_sq2<|avc_sq2<|avc_sq ?_
 refine sqa (a_move_row (lq rfl) rfl) ?_
 refine sqa (m_lenR (en:=eRange) (l:=t35) (lq rfl) S24 rfl rfl) ?_
 refine sqa (a_move_d (lq rfl) rfl) ?_
 refine sq_nil<|avc_block ?_
 obtain ⟨y4,hy4,h⟩:=bE h
 refine avc_tail (e:=(.exit 2)) (S2:=⟨[(2,.ptr 2 0),(7,.row 1007)],[(2,.box 26 [.d (.v (.slice none 0 0))]),(1007,.row 184 eRange.size false (eRange.all y4))]⟩) ?_ ?_
 refine avc_loopM (fun x=>⟨[(2,.ptr 2 0),(7,.row 1007),(36,.row 1003),(37,.d (di (t35.length:Int))),(38,.d (di x.1))],[(2,.box 26 [.d (.v (.slice none 0 0))]),(1003,.row 184 eRange.size false (eRange.all t35)),(1007,.row 184 eRange.size false (eRange.all x.2))]⟩) hy4 (weak_cov ⟨rfl,rfl,rfl,rfl,rfl,trivial⟩ ⟨rfl,rfl,rfl,trivial⟩) ?_
 rintro ⟨v38,r1007⟩ sy4 hsy4
 replace hsy4:cpset_Make_L1 t35 v38 r1007=some sy4:=hsy4
 unfold cpset_Make_L1 at hsy4
 refine avc_sq2<|avc_sq ?_
 refine sqa (a_lss (lq rfl) rfl rfl) ?_
 refine sq_nil<|avc_sq2 ?_
 refine ifM rfl hsy4 (fun _ hsy4=>?_) (fun _ hsy4=>?_)
 refine avc_skip<|avc_sq2 ?_
 obtain ⟨y5,hy5,hsy4⟩:=bE hsy4
 refine avc_tail (e:= .normal) (S2:=⟨[(2,.ptr 2 0),(7,.row 1007),(36,.row 1003),(37,.d (di (t35.length:Int))),(38,.d (di v38))],[(2,.box 26 [.d (.v (.slice none 0 0))]),(1003,.row 184 eRange.size false (eRange.all t35)),(1007,.row 184 eRange.size false (eRange.all y5))]⟩) ?_ ?_
 refine avc_block<|avc_sq2<|avc_sq ?_
 obtain ⟨t40,ht40,hy5⟩:=bE hy5
 refine sqa (m_indexR (en:=eRange) (l:=t35) (lq rfl) S24 rfl rfl rfl ht40) ?_
 refine sqa (m_loadEAR (en:=eRange) (l:=t35) (i:=v38) (v:=t40) (off:=0) (lq rfl) G184 rfl rfl ht40 rfl rfl (by decide)) ?_
 refine sq_b rfl (step_alloc (zs:=[(.int IntKind.i64 (0)),(.int IntKind.i64 (0))]) (lq rfl) (by kernel_rfl) rfl rfl) ?_
 refine sq_b rfl (s_store_boxA G184 rfl rfl rfl rfl rfl rfl) ?_
 refine sq_nil ?_
 refine avc_weak (weak_freeze (t:=9) (lq rfl) rfl rfl rfl) ?_
 refine avc_sq2<|avc_sq2<|avc_sq ?_
 refine sqa (a_move_row (lq rfl) rfl) ?_
 refine sqa (m_lenR (en:=eRange) (l:=r1007) (lq rfl) S24 rfl rfl) ?_
 refine sqa (a_assign_d (lq rfl) rfl) ?_
 refine sq_nil<|avc_sq2 ?_
 refine avc_drawA MX rfl ?_
 refine daa (a_move_d (lq rfl) rfl) ?_
 refine daa (a_gtr (lq rfl) rfl rfl) ?_
 obtain ⟨b46,hb46,hy5⟩:=bE hy5
 refine daa ((a_move_d (lq rfl) rfl).bool (Option.some.inj hb46)) ?_
 refine da_g (x:= .ip (eRange.cells t40) (0+0)) rfl rfl rfl (lq rfl) (lq rfl) rfl (fun hb=>by obtain rfl:b46=true:=hb;exact m_fieldPt (lq rfl) L184_0 rfl) ?_
 refine da_g (x:= .d (di t40.Lo)) rfl rfl rfl (lq rfl) (lq rfl) rfl (fun hb=>by obtain rfl:b46=true:=hb;exact a_load_ip (lq rfl) O3 rfl rfl) ?_
 refine da_g (x:= .row 1007) rfl rfl rfl (lq rfl) (lq rfl) rfl (fun hb=>by obtain rfl:b46=true:=hb;exact a_move_row (lq rfl) rfl) ?_
 refine da_g (x:= .d (di (r1007.length:Int))) rfl rfl rfl (lq rfl) (lq rfl) rfl (fun hb=>by obtain rfl:b46=true:=hb;exact a_move_d (lq rfl) rfl) ?_
 refine da_g (x:= .d (di (wi ((r1007.length:Int) - 1)))) rfl rfl rfl (lq rfl) (lq rfl) rfl (fun hb=>by obtain rfl:b46=true:=hb;exact m_sub (lq rfl) rfl rfl) ?_
 obtain ⟨t52,ht52,hy5⟩:=bE hy5
 refine da_g (x:= .ptr 1007 ((wi ((r1007.length:Int) - 1)).toNat*eRange.size)) rfl rfl rfl (lq rfl) (lq rfl) rfl (fun hb=>by obtain rfl:b46=true:=hb;exact m_indexR (en:=eRange) (l:=r1007) (lq rfl) S24 rfl rfl rfl ht52) ?_
 refine da_g (x:= .ptr 1007 ((wi ((r1007.length:Int) - 1)).toNat*eRange.size+1)) rfl rfl rfl (lq rfl) (lq rfl) rfl (fun hb=>by obtain rfl:b46=true:=hb;exact a_fieldAddr_ptr (lq rfl) L184_1 rfl) ?_
 refine da_g (x:= .d (di t52.Hi)) rfl rfl rfl (lq rfl) (lq rfl) rfl (fun hb=>by obtain rfl:b46=true:=hb;exact m_loadER (en:=eRange) (l:=r1007) (i:=(wi ((r1007.length:Int) - 1))) (v:=t52) (off:=1) (lq rfl) O3 rfl rfl ht52 rfl) ?_
 refine da_g (x:= .d (di (wi (t52.Hi+1)))) rfl rfl rfl (lq rfl) (lq rfl) rfl (fun hb=>by obtain rfl:b46=true:=hb;exact m_add (lq rfl) rfl rfl) ?_
 refine da_g (x:= .d (db (decide (t40.Lo≤(wi (t52.Hi+1)))))) rfl rfl rfl (lq rfl) (lq rfl) rfl (fun hb=>by obtain rfl:b46=true:=hb;exact a_leq (lq rfl) rfl rfl) ?_
 refine daa (a_pick_and (lq rfl) rfl rfl) ?_
 refine da_nil ?_
 refine ifM rfl hy5 (fun _ hy5=>?_) (fun _ hy5=>?_)
 refine avc_sq2 ?_
 refine avc_draw 14 MX rfl ?_
 refine daa (a_move_row (lq rfl) rfl) ?_
 refine daa (a_move_d (lq rfl) rfl) ?_
 refine daa (m_sub (lq rfl) rfl rfl) ?_
 refine daa (a_move_row (lq rfl) rfl) ?_
 refine daa (a_move_d (lq rfl) rfl) ?_
 refine daa (m_sub (lq rfl) rfl rfl) ?_
 obtain ⟨t64,ht64,hy5⟩:=bE hy5
 refine daa (m_indexR (en:=eRange) (l:=r1007) (lq rfl) S24 rfl rfl rfl ht64) ?_
 refine daa (a_fieldAddr_ptr (lq rfl) L184_1 rfl) ?_
 refine daa (m_loadER (en:=eRange) (l:=r1007) (i:=(wi ((r1007.length:Int) - 1))) (v:=t64) (off:=1) (lq rfl) O3 rfl rfl ht64 rfl) ?_
 refine daa (m_fieldPt (lq rfl) L184_1 rfl) ?_
 refine daa (a_load_ip (lq rfl) O3 rfl rfl) ?_
 refine daa (a_max (lq rfl) rfl rfl) ?_
 obtain ⟨t70,ht70,hy5⟩:=bE hy5
 refine daa (m_indexR (en:=eRange) (l:=r1007) (lq rfl) S24 rfl rfl rfl ht70) ?_
 refine daa (a_fieldAddr_ptr (lq rfl) L184_1 rfl) ?_
 refine da_nil ?_
 obtain ⟨r1007_6,hr1007_6,hy5⟩:=bE hy5
 refine sq_b rfl (m_store (en:=eRange) (l:=r1007) (i:=(wi ((r1007.length:Int) - 1))) (v:=t70) (off:=1) O3 rfl rfl rfl ht70 rfl (by decide) hr1007_6 rfl rfl) ?_
 refine sq_nil ?_
 refine avc_exit ?_
 cases hy5
 exact out_mk (weak_cov ⟨rfl,rfl,rfl,rfl,rfl,trivial⟩ ⟨rfl,rfl,rfl,trivial⟩)
 refine avc_skip<|avc_sq ?_
 refine sqa (a_move_row (lq rfl) rfl) ?_
 refine sqa (m_loadPt (lq rfl) G184 rfl rfl) ?_
 refine sqa (a_lit (lq rfl) S24 rfl rfl rfl rfl (by decide) rfl) ?_
 obtain ⟨r1007_7,hr1007_7,hy5⟩:=bE hy5
 refine sq_b rfl (m_append (en:=eRange) (l:=r1007) (m:=[t40]) (lq rfl) S24 rfl rfl rfl hr1007_7 (by decide) (by decide) rfl rfl) ?_
 refine sqa (a_assign_row (lq rfl) rfl) ?_
 refine sq_nil ?_
 cases hy5
 exact out_mk (weak_cov ⟨rfl,rfl,rfl,rfl,rfl,trivial⟩ ⟨rfl,rfl,rfl,trivial⟩)
 refine avc_sq ?_
 refine sqa (m_add (lq rfl) rfl rfl) ?_
 refine sqa (a_move_d (lq rfl) rfl) ?_
 refine sq_nil ?_
 cases hsy4
 exact weak_cov ⟨rfl,rfl,rfl,rfl,rfl,trivial⟩ ⟨rfl,rfl,rfl,trivial⟩
 refine avc_exit ?_
 cases hsy4
 intro q;cases q
 exact out_mk (weak_cov ⟨rfl,rfl,trivial⟩ ⟨rfl,rfl,trivial⟩)
 refine avc_sq2<|avc_sq ?_
 refine sqa (a_move_row (lq rfl) rfl) ?_
 refine sq_weak (weak_row_d (t:=77) (lq rfl) rfl rfl) ?_ (by simp)
 refine sqa (m_build (lq rfl) B26 rfl rfl) ?_
 refine sq_b rfl (s_store_boxA G26 rfl rfl rfl rfl rfl rfl) ?_
 refine sq_nil ?_
 cases h
 refine avc_ret ?_
 exact ret_cellA rfl rfl G26 rfl
theorem cpset_Valid_c {a0} {r} (h:cpset_Valid a0=some r):Contract Tryz.prog 114 [(eSet.dv a0)] [(db r)]:=by
 refine contract_of Tryz.func114 (by kernel_rfl) rfl (lq rfl) (lq rfl) fun w0 I0 hI0 hG0=>?_
 unfold cpset_Valid at h
 refine avc_sq2<|avc_sq ?_
 refine sqa (m_box (size:=1) (lq rfl) rfl rfl) ?_
 refine sqa (a_assign_d (lq rfl) rfl) ?_
 refine sq_nil<|avc_sq2<|avc_sq ?_
 refine sqa (m_fieldPt (lq rfl) L26_0 rfl) ?_
 refine sqa (a_load_ip (lq rfl) O24 rfl rfl) ?_
 obtain ⟨t8,ht8,h⟩:=bE h
 refine sqa (a_call (lq rfl) rfl (cpset_Make_c ht8)) ?_
 refine sq_b rfl (step_alloc (zs:=[(.slice none 0 0)]) (lq rfl) (by kernel_rfl) rfl rfl) ?_
 refine sq_b rfl (s_store_boxA G26 rfl rfl rfl rfl rfl rfl) ?_
 refine sq_nil ?_
 refine avc_weak (weak_freeze (t:=3) (lq rfl) rfl rfl rfl) ?_
 refine avc_sq2<|avc_sq2<|avc_sq ?_
 refine sqa (m_fieldPt (lq rfl) L26_0 rfl) ?_
 refine sqa (a_load_ip (lq rfl) O24 rfl rfl) ?_
 refine sqa (m_len (en:=eRange) (l:=t8.Ranges) (lq rfl) S24 rfl) ?_
 refine sqa (m_fieldPt (lq rfl) L26_0 rfl) ?_
 refine sqa (a_load_ip (lq rfl) O24 rfl rfl) ?_
 refine sqa (m_len (en:=eRange) (l:=a0.Ranges) (lq rfl) S24 rfl) ?_
 refine sqa (a_neq (lq rfl) rfl rfl) ?_
 refine sq_nil ?_
 refine ifM rfl h (fun _ h=>?_) (fun _ h=>?_)
 refine avc_sq2<|avc_sq ?_
 refine sqa (a_assign_d (lq rfl) rfl) ?_
 refine sq_nil ?_
 cases h
 refine avc_ret ?_
 exact ret_1 rfl
 refine avc_skip<|avc_sq2<|avc_sq2<|avc_sq ?_
 refine sqa (m_fieldPt (lq rfl) L26_0 rfl) ?_
 refine sqa (a_load_ip (lq rfl) O24 rfl rfl) ?_
 refine sqa (m_len (en:=eRange) (l:=t8.Ranges) (lq rfl) S24 rfl) ?_
 refine sqa (a_move_d (lq rfl) rfl) ?_
 refine sq_nil<|avc_block ?_
 obtain ⟨y1,hy1,h⟩:=bE h
 refine avc_tail2 y1 (.exit 0) (fun y1=>⟨[],[]⟩) .ret (fun y1=>⟨[(2,.d (db y1))],[]⟩) ?_ ?_ ?_
 refine avc_loopM (fun x=>⟨[(1,.d (.pt (eSet.cells a0))),(17,.d (dsl eRange t8.Ranges)),(18,.d (di (t8.Ranges.length:Int))),(19,.d (di x))],[]⟩) hy1 (weak_cov ⟨rfl,rfl,rfl,rfl,trivial⟩ trivial) ?_
 rintro v19 sy1 hsy1
 replace hsy1:cpset_Valid_L0 t8 a0 v19=some sy1:=hsy1
 unfold cpset_Valid_L0 at hsy1
 refine avc_sq2<|avc_sq ?_
 refine sqa (a_lss (lq rfl) rfl rfl) ?_
 refine sq_nil<|avc_sq2 ?_
 refine ifM rfl hsy1 (fun _ hsy1=>?_) (fun _ hsy1=>?_)
 refine avc_skip<|avc_sq2<|avc_block<|avc_sq2<|avc_sq ?_
 refine sqa (a_move_d (lq rfl) rfl) ?_
 obtain ⟨t22,ht22,hsy1⟩:=bE hsy1
 refine sqa (m_index (en:=eRange) (lq rfl) S24 rfl rfl ht22) ?_
 refine sqa (m_loadEA (en:=eRange) (l:=t8.Ranges) (i:=v19) (v:=t22) (off:=0) (lq rfl) G184 rfl ht22 rfl rfl (by decide)) ?_
 refine sq_b rfl (step_alloc (zs:=[(.int IntKind.i64 (0)),(.int IntKind.i64 (0))]) (lq rfl) (by kernel_rfl) rfl rfl) ?_
 refine sqa (a_assign_d (lq rfl) rfl) ?_
 refine sq_b rfl (s_store_boxA G184 rfl rfl rfl rfl rfl rfl) ?_
 refine sq_nil ?_
 refine avc_weak (weak_freeze (t:=5) (lq rfl) rfl rfl rfl) ?_
 refine avc_sq2 ?_
 refine avc_drawA MX rfl ?_
 refine daa (m_loadPt (lq rfl) G184 rfl rfl) ?_
 refine daa (m_fieldPt (lq rfl) L26_0 rfl) ?_
 refine daa (a_load_ip (lq rfl) O24 rfl rfl) ?_
 refine daa (a_move_d (lq rfl) rfl) ?_
 obtain ⟨t28,ht28,hsy1⟩:=bE hsy1
 refine daa (m_index (en:=eRange) (lq rfl) S24 rfl rfl ht28) ?_
 refine daa (m_loadEA (en:=eRange) (l:=a0.Ranges) (i:=v19) (v:=t28) (off:=0) (lq rfl) G184 rfl ht28 rfl rfl (by decide)) ?_
 refine daa (m_stneq (en:=eRange) (a:=t22) (b:=t28) (lq rfl) E184 rfl rfl) ?_
 refine da_nil ?_
 refine ifM rfl hsy1 (fun _ hsy1=>?_) (fun _ hsy1=>?_)
 refine avc_sq2<|avc_sq ?_
 refine sqa (a_assign_d (lq rfl) rfl) ?_
 refine sq_nil ?_
 refine avc_ret ?_
 cases hsy1
 intro q;cases q
 exact ⟨rfl,weak_cov ⟨rfl,trivial⟩ trivial⟩
 refine avc_skip<|avc_sq ?_
 refine sqa (m_add (lq rfl) rfl rfl) ?_
 refine sqa (a_move_d (lq rfl) rfl) ?_
 refine sq_nil ?_
 cases hsy1
 exact weak_cov ⟨rfl,rfl,rfl,rfl,trivial⟩ trivial
 refine avc_exit ?_
 cases hsy1
 intro q;cases q
 exact ⟨rfl,weak_cov trivial trivial⟩
 rintro y1 rfl
 replace h:=eL h
 refine avc_sq2<|avc_sq ?_
 refine sqa (a_assign_d (lq rfl) rfl) ?_
 refine sq_nil ?_
 cases h
 refine avc_ret ?_
 exact ret_1 rfl
 rintro y1 rfl
 replace h:=eR h
 cases h
 exact ret_1 rfl
theorem casemap_Check_c {a0} {r} (h:casemap_Check a0=some r):Contract Tryz.prog 79 [(eCase.dv a0)] [(di r)]:=by
 refine contract_of Tryz.func79 (by kernel_rfl) rfl (lq rfl) (lq rfl) fun w0 I0 hI0 hG0=>?_
 unfold casemap_Check at h
 refine avc_sq2<|avc_sq ?_
 refine sqa (m_box (size:=6) (lq rfl) rfl rfl) ?_
 refine sqa (a_assign_d (lq rfl) rfl) ?_
 refine sq_nil<|avc_sq2<|avc_sq ?_
 refine sqa (m_fieldPt (lq rfl) L45_0 rfl) ?_
 refine sqa (a_load_ip (lq rfl) O23 rfl rfl) ?_
 refine sqa (m_fieldPt (lq rfl) L45_1 rfl) ?_
 refine sqa (a_load_ip (lq rfl) O23 rfl rfl) ?_
 refine sqa (m_fieldPt (lq rfl) L45_2 rfl) ?_
 refine sqa (a_load_ip (lq rfl) O23 rfl rfl) ?_
 refine sqa (m_fieldPt (lq rfl) L45_3 rfl) ?_
 refine sqa (a_load_ip (lq rfl) O23 rfl rfl) ?_
 refine sqa (m_abuild (lq rfl) A150 rfl rfl) ?_
 refine sq_b rfl (step_alloc (zs:=[(.slice none 0 0),(.slice none 0 0),(.slice none 0 0),(.slice none 0 0)]) (lq rfl) (by kernel_rfl) rfl rfl) ?_
 refine sq_b rfl (s_store_boxA G150 rfl rfl rfl rfl rfl rfl) ?_
 refine sq_nil ?_
 refine avc_weak (weak_freeze (t:=3) (lq rfl) rfl rfl rfl) ?_
 refine avc_sq2<|avc_sq2<|avc_sq ?_
 refine sqa (m_loadPt (lq rfl) G150 rfl rfl) ?_
 refine sqa (a_move_d (lq rfl) rfl) ?_
 refine sq_nil<|avc_block ?_
 obtain ⟨y1,hy1,h⟩:=bE h
 refine avc_tail2 y1 (.exit 0) (fun y1=>⟨[(1,.d (.pt (eCase.cells a0))),(3,.d (.pt (eA4ListMapping.cells ({x0:=a0.Lower,x1:=a0.Upper,x2:=a0.Title,x3:=a0.Fold}:A4ListMapping))))],[]⟩) .ret (fun y1=>⟨[(2,.d (di y1))],[]⟩) ?_ ?_ ?_
 refine avc_loopM (fun x=>⟨[(1,.d (.pt (eCase.cells a0))),(3,.d (.pt (eA4ListMapping.cells ({x0:=a0.Lower,x1:=a0.Upper,x2:=a0.Title,x3:=a0.Fold}:A4ListMapping)))),(20,.d (eA4ListMapping.dv ({x0:=a0.Lower,x1:=a0.Upper,x2:=a0.Title,x3:=a0.Fold}:A4ListMapping))),(21,.d (di x))],[]⟩) hy1 (weak_cov ⟨rfl,rfl,rfl,rfl,trivial⟩ trivial) ?_
 rintro v21 sy1 hsy1
 replace hsy1:casemap_Check_L0 a0 v21=some sy1:=hsy1
 unfold casemap_Check_L0 at hsy1
 refine avc_sq2<|avc_sq ?_
 refine sqa (a_lss (lq rfl) rfl rfl) ?_
 refine sq_nil<|avc_sq2 ?_
 refine ifM rfl hsy1 (fun _ hsy1=>?_) (fun _ hsy1=>?_)
 refine avc_skip<|avc_sq2<|avc_block<|avc_sq2<|avc_sq ?_
 obtain ⟨t23,ht23,hsy1⟩:=bE hsy1
 refine sqa (m_aindex (en:=(eL eMapping)) (l:=[({x0:=a0.Lower,x1:=a0.Upper,x2:=a0.Title,x3:=a0.Fold}:A4ListMapping).x0,({x0:=a0.Lower,x1:=a0.Upper,x2:=a0.Title,x3:=a0.Fold}:A4ListMapping).x1,({x0:=a0.Lower,x1:=a0.Upper,x2:=a0.Title,x3:=a0.Fold}:A4ListMapping).x2,({x0:=a0.Lower,x1:=a0.Upper,x2:=a0.Title,x3:=a0.Fold}:A4ListMapping).x3]) (lq rfl) A150 O23 (fun _=>rfl) rfl rfl rfl ht23) ?_
 refine sqa (a_assign_d (lq rfl) rfl) ?_
 refine sq_nil<|avc_sq2<|avc_sq ?_
 refine sqa (a_move_d (lq rfl) rfl) ?_
 obtain ⟨t25,ht25,hsy1⟩:=bE hsy1
 refine sqa (a_call (lq rfl) rfl (mapping_Check_c ht25)) ?_
 refine sqa (a_assign_d (lq rfl) rfl) ?_
 refine sq_nil<|avc_sq2<|avc_sq ?_
 refine sqa (a_move_d (lq rfl) rfl) ?_
 refine sqa (a_neq (lq rfl) rfl rfl) ?_
 refine sq_nil ?_
 refine ifM rfl hsy1 (fun _ hsy1=>?_) (fun _ hsy1=>?_)
 refine avc_sq2<|avc_sq ?_
 refine sqa (a_move_d (lq rfl) rfl) ?_
 refine sqa (a_assign_d (lq rfl) rfl) ?_
 refine sq_nil ?_
 refine avc_ret ?_
 cases hsy1
 intro q;cases q
 exact ⟨rfl,weak_cov ⟨rfl,trivial⟩ trivial⟩
 refine avc_skip<|avc_sq ?_
 refine sqa (m_add (lq rfl) rfl rfl) ?_
 refine sqa (a_move_d (lq rfl) rfl) ?_
 refine sq_nil ?_
 cases hsy1
 exact weak_cov ⟨rfl,rfl,rfl,rfl,trivial⟩ trivial
 refine avc_exit ?_
 cases hsy1
 intro q;cases q
 exact ⟨rfl,weak_cov ⟨rfl,rfl,trivial⟩ trivial⟩
 rintro y1 rfl
 replace h:=eL h
 refine avc_sq2<|avc_sq2<|avc_sq ?_
 refine sqa (m_loadPt (lq rfl) G150 rfl rfl) ?_
 refine sqa (a_move_d (lq rfl) rfl) ?_
 refine sq_nil<|avc_block ?_
 obtain ⟨y2,hy2,h⟩:=bE h
 refine avc_tail2 y2 (.exit 2) (fun y2=>⟨[(1,.d (.pt (eCase.cells a0)))],[]⟩) .ret (fun y2=>⟨[(2,.d (di y2))],[]⟩) ?_ ?_ ?_
 refine avc_loopM (fun x=>⟨[(1,.d (.pt (eCase.cells a0))),(30,.d (eA4ListMapping.dv ({x0:=a0.Lower,x1:=a0.Upper,x2:=a0.Title,x3:=a0.Fold}:A4ListMapping))),(31,.d (di x))],[]⟩) hy2 (weak_cov ⟨rfl,rfl,rfl,trivial⟩ trivial) ?_
 rintro v31 sy2 hsy2
 replace hsy2:casemap_Check_L1 a0 v31=some sy2:=hsy2
 unfold casemap_Check_L1 at hsy2
 refine avc_sq2<|avc_sq ?_
 refine sqa (a_lss (lq rfl) rfl rfl) ?_
 refine sq_nil<|avc_sq2 ?_
 refine ifM rfl hsy2 (fun _ hsy2=>?_) (fun _ hsy2=>?_)
 refine avc_skip<|avc_sq2<|avc_block<|avc_sq2<|avc_sq ?_
 refine sqa (a_move_d (lq rfl) rfl) ?_
 obtain ⟨t34,ht34,hsy2⟩:=bE hsy2
 refine sqa (m_aindex (en:=(eL eMapping)) (l:=[({x0:=a0.Lower,x1:=a0.Upper,x2:=a0.Title,x3:=a0.Fold}:A4ListMapping).x0,({x0:=a0.Lower,x1:=a0.Upper,x2:=a0.Title,x3:=a0.Fold}:A4ListMapping).x1,({x0:=a0.Lower,x1:=a0.Upper,x2:=a0.Title,x3:=a0.Fold}:A4ListMapping).x2,({x0:=a0.Lower,x1:=a0.Upper,x2:=a0.Title,x3:=a0.Fold}:A4ListMapping).x3]) (lq rfl) A150 O23 (fun _=>rfl) rfl rfl rfl ht34) ?_
 refine sqa (a_assign_d (lq rfl) rfl) ?_
 refine sqa (a_assign_d (lq rfl) rfl) ?_
 refine sq_nil<|avc_sq2<|avc_sq ?_
 refine sqa (a_move_d (lq rfl) rfl) ?_
 refine sqa (m_len (en:=eMapping) (l:=t34) (lq rfl) S23 rfl) ?_
 refine sqa (a_move_d (lq rfl) rfl) ?_
 refine sq_nil<|avc_block ?_
 obtain ⟨y3,hy3,hsy2⟩:=bE hsy2
 refine avc_tail2 y3 (.exit 4) (fun y3=>⟨[(1,.d (.pt (eCase.cells a0))),(30,.d (eA4ListMapping.dv ({x0:=a0.Lower,x1:=a0.Upper,x2:=a0.Title,x3:=a0.Fold}:A4ListMapping))),(31,.d (di v31))],[]⟩) .ret (fun y3=>⟨[(2,.d (di y3))],[]⟩) ?_ ?_ ?_
 refine avc_loopM (fun x=>⟨[(1,.d (.pt (eCase.cells a0))),(7,.d (di v31)),(30,.d (eA4ListMapping.dv ({x0:=a0.Lower,x1:=a0.Upper,x2:=a0.Title,x3:=a0.Fold}:A4ListMapping))),(31,.d (di v31)),(35,.d (dsl eMapping t34)),(36,.d (di (t34.length:Int))),(37,.d (di x))],[]⟩) hy3 (weak_cov ⟨rfl,rfl,rfl,rfl,rfl,rfl,rfl,trivial⟩ trivial) ?_
 rintro v37 sy3 hsy3
 replace hsy3:casemap_Check_L2 t34 v31 v37=some sy3:=hsy3
 unfold casemap_Check_L2 at hsy3
 refine avc_sq2<|avc_sq ?_
 refine sqa (a_lss (lq rfl) rfl rfl) ?_
 refine sq_nil<|avc_sq2 ?_
 refine ifM rfl hsy3 (fun _ hsy3=>?_) (fun _ hsy3=>?_)
 refine avc_skip<|avc_sq2<|avc_block<|avc_sq2<|avc_sq ?_
 obtain ⟨t39,ht39,hsy3⟩:=bE hsy3
 refine sqa (m_index (en:=eMapping) (lq rfl) S23 rfl rfl ht39) ?_
 refine sqa (m_loadEA (en:=eMapping) (l:=t34) (i:=v37) (v:=t39) (off:=0) (lq rfl) G72 rfl ht39 rfl rfl (by decide)) ?_
 refine sq_b rfl (step_alloc (zs:=[(.int IntKind.i64 (0)),(.slice none 0 0),(.string ⟨#[]⟩)]) (lq rfl) (by kernel_rfl) rfl rfl) ?_
 refine sq_b rfl (s_store_boxA G72 rfl rfl rfl rfl rfl rfl) ?_
 refine sq_nil ?_
 refine avc_weak (weak_freeze (t:=10) (lq rfl) rfl rfl rfl) ?_
 refine avc_sq2<|avc_sq ?_
 refine sqa (m_fieldPt (lq rfl) L72_2 rfl) ?_
 refine sqa (a_load_ip (lq rfl) O9 rfl rfl) ?_
 refine sqa (m_sneq (a:=t39.Tag) (b:=[]) (lq rfl) rfl rfl) ?_
 obtain ⟨b44,hb44,hsy3⟩:=bE hsy3
 refine sqa ((a_move_d (lq rfl) rfl).bool (Option.some.inj hb44)) ?_
 refine sq_g (x:= .d (di v31)) rfl rfl rfl (lq rfl) (lq rfl) rfl (fun hb=>by obtain rfl:b44=true:=hb;exact a_move_d (lq rfl) rfl) ?_
 refine sq_g (x:= .d (db (!decide (v31=0)))) rfl rfl rfl (lq rfl) (lq rfl) rfl (fun hb=>by obtain rfl:b44=true:=hb;exact a_neq (lq rfl) rfl rfl) ?_
 obtain ⟨b47,hb47,hsy3⟩:=bE hsy3
 refine sq_g (x:= .d (db b47)) rfl rfl rfl (lq rfl) (lq rfl) rfl (fun hb=>by obtain rfl:b44=true:=hb;exact (a_move_d (lq rfl) rfl).bool (Option.some.inj hb47)) ?_
 refine sq_g2 (x:= .ip (eMapping.cells t39) (0+2)) rfl rfl rfl (lq rfl) (lq rfl) rfl (fun hb=>by obtain ⟨hb,hb1⟩:=and_split hb;obtain rfl:b44=true:=hb;obtain rfl:=gF hb1;exact m_fieldPt (lq rfl) L72_2 rfl) ?_
 refine sq_g2 (x:= .d (ds t39.Tag)) rfl rfl rfl (lq rfl) (lq rfl) rfl (fun hb=>by obtain ⟨hb,hb1⟩:=and_split hb;obtain rfl:b44=true:=hb;obtain rfl:=gF hb1;exact a_load_ip (lq rfl) O9 rfl rfl) ?_
 refine sq_g2 (x:= .d (db (!(t39.Tag== [102,105,110,97,108])))) rfl rfl rfl (lq rfl) (lq rfl) rfl (fun hb=>by obtain ⟨hb,hb1⟩:=and_split hb;obtain rfl:b44=true:=hb;obtain rfl:=gF hb1;exact m_sneq (a:=t39.Tag) (b:=[102,105,110,97,108]) (lq rfl) rfl rfl) ?_
 refine sq_g (x:= .d (db (b47 ||(!(t39.Tag== [102,105,110,97,108]))))) rfl rfl rfl (lq rfl) (lq rfl) rfl (fun hb=>by obtain rfl:b44=true:=hb;exact a_pick_or (lq rfl) rfl rfl) ?_
 refine sqa (a_pick_and (lq rfl) rfl rfl) ?_
 refine sq_nil ?_
 refine ifM rfl hsy3 (fun _ hsy3=>?_) (fun _ hsy3=>?_)
 refine avc_sq2<|avc_sq ?_
 refine sqa (a_assign_d (lq rfl) rfl) ?_
 refine sq_nil ?_
 refine avc_ret ?_
 cases hsy3
 intro q;cases q
 exact ⟨rfl,weak_cov ⟨rfl,trivial⟩ trivial⟩
 refine avc_skip<|avc_sq ?_
 refine sqa (m_add (lq rfl) rfl rfl) ?_
 refine sqa (a_move_d (lq rfl) rfl) ?_
 refine sq_nil ?_
 cases hsy3
 exact weak_cov ⟨rfl,rfl,rfl,rfl,rfl,rfl,rfl,trivial⟩ trivial
 refine avc_exit ?_
 cases hsy3
 intro q;cases q
 exact ⟨rfl,weak_cov ⟨rfl,rfl,rfl,trivial⟩ trivial⟩
 rintro y3 rfl
 replace hsy2:=eL hsy2
 refine avc_sq ?_
 refine sqa (m_add (lq rfl) rfl rfl) ?_
 refine sqa (a_move_d (lq rfl) rfl) ?_
 refine sq_nil ?_
 cases hsy2
 exact weak_cov ⟨rfl,rfl,rfl,trivial⟩ trivial
 rintro y3 rfl
 replace hsy2:=eR hsy2
 cases hsy2
 intro q;cases q
 exact ⟨rfl,weak_cov ⟨rfl,trivial⟩ trivial⟩
 refine avc_exit ?_
 cases hsy2
 intro q;cases q
 exact ⟨rfl,weak_cov ⟨rfl,trivial⟩ trivial⟩
 rintro y2 rfl
 replace h:=eL h
 refine avc_sq2<|avc_sq2<|avc_sq ?_
 refine sqa (m_fieldPt (lq rfl) L45_4 rfl) ?_
 refine sqa (a_load_ipA (lq rfl) G26 rfl rfl rfl) ?_
 obtain ⟨t57,ht57,h⟩:=bE h
 refine sqa (a_call (lq rfl) rfl (cpset_Valid_c ht57)) ?_
 refine sqa (a_not (lq rfl) rfl) ?_
 obtain ⟨b59,hb59,h⟩:=bE h
 refine sqa ((a_move_d (lq rfl) rfl).bool (Option.some.inj hb59)) ?_
 refine sq_g (x:= .ip (eCase.cells a0) (0+5)) rfl rfl rfl (lq rfl) (lq rfl) rfl (fun hb=>by obtain rfl:=gF hb;exact m_fieldPt (lq rfl) L45_5 rfl) ?_
 refine sq_g (x:= .d (eSet.dv a0.Ignorable)) rfl rfl rfl (lq rfl) (lq rfl) rfl (fun hb=>by obtain rfl:=gF hb;exact a_load_ipA (lq rfl) G26 rfl rfl rfl) ?_
 obtain ⟨t62,ht62,h⟩:=bE h
 refine sq_g (x:= .d (db t62)) rfl rfl rfl (lq rfl) (lq rfl) rfl (fun hb=>by obtain rfl:=gF hb;exact a_call (lq rfl) rfl (cpset_Valid_c ht62)) ?_
 refine sq_g (x:= .d (db (!t62))) rfl rfl rfl (lq rfl) (lq rfl) rfl (fun hb=>by obtain rfl:=gF hb;exact a_not (lq rfl) rfl) ?_
 refine sqa (a_pick_or (lq rfl) rfl rfl) ?_
 refine sq_nil ?_
 refine ifM rfl h (fun _ h=>?_) (fun _ h=>?_)
 refine avc_sq2<|avc_sq ?_
 refine sqa (a_assign_d (lq rfl) rfl) ?_
 refine sq_nil ?_
 cases h
 refine avc_ret ?_
 exact ret_1 rfl
 refine avc_skip<|avc_sq2<|avc_sq ?_
 refine sqa (a_assign_d (lq rfl) rfl) ?_
 refine sq_nil ?_
 cases h
 refine avc_ret ?_
 exact ret_1 rfl
 rintro y2 rfl
 replace h:=eR h
 cases h
 exact ret_1 rfl
 rintro y1 rfl
 replace h:=eR h
 cases h
 exact ret_1 rfl
theorem casefold_foldings_c {a0} {r} (h:casefold_foldings a0=some r):Contract Tryz.prog 42 [(eCase.dv a0)] [(mpD kI (eL eI) r)]:=by
 refine contract_of Tryz.func42 (by kernel_rfl) rfl (lq rfl) (lq rfl) fun w0 I0 hI0 hG0=>?_
 unfold casefold_foldings at h
 refine avc_sq2<|avc_sq ?_
 refine sqa (m_box (size:=6) (lq rfl) rfl rfl) ?_
 refine sqa (a_assign_d (lq rfl) rfl) ?_
 refine sq_nil<|avc_sq2<|avc_sq ?_
 refine sq_b rfl (m_makeMap (lq rfl) rfl) ?_
 refine sqa (a_assign_row (lq rfl) rfl) ?_
 refine sq_nil<|avc_sq2<|avc_sq2<|avc_sq ?_
 refine sqa (m_loadPt (lq rfl) G45 rfl rfl) ?_
 obtain ⟨t8,ht8,h⟩:=bE h
 refine sqa (a_call (lq rfl) rfl (casemap_Check_c ht8)) ?_
 refine sqa (a_neq (lq rfl) rfl rfl) ?_
 refine sq_nil ?_
 refine ifM rfl h (fun _ h=>?_) (fun _ h=>?_)
 refine avc_sq2<|avc_sq ?_
 refine sqa (a_move_row (lq rfl) rfl) ?_
 refine sqa (a_assign_row (lq rfl) rfl) ?_
 refine sq_nil ?_
 refine avc_weak (weak_map_d (kv:=kI) (ev:=(eL eI)) (m:=[]) (t:=2) (lq rfl) rfl rfl) ?_
 cases h
 refine avc_ret ?_
 exact ret_1 rfl
 refine avc_skip<|avc_sq2<|avc_sq2<|avc_sq ?_
 refine sqa (m_fieldPt (lq rfl) L45_3 rfl) ?_
 refine sqa (a_load_ip (lq rfl) O23 rfl rfl) ?_
 refine sqa (m_len (en:=eMapping) (l:=a0.Fold) (lq rfl) S23 rfl) ?_
 refine sqa (a_move_d (lq rfl) rfl) ?_
 refine sq_nil<|avc_block ?_
 obtain ⟨y1,hy1,h⟩:=bE h
 refine avc_tail (e:=(.exit 0)) (S2:=⟨[(3,.row 6)],[(6,.map (mapE kI (eL eI) y1))]⟩) ?_ ?_
 refine avc_loopM (fun x=>⟨[(3,.row 6),(12,.d (dsl eMapping a0.Fold)),(13,.d (di (a0.Fold.length:Int))),(14,.d (di x.1))],[(6,.map (mapE kI (eL eI) x.2))]⟩) hy1 (weak_cov ⟨rfl,rfl,rfl,rfl,trivial⟩ ⟨rfl,trivial⟩) ?_
 rintro ⟨v14,r6⟩ sy1 hsy1
 replace hsy1:casefold_foldings_L0 a0 v14 r6=some sy1:=hsy1
 unfold casefold_foldings_L0 at hsy1
 refine avc_sq2<|avc_sq ?_
 refine sqa (a_lss (lq rfl) rfl rfl) ?_
 refine sq_nil<|avc_sq2 ?_
 refine ifM rfl hsy1 (fun _ hsy1=>?_) (fun _ hsy1=>?_)
 refine avc_skip<|avc_sq2 ?_
 obtain ⟨y2,hy2,hsy1⟩:=bE hsy1
 refine avc_tail (e:= .normal) (S2:=⟨[(3,.row 6),(12,.d (dsl eMapping a0.Fold)),(13,.d (di (a0.Fold.length:Int))),(14,.d (di v14))],[(6,.map (mapE kI (eL eI) y2))]⟩) ?_ ?_
 refine avc_block<|avc_sq2<|avc_sq ?_
 obtain ⟨t16,ht16,hy2⟩:=bE hy2
 refine sqa (m_index (en:=eMapping) (lq rfl) S23 rfl rfl ht16) ?_
 refine sqa (m_loadEA (en:=eMapping) (l:=a0.Fold) (i:=v14) (v:=t16) (off:=0) (lq rfl) G72 rfl ht16 rfl rfl (by decide)) ?_
 refine sq_b rfl (step_alloc (zs:=[(.int IntKind.i64 (0)),(.slice none 0 0),(.string ⟨#[]⟩)]) (lq rfl) (by kernel_rfl) rfl rfl) ?_
 refine sq_b rfl (s_store_boxA G72 rfl rfl rfl rfl rfl rfl) ?_
 refine sq_nil ?_
 refine avc_weak (weak_freeze (t:=5) (lq rfl) rfl rfl rfl) ?_
 refine avc_sq2<|avc_sq ?_
 refine sqa (m_fieldPt (lq rfl) L72_2 rfl) ?_
 refine sqa (a_load_ip (lq rfl) O9 rfl rfl) ?_
 refine sqa (m_seql (a:=t16.Tag) (b:=[]) (lq rfl) rfl rfl) ?_
 refine sq_nil ?_
 refine ifM rfl hy2 (fun _ hy2=>?_) (fun _ hy2=>?_)
 refine avc_sq ?_
 refine sqa (a_move_row (lq rfl) rfl) ?_
 refine sqa (m_fieldPt (lq rfl) L72_0 rfl) ?_
 refine sqa (a_load_ip (lq rfl) O3 rfl rfl) ?_
 refine sqa (m_fieldPt (lq rfl) L72_1 rfl) ?_
 refine sqa (a_load_ip (lq rfl) O37 rfl rfl) ?_
 refine sq_b rfl (m_mapUpdate (kv:=kI) (ev:=(eL eI)) (mp:=r6) (k:=t16.From) (v:=t16.To) M73 K3 rfl rfl rfl rfl rfl rfl) ?_
 refine sq_nil ?_
 cases hy2
 exact out_mk (weak_cov ⟨rfl,rfl,rfl,rfl,trivial⟩ ⟨rfl,trivial⟩)
 refine avc_skip ?_
 cases hy2
 exact out_mk (weak_cov ⟨rfl,rfl,rfl,rfl,trivial⟩ ⟨rfl,trivial⟩)
 refine avc_sq ?_
 refine sqa (m_add (lq rfl) rfl rfl) ?_
 refine sqa (a_move_d (lq rfl) rfl) ?_
 refine sq_nil ?_
 cases hsy1
 exact weak_cov ⟨rfl,rfl,rfl,rfl,trivial⟩ ⟨rfl,trivial⟩
 refine avc_exit ?_
 cases hsy1
 intro q;cases q
 exact out_mk (weak_cov ⟨rfl,trivial⟩ ⟨rfl,trivial⟩)
 refine avc_sq2<|avc_sq ?_
 refine sqa (a_move_row (lq rfl) rfl) ?_
 refine sqa (a_assign_row (lq rfl) rfl) ?_
 refine sq_nil ?_
 refine avc_weak (weak_map_d (kv:=kI) (ev:=(eL eI)) (m:=y1) (t:=2) (lq rfl) rfl rfl) ?_
 cases h
 refine avc_ret ?_
 exact ret_1 rfl
theorem slices_Equal_int_int_c {a0} {a1} {r} (h:slices_Equal_int_int a0 a1=some r):Contract Tryz.prog 45 [(dsl eI a0),(dsl eI a1)] [(db r)]:=by
 refine contract_of Tryz.func45 (by kernel_rfl) rfl (lq rfl) (lq rfl) fun w0 I0 hI0 hG0=>?_
 unfold slices_Equal_int_int at h
 refine avc_sq2<|avc_sq ?_
 refine sqa (a_assign_d (lq rfl) rfl) ?_
 refine sq_nil<|avc_sq2<|avc_sq2<|avc_sq ?_
 refine sqa (a_move_d (lq rfl) rfl) ?_
 refine sqa (m_len (en:=eI) (l:=a0) (lq rfl) S37 rfl) ?_
 refine sqa (a_move_d (lq rfl) rfl) ?_
 refine sqa (m_len (en:=eI) (l:=a1) (lq rfl) S37 rfl) ?_
 refine sqa (a_neq (lq rfl) rfl rfl) ?_
 refine sq_nil ?_
 refine ifM rfl h (fun _ h=>?_) (fun _ h=>?_)
 refine avc_sq2<|avc_sq ?_
 refine sqa (a_assign_d (lq rfl) rfl) ?_
 refine sq_nil ?_
 cases h
 refine avc_ret ?_
 exact ret_1 rfl
 refine avc_skip<|avc_sq2<|avc_sq2<|avc_sq ?_
 refine sqa (a_move_d (lq rfl) rfl) ?_
 refine sqa (m_len (en:=eI) (l:=a0) (lq rfl) S37 rfl) ?_
 refine sqa (a_move_d (lq rfl) rfl) ?_
 refine sq_nil<|avc_block ?_
 obtain ⟨y1,hy1,h⟩:=bE h
 refine avc_tail2 y1 (.exit 0) (fun y1=>⟨[],[]⟩) .ret (fun y1=>⟨[(4,.d (db y1))],[]⟩) ?_ ?_ ?_
 refine avc_loopM (fun x=>⟨[(0,.d (dsl eI a0)),(1,.d (dsl eI a1)),(12,.d (di (a0.length:Int))),(13,.d (di x))],[]⟩) hy1 (weak_cov ⟨rfl,rfl,rfl,rfl,trivial⟩ trivial) ?_
 rintro v13 sy1 hsy1
 replace hsy1:slices_Equal_int_int_L0 a0 a1 v13=some sy1:=hsy1
 unfold slices_Equal_int_int_L0 at hsy1
 refine avc_sq2<|avc_sq ?_
 refine sqa (a_lss (lq rfl) rfl rfl) ?_
 refine sq_nil<|avc_sq2 ?_
 refine ifM rfl hsy1 (fun _ hsy1=>?_) (fun _ hsy1=>?_)
 refine avc_skip<|avc_sq2<|avc_block<|avc_sq2<|avc_sq ?_
 refine sqa (a_move_d (lq rfl) rfl) ?_
 refine sqa (a_assign_d (lq rfl) rfl) ?_
 refine sq_nil<|avc_sq2 ?_
 refine avc_drawA MX rfl ?_
 refine daa (a_move_d (lq rfl) rfl) ?_
 refine daa (a_move_d (lq rfl) rfl) ?_
 obtain ⟨t18,ht18,hsy1⟩:=bE hsy1
 refine daa (m_index (en:=eI) (lq rfl) S37 rfl rfl ht18) ?_
 refine daa (m_loadE (en:=eI) (l:=a0) (i:=v13) (v:=t18) (off:=0) (lq rfl) O3 rfl ht18 rfl) ?_
 refine daa (a_move_d (lq rfl) rfl) ?_
 refine daa (a_move_d (lq rfl) rfl) ?_
 obtain ⟨t22,ht22,hsy1⟩:=bE hsy1
 refine daa (m_index (en:=eI) (lq rfl) S37 rfl rfl ht22) ?_
 refine daa (m_loadE (en:=eI) (l:=a1) (i:=v13) (v:=t22) (off:=0) (lq rfl) O3 rfl ht22 rfl) ?_
 refine daa (a_neq (lq rfl) rfl rfl) ?_
 refine da_nil ?_
 refine ifM rfl hsy1 (fun _ hsy1=>?_) (fun _ hsy1=>?_)
 refine avc_sq2<|avc_sq ?_
 refine sqa (a_assign_d (lq rfl) rfl) ?_
 refine sq_nil ?_
 refine avc_ret ?_
 cases hsy1
 intro q;cases q
 exact ⟨rfl,weak_cov ⟨rfl,trivial⟩ trivial⟩
 refine avc_skip<|avc_sq ?_
 refine sqa (m_add (lq rfl) rfl rfl) ?_
 refine sqa (a_move_d (lq rfl) rfl) ?_
 refine sq_nil ?_
 cases hsy1
 exact weak_cov ⟨rfl,rfl,rfl,rfl,trivial⟩ trivial
 refine avc_exit ?_
 cases hsy1
 intro q;cases q
 exact ⟨rfl,weak_cov trivial trivial⟩
 rintro y1 rfl
 replace h:=eL h
 refine avc_sq2<|avc_sq ?_
 refine sqa (a_assign_d (lq rfl) rfl) ?_
 refine sq_nil ?_
 cases h
 refine avc_ret ?_
 exact ret_1 rfl
 rintro y1 rfl
 replace h:=eR h
 cases h
 exact ret_1 rfl
theorem sortI_g {l r:List Int} (h:sortI l=some r):GC Tryz.prog 46 [.row 0] [(0,.win 3 eI.size 0 (eI.all l))] [0] [] [(0,.win 3 eI.size 0 (eI.all r))]:=by
 unfold sortI at h
 split at h
 rename_i hl
 cases h
 exact gc_sort (en:=eI) (encV:=Value.int .i64) (fun _=>rfl) rfl (fun _=>rfl) (by simp) ⟨_,Tryz.func46,by kernel_rfl,rfl⟩ (fun _ B c w=>Any.slices_Sort_int_none Tryz.lays189 B c w) (fun blk off cap w hH hb=>Any.slices_Sort_int Tryz.lays189 blk off cap l w hH hb (by unfold LIM at hl;omega))
 cases h
theorem casefold_Orbit_c {a0} {a1} {r} (h:casefold_Orbit a0 a1=some r):Contract Tryz.prog 19 [(eCase.dv a0),(di a1)] [(dsl eI r)]:=by
 refine contract_of Tryz.func19 (by kernel_rfl) rfl (lq rfl) (lq rfl) fun w0 I0 hI0 hG0=>?_
 unfold casefold_Orbit at h
 refine avc_sq2<|avc_sq ?_
 refine sqa (m_box (size:=6) (lq rfl) rfl rfl) ?_
 refine sqa (a_assign_d (lq rfl) rfl) ?_
 refine sq_nil<|avc_sq2<|avc_sq2<|avc_sq ?_
 refine sqa (a_move_d (lq rfl) rfl) ?_
 refine sqa (a_lss (lq rfl) rfl rfl) ?_
 obtain ⟨b15,hb15,h⟩:=bE h
 refine sqa ((a_move_d (lq rfl) rfl).bool (Option.some.inj hb15)) ?_
 refine sq_g (x:= .d (di a1)) rfl rfl rfl (lq rfl) (lq rfl) rfl (fun hb=>by obtain rfl:=gF hb;exact a_move_d (lq rfl) rfl) ?_
 refine sq_g (x:= .d (db (decide (1114111 < a1)))) rfl rfl rfl (lq rfl) (lq rfl) rfl (fun hb=>by obtain rfl:=gF hb;exact a_gtr (lq rfl) rfl rfl) ?_
 refine sqa (a_pick_or (lq rfl) rfl rfl) ?_
 refine sq_nil ?_
 refine ifM rfl h (fun _ h=>?_) (fun _ h=>?_)
 refine avc_sq2<|avc_sq ?_
 refine sqa (a_assign_d (lq rfl) rfl) ?_
 refine sq_nil ?_
 refine avc_weak (weak_nil (t:=4) 1004 3 eI.size (lq rfl) (lq rfl) rfl rfl) ?_
 cases h
 refine avc_ret ?_
 exact ret_1 rfl
 refine avc_skip<|avc_sq2<|avc_sq ?_
 refine sqa (m_loadPt (lq rfl) G45 rfl rfl) ?_
 obtain ⟨t20,ht20,h⟩:=bE h
 refine sqa (a_call (lq rfl) rfl (casefold_foldings_c ht20)) ?_
 refine sqa (a_assign_d (lq rfl) rfl) ?_
 refine sq_nil<|avc_sq2<|avc_sq ?_
 refine sqa (a_move_d (lq rfl) rfl) ?_
 refine sqa (a_move_d (lq rfl) rfl) ?_
 refine sqa (m_lookup2F (kv:=kI) (ev:=(eL eI)) (mp:=t20) (k:=a1) (zero:=[]) (lq rfl) M73 K3 rfl rfl kVal (fun _ _=> .nil _ _ _)) ?_
 refine sqa (a_move_tup (lq rfl) rfl) ?_
 refine sqa (a_extract (lq rfl) rfl rfl) ?_
 refine sqa (a_extract (lq rfl) rfl rfl) ?_
 refine sqa (a_assign_d (lq rfl) rfl) ?_
 refine sqa (a_assign_d (lq rfl) rfl) ?_
 refine sq_nil<|avc_sq2<|avc_sq2<|avc_sq ?_
 refine sqa (a_move_d (lq rfl) rfl) ?_
 refine sqa (a_not (lq rfl) rfl) ?_
 refine sq_nil ?_
 obtain ⟨y1,hy1,h⟩:=bE h
 refine avc_tail (e:= .normal) (S2:=⟨[(5,.d (mpD kI (eL eI) t20)),(6,.d (dsl eI y1))],[]⟩) ?_ ?_
 refine ifM rfl hy1 (fun _ hy1=>?_) (fun _ hy1=>?_)
 refine avc_sq ?_
 refine sqa (a_move_d (lq rfl) rfl) ?_
 refine sqa (a_lit (lq rfl) S37 rfl rfl rfl rfl (by decide) rfl) ?_
 refine sqa (a_assign_d (lq rfl) rfl) ?_
 refine sq_nil ?_
 cases hy1
 exact out_mk (weak_cov ⟨rfl,rfl,trivial⟩ trivial)
 refine avc_skip ?_
 cases hy1
 exact out_mk (weak_cov ⟨rfl,rfl,trivial⟩ trivial)
 refine avc_sq2<|avc_sq ?_
 refine sqa (a_assign_d (lq rfl) rfl) ?_
 refine sq_nil ?_
 refine avc_weak (weak_nil (t:=8) 1008 3 eI.size (lq rfl) (lq rfl) rfl rfl) ?_
 refine avc_sq2<|avc_sq2<|avc_sq ?_
 refine sqa (a_move_d (lq rfl) rfl) ?_
 refine sq_b rfl (m_range (lq rfl) M73.und rfl rfl) ?_
 refine sq_nil<|avc_block ?_
 refine avc_mapLoop (fun _=>(.exit 0)) (fun y2=>⟨[(5,.d (mpD kI (eL eI) t20)),(6,.d (dsl eI y1)),(8,.row 1008)],[(1008,.row 3 eI.size false (eI.all y2))]⟩) (fun q x=>⟨[(5,.d (mpD kI (eL eI) t20)),(6,.d (dsl eI y1)),(8,.row 1008),(32,.row 32)],[(32,.it (mapE kI (eL eI) t20) q),(1008,.row 3 eI.size false (eI.all x))]⟩) h (weak_cov ⟨rfl,rfl,rfl,rfl,trivial⟩ ⟨rfl,rfl,trivial⟩) ?_ ?_
 rintro q r1008 hbs hbn
 refine avc_sq2 ?_
 refine avc_next (lq rfl) rfl rfl rfl (fun i uk uv hi hq=>?_) (fun ha=>?_)
 refine next_some hbs hi hq fun sy2 hsy2=>?_
 replace hsy2:casefold_Orbit_L0S y1 uk uv r1008=some sy2:=hsy2
 unfold casefold_Orbit_L0S at hsy2
 refine sqa (a_extract (lq rfl) rfl rfl) ?_
 refine sq_nil<|avc_sq2 ?_
 refine avc_if rfl ⟨fun _=>?_,fun c=>(by cases c)⟩
 refine avc_skip ?_
 obtain ⟨y3,hy3,hsy2⟩:=bE hsy2
 refine avc_tail (e:= .normal) (S2:=⟨[(5,.d (mpD kI (eL eI) t20)),(6,.d (dsl eI y1)),(8,.row 1008),(32,.row 32)],[(32,.it (mapE kI (eL eI) t20) (q++ [i])),(1008,.row 3 eI.size false (eI.all y3))]⟩) ?_ ?_
 refine avc_block<|avc_sq2<|avc_sq ?_
 refine sqa (m_entry (k:=uk) (v:=uv) (lq rfl) rfl rfl hi) ?_
 refine sqa (a_extract (lq rfl) rfl rfl) ?_
 refine sqa (a_extract (lq rfl) rfl rfl) ?_
 refine sqa (a_assign_d (lq rfl) rfl) ?_
 refine sqa (a_assign_d (lq rfl) rfl) ?_
 refine sq_nil<|avc_sq2<|avc_sq ?_
 refine sqa (a_move_d (lq rfl) rfl) ?_
 refine sqa (a_move_d (lq rfl) rfl) ?_
 obtain ⟨t40,ht40,hy3⟩:=bE hy3
 refine sqa (a_call (lq rfl) rfl (slices_Equal_int_int_c ht40)) ?_
 refine sq_nil ?_
 refine ifM rfl hy3 (fun _ hy3=>?_) (fun _ hy3=>?_)
 refine avc_sq ?_
 refine sqa (a_move_row (lq rfl) rfl) ?_
 refine sqa (a_move_d (lq rfl) rfl) ?_
 refine sqa (a_lit (lq rfl) S37 rfl rfl rfl rfl (by decide) rfl) ?_
 obtain ⟨r1008_4,hr1008_4,hy3⟩:=bE hy3
 refine sq_b rfl (m_append (en:=eI) (l:=r1008) (m:=[uk]) (lq rfl) S37 rfl rfl rfl hr1008_4 (by decide) (by decide) rfl rfl) ?_
 refine sqa (a_assign_row (lq rfl) rfl) ?_
 refine sq_nil ?_
 cases hy3
 exact out_mk (weak_cov ⟨rfl,rfl,rfl,rfl,trivial⟩ ⟨rfl,rfl,trivial⟩)
 refine avc_skip ?_
 cases hy3
 exact out_mk (weak_cov ⟨rfl,rfl,rfl,rfl,trivial⟩ ⟨rfl,rfl,trivial⟩)
 cases hsy2
 exact weak_cov ⟨rfl,rfl,rfl,rfl,trivial⟩ ⟨rfl,rfl,trivial⟩
 refine next_none hbn ha fun sy2 hsy2=>?_
 replace hsy2:casefold_Orbit_L0N r1008=some sy2:=hsy2
 unfold casefold_Orbit_L0N at hsy2
 refine sqa (a_extract (lq rfl) rfl rfl) ?_
 refine sq_nil<|avc_sq2 ?_
 refine avc_if rfl ⟨fun c=>(by cases c),fun _=>?_⟩
 refine avc_exit ?_
 cases hsy2
 exact ⟨rfl,weak_cov ⟨rfl,rfl,rfl,trivial⟩ ⟨rfl,trivial⟩⟩
 rintro y2 h
 refine avc_sq2<|avc_sq2<|avc_sq ?_
 refine sqa (a_move_d (lq rfl) rfl) ?_
 refine sqa (m_len (en:=eI) (l:=y1) (lq rfl) S37 rfl) ?_
 refine sqa (a_eql (lq rfl) rfl rfl) ?_
 refine sq_nil ?_
 obtain ⟨y5,hy5,h⟩:=bE h
 refine avc_tail (e:= .normal) (S2:=⟨[(8,.row 1008)],[(1008,.row 3 eI.size false (eI.all y5))]⟩) ?_ ?_
 refine ifM rfl hy5 (fun _ hy5=>?_) (fun _ hy5=>?_)
 refine avc_sq2<|avc_sq ?_
 refine sqa (a_move_d (lq rfl) rfl) ?_
 refine sqa (a_move_d (lq rfl) rfl) ?_
 obtain ⟨t51,ht51,hy5⟩:=bE hy5
 refine sqa (m_index (en:=eI) (lq rfl) S37 rfl rfl ht51) ?_
 refine sqa (m_loadE (en:=eI) (l:=y1) (i:=(0:Int)) (v:=t51) (off:=0) (lq rfl) O3 rfl ht51 rfl) ?_
 refine sqa (m_lookup2F (kv:=kI) (ev:=(eL eI)) (mp:=t20) (k:=t51) (zero:=[]) (lq rfl) M73 K3 rfl rfl kVal (fun _ _=> .nil _ _ _)) ?_
 refine sqa (a_move_tup (lq rfl) rfl) ?_
 refine sqa (a_extract (lq rfl) rfl rfl) ?_
 refine sqa (a_extract (lq rfl) rfl rfl) ?_
 refine sqa (a_assign_d (lq rfl) rfl) ?_
 refine sqa (a_assign_d (lq rfl) rfl) ?_
 refine sq_nil<|avc_sq2<|avc_sq ?_
 refine sqa (a_move_d (lq rfl) rfl) ?_
 refine sqa (a_not (lq rfl) rfl) ?_
 refine sq_nil ?_
 refine ifM rfl hy5 (fun _ hy5=>?_) (fun _ hy5=>?_)
 refine avc_sq ?_
 refine sqa (a_move_row (lq rfl) rfl) ?_
 refine sqa (a_move_d (lq rfl) rfl) ?_
 obtain ⟨t60,ht60,hy5⟩:=bE hy5
 refine sqa (m_index (en:=eI) (lq rfl) S37 rfl rfl ht60) ?_
 refine sqa (m_loadE (en:=eI) (l:=y1) (i:=(0:Int)) (v:=t60) (off:=0) (lq rfl) O3 rfl ht60 rfl) ?_
 refine sqa (a_lit (lq rfl) S37 rfl rfl rfl rfl (by decide) rfl) ?_
 obtain ⟨r1008_6,hr1008_6,hy5⟩:=bE hy5
 refine sq_b rfl (m_append (en:=eI) (l:=y2) (m:=[t60]) (lq rfl) S37 rfl rfl rfl hr1008_6 (by decide) (by decide) rfl rfl) ?_
 refine sqa (a_assign_row (lq rfl) rfl) ?_
 refine sq_nil ?_
 cases hy5
 exact out_mk (weak_cov ⟨rfl,trivial⟩ ⟨rfl,trivial⟩)
 refine avc_skip ?_
 cases hy5
 exact out_mk (weak_cov ⟨rfl,trivial⟩ ⟨rfl,trivial⟩)
 refine avc_skip ?_
 cases hy5
 exact out_mk (weak_cov ⟨rfl,trivial⟩ ⟨rfl,trivial⟩)
 refine avc_sq2<|avc_sq ?_
 refine sqa (a_move_row (lq rfl) rfl) ?_
 refine sq_weak (weak_row_win (id:=1008) rfl) ?_ (by simp)
 obtain ⟨r1008_7,hr1008_7,h⟩:=bE h
 refine sq_b rfl (g_call [(0,1008)] (sortI_g hr1008_7) (lq rfl) (by decide) ⟨rfl,trivial⟩ rfl rfl ⟨rfl,trivial⟩ rfl rfl rfl (fun _=>rfl) rfl) ?_
 refine sq_nil ?_
 refine avc_weak (weak_win_d (t:=8) (lq rfl) rfl rfl) ?_
 refine avc_sq2<|avc_sq ?_
 refine sqa (a_move_d (lq rfl) rfl) ?_
 refine sqa (a_assign_d (lq rfl) rfl) ?_
 refine sq_nil ?_
 cases h
 refine avc_ret ?_
 exact ret_1 rfl
theorem ref01_Compare_c {a0} {a1} {r} (h:ref01_Compare a0 a1=some r):Contract Tryz.prog 14 [(dsl eI a0),(dsl eI a1)] [(di r)]:=by
 refine contract_of Tryz.func14 (by kernel_rfl) rfl (lq rfl) (lq rfl) fun w0 I0 hI0 hG0=>?_
 unfold ref01_Compare at h
 refine avc_sq2<|avc_sq ?_
 refine sqa (a_assign_d (lq rfl) rfl) ?_
 refine sq_nil<|avc_sq2<|avc_sq2<|avc_sq ?_
 refine sqa (a_assign_d (lq rfl) rfl) ?_
 refine sq_nil<|avc_block ?_
 obtain ⟨y1,hy1,h⟩:=bE h
 refine avc_tail2 y1 (.exit 0) (fun y1=>⟨[(0,.d (dsl eI a0)),(1,.d (dsl eI a1))],[]⟩) .ret (fun y1=>⟨[(4,.d (di y1))],[]⟩) ?_ ?_ ?_
 refine avc_loopM (fun x=>⟨[(0,.d (dsl eI a0)),(1,.d (dsl eI a1)),(5,.d (di x))],[]⟩) hy1 (weak_cov ⟨rfl,rfl,rfl,trivial⟩ trivial) ?_
 rintro v5 sy1 hsy1
 replace hsy1:ref01_Compare_L0 a0 a1 v5=some sy1:=hsy1
 unfold ref01_Compare_L0 at hsy1
 refine avc_sq2<|avc_sq2<|avc_sq ?_
 refine sqa (a_move_d (lq rfl) rfl) ?_
 refine sqa (a_move_d (lq rfl) rfl) ?_
 refine sqa (m_len (en:=eI) (l:=a0) (lq rfl) S37 rfl) ?_
 refine sqa (a_lss (lq rfl) rfl rfl) ?_
 obtain ⟨b10,hb10,hsy1⟩:=bE hsy1
 refine sqa ((a_move_d (lq rfl) rfl).bool (Option.some.inj hb10)) ?_
 refine sq_g (x:= .d (di v5)) rfl rfl rfl (lq rfl) (lq rfl) rfl (fun hb=>by obtain rfl:b10=true:=hb;exact a_move_d (lq rfl) rfl) ?_
 refine sq_g (x:= .d (dsl eI a1)) rfl rfl rfl (lq rfl) (lq rfl) rfl (fun hb=>by obtain rfl:b10=true:=hb;exact a_move_d (lq rfl) rfl) ?_
 refine sq_g (x:= .d (di (a1.length:Int))) rfl rfl rfl (lq rfl) (lq rfl) rfl (fun hb=>by obtain rfl:b10=true:=hb;exact m_len (en:=eI) (l:=a1) (lq rfl) S37 rfl) ?_
 refine sq_g (x:= .d (db (decide (v5 < (a1.length:Int))))) rfl rfl rfl (lq rfl) (lq rfl) rfl (fun hb=>by obtain rfl:b10=true:=hb;exact a_lss (lq rfl) rfl rfl) ?_
 refine sqa (a_pick_and (lq rfl) rfl rfl) ?_
 refine sq_nil ?_
 refine ifM rfl hsy1 (fun _ hsy1=>?_) (fun _ hsy1=>?_)
 refine avc_skip<|avc_sq2<|avc_block<|avc_sq2<|avc_sq2 ?_
 refine avc_drawA MX rfl ?_
 refine daa (a_move_d (lq rfl) rfl) ?_
 refine daa (a_move_d (lq rfl) rfl) ?_
 obtain ⟨t20,ht20,hsy1⟩:=bE hsy1
 refine daa (m_index (en:=eI) (lq rfl) S37 rfl rfl ht20) ?_
 refine daa (m_loadE (en:=eI) (l:=a0) (i:=v5) (v:=t20) (off:=0) (lq rfl) O3 rfl ht20 rfl) ?_
 refine daa (a_move_d (lq rfl) rfl) ?_
 refine daa (a_move_d (lq rfl) rfl) ?_
 obtain ⟨t24,ht24,hsy1⟩:=bE hsy1
 refine daa (m_index (en:=eI) (lq rfl) S37 rfl rfl ht24) ?_
 refine daa (m_loadE (en:=eI) (l:=a1) (i:=v5) (v:=t24) (off:=0) (lq rfl) O3 rfl ht24 rfl) ?_
 refine daa (a_lss (lq rfl) rfl rfl) ?_
 refine da_nil ?_
 refine ifM rfl hsy1 (fun _ hsy1=>?_) (fun _ hsy1=>?_)
 refine avc_sq2<|avc_sq ?_
 refine sqa (a_assign_d (lq rfl) rfl) ?_
 refine sq_nil ?_
 refine avc_ret ?_
 cases hsy1
 intro q;cases q
 exact ⟨rfl,weak_cov ⟨rfl,trivial⟩ trivial⟩
 refine avc_skip<|avc_sq2 ?_
 refine avc_drawA MX rfl ?_
 refine daa (a_move_d (lq rfl) rfl) ?_
 refine daa (a_move_d (lq rfl) rfl) ?_
 obtain ⟨t29,ht29,hsy1⟩:=bE hsy1
 refine daa (m_index (en:=eI) (lq rfl) S37 rfl rfl ht29) ?_
 refine daa (m_loadE (en:=eI) (l:=a0) (i:=v5) (v:=t29) (off:=0) (lq rfl) O3 rfl ht29 rfl) ?_
 refine daa (a_move_d (lq rfl) rfl) ?_
 refine daa (a_move_d (lq rfl) rfl) ?_
 obtain ⟨t33,ht33,hsy1⟩:=bE hsy1
 refine daa (m_index (en:=eI) (lq rfl) S37 rfl rfl ht33) ?_
 refine daa (m_loadE (en:=eI) (l:=a1) (i:=v5) (v:=t33) (off:=0) (lq rfl) O3 rfl ht33 rfl) ?_
 refine daa (a_gtr (lq rfl) rfl rfl) ?_
 refine da_nil ?_
 refine ifM rfl hsy1 (fun _ hsy1=>?_) (fun _ hsy1=>?_)
 refine avc_sq2<|avc_sq ?_
 refine sqa (a_assign_d (lq rfl) rfl) ?_
 refine sq_nil ?_
 refine avc_ret ?_
 cases hsy1
 intro q;cases q
 exact ⟨rfl,weak_cov ⟨rfl,trivial⟩ trivial⟩
 refine avc_skip<|avc_sq ?_
 refine sqa (a_move_d (lq rfl) rfl) ?_
 refine sqa (m_add (lq rfl) rfl rfl) ?_
 refine sqa (a_assign_d (lq rfl) rfl) ?_
 refine sq_nil ?_
 cases hsy1
 exact weak_cov ⟨rfl,rfl,rfl,trivial⟩ trivial
 refine avc_exit ?_
 cases hsy1
 intro q;cases q
 exact ⟨rfl,weak_cov ⟨rfl,rfl,trivial⟩ trivial⟩
 rintro y1 rfl
 replace h:=eL h
 refine avc_sq2<|avc_sq2<|avc_sq ?_
 refine sqa (a_move_d (lq rfl) rfl) ?_
 refine sqa (m_len (en:=eI) (l:=a0) (lq rfl) S37 rfl) ?_
 refine sqa (a_move_d (lq rfl) rfl) ?_
 refine sqa (m_len (en:=eI) (l:=a1) (lq rfl) S37 rfl) ?_
 refine sqa (a_lss (lq rfl) rfl rfl) ?_
 refine sq_nil ?_
 refine ifM rfl h (fun _ h=>?_) (fun _ h=>?_)
 refine avc_sq2<|avc_sq ?_
 refine sqa (a_assign_d (lq rfl) rfl) ?_
 refine sq_nil ?_
 cases h
 refine avc_ret ?_
 exact ret_1 rfl
 refine avc_skip<|avc_sq2<|avc_sq2<|avc_sq ?_
 refine sqa (a_move_d (lq rfl) rfl) ?_
 refine sqa (m_len (en:=eI) (l:=a0) (lq rfl) S37 rfl) ?_
 refine sqa (a_move_d (lq rfl) rfl) ?_
 refine sqa (m_len (en:=eI) (l:=a1) (lq rfl) S37 rfl) ?_
 refine sqa (a_gtr (lq rfl) rfl rfl) ?_
 refine sq_nil ?_
 refine ifM rfl h (fun _ h=>?_) (fun _ h=>?_)
 refine avc_sq2<|avc_sq ?_
 refine sqa (a_assign_d (lq rfl) rfl) ?_
 refine sq_nil ?_
 cases h
 refine avc_ret ?_
 exact ret_1 rfl
 refine avc_skip<|avc_sq2<|avc_sq ?_
 refine sqa (a_assign_d (lq rfl) rfl) ?_
 refine sq_nil ?_
 cases h
 refine avc_ret ?_
 exact ret_1 rfl
 rintro y1 rfl
 replace h:=eR h
 cases h
 exact ret_1 rfl
theorem ref01_Equal_c {a0} {a1} {r} (h:ref01_Equal a0 a1=some r):Contract Tryz.prog 11 [(dsl eI a0),(dsl eI a1)] [(db r)]:=by
 refine contract_of Tryz.func11 (by kernel_rfl) rfl (lq rfl) (lq rfl) fun w0 I0 hI0 hG0=>?_
 unfold ref01_Equal at h
 refine avc_sq2<|avc_sq ?_
 refine sqa (a_assign_d (lq rfl) rfl) ?_
 refine sq_nil<|avc_sq2<|avc_sq ?_
 refine sqa (a_move_d (lq rfl) rfl) ?_
 refine sqa (a_move_d (lq rfl) rfl) ?_
 obtain ⟨t7,ht7,h⟩:=bE h
 refine sqa (a_call (lq rfl) rfl (ref01_Compare_c ht7)) ?_
 refine sqa (a_eql (lq rfl) rfl rfl) ?_
 refine sqa (a_assign_d (lq rfl) rfl) ?_
 refine sq_nil ?_
 cases h
 refine avc_ret ?_
 exact ret_1 rfl
theorem casefold_Fold_c {a0} {a1} {r} (h:casefold_Fold a0 a1=some r):Contract Tryz.prog 17 [(eCase.dv a0),(dsl eI a1)] [(dsl eI r)]:=by
 refine contract_of Tryz.func17 (by kernel_rfl) rfl (lq rfl) (lq rfl) fun w0 I0 hI0 hG0=>?_
 unfold casefold_Fold at h
 refine avc_sq2<|avc_sq ?_
 refine sqa (m_box (size:=6) (lq rfl) rfl rfl) ?_
 refine sqa (a_assign_d (lq rfl) rfl) ?_
 refine sq_nil<|avc_sq2<|avc_sq ?_
 refine sqa (m_loadPt (lq rfl) G45 rfl rfl) ?_
 obtain ⟨t12,ht12,h⟩:=bE h
 refine sqa (a_call (lq rfl) rfl (casefold_foldings_c ht12)) ?_
 refine sqa (a_assign_d (lq rfl) rfl) ?_
 refine sq_nil<|avc_sq2<|avc_sq ?_
 refine sqa (a_assign_d (lq rfl) rfl) ?_
 refine sq_nil ?_
 refine avc_weak (weak_nil (t:=6) 1006 3 eI.size (lq rfl) (lq rfl) rfl rfl) ?_
 refine avc_sq2<|avc_sq2<|avc_sq ?_
 refine sqa (a_move_d (lq rfl) rfl) ?_
 refine sqa (m_len (en:=eI) (l:=a1) (lq rfl) S37 rfl) ?_
 refine sqa (a_move_d (lq rfl) rfl) ?_
 refine sq_nil<|avc_block ?_
 obtain ⟨y1,hy1,h⟩:=bE h
 refine avc_tail (e:=(.exit 0)) (S2:=⟨[(6,.row 1006)],[(1006,.row 3 eI.size false (eI.all y1))]⟩) ?_ ?_
 refine avc_loopM (fun x=>⟨[(5,.d (mpD kI (eL eI) t12)),(6,.row 1006),(13,.d (dsl eI a1)),(14,.d (di (a1.length:Int))),(15,.d (di x.1))],[(1006,.row 3 eI.size false (eI.all x.2))]⟩) hy1 (weak_cov ⟨rfl,rfl,rfl,rfl,rfl,trivial⟩ ⟨rfl,trivial⟩) ?_
 rintro ⟨v15,r1006⟩ sy1 hsy1
 replace hsy1:casefold_Fold_L0 a1 t12 v15 r1006=some sy1:=hsy1
 unfold casefold_Fold_L0 at hsy1
 refine avc_sq2<|avc_sq ?_
 refine sqa (a_lss (lq rfl) rfl rfl) ?_
 refine sq_nil<|avc_sq2 ?_
 refine ifM rfl hsy1 (fun _ hsy1=>?_) (fun _ hsy1=>?_)
 refine avc_skip<|avc_sq2 ?_
 obtain ⟨y2,hy2,hsy1⟩:=bE hsy1
 refine avc_tail (e:= .normal) (S2:=⟨[(5,.d (mpD kI (eL eI) t12)),(6,.row 1006),(13,.d (dsl eI a1)),(14,.d (di (a1.length:Int))),(15,.d (di v15))],[(1006,.row 3 eI.size false (eI.all y2))]⟩) ?_ ?_
 refine avc_block<|avc_sq2<|avc_sq ?_
 obtain ⟨t17,ht17,hy2⟩:=bE hy2
 refine sqa (m_index (en:=eI) (lq rfl) S37 rfl rfl ht17) ?_
 refine sqa (m_loadE (en:=eI) (l:=a1) (i:=v15) (v:=t17) (off:=0) (lq rfl) O3 rfl ht17 rfl) ?_
 refine sqa (a_assign_d (lq rfl) rfl) ?_
 refine sq_nil<|avc_sq2<|avc_sq ?_
 refine sqa (a_move_d (lq rfl) rfl) ?_
 refine sqa (a_move_d (lq rfl) rfl) ?_
 refine sqa (m_lookup2F (kv:=kI) (ev:=(eL eI)) (mp:=t12) (k:=t17) (zero:=[]) (lq rfl) M73 K3 rfl rfl kVal (fun _ _=> .nil _ _ _)) ?_
 refine sqa (a_move_tup (lq rfl) rfl) ?_
 refine sqa (a_extract (lq rfl) rfl rfl) ?_
 refine sqa (a_extract (lq rfl) rfl rfl) ?_
 refine sqa (a_assign_d (lq rfl) rfl) ?_
 refine sqa (a_assign_d (lq rfl) rfl) ?_
 refine sq_nil<|avc_sq2<|avc_sq ?_
 refine sqa (a_move_d (lq rfl) rfl) ?_
 refine sq_nil ?_
 refine ifM rfl hy2 (fun _ hy2=>?_) (fun _ hy2=>?_)
 refine avc_sq ?_
 refine sqa (a_move_row (lq rfl) rfl) ?_
 refine sqa (a_move_d (lq rfl) rfl) ?_
 obtain ⟨r1006_3,hr1006_3,hy2⟩:=bE hy2
 refine sq_b rfl (m_append (en:=eI) (l:=r1006) (m:=(mgetD t12 t17 [])) (lq rfl) S37 rfl rfl rfl hr1006_3 (by decide) (by decide) rfl rfl) ?_
 refine sqa (a_assign_row (lq rfl) rfl) ?_
 refine sq_nil ?_
 cases hy2
 exact out_mk (weak_cov ⟨rfl,rfl,rfl,rfl,rfl,trivial⟩ ⟨rfl,trivial⟩)
 refine avc_sq ?_
 refine sqa (a_move_row (lq rfl) rfl) ?_
 refine sqa (a_move_d (lq rfl) rfl) ?_
 refine sqa (a_lit (lq rfl) S37 rfl rfl rfl rfl (by decide) rfl) ?_
 obtain ⟨r1006_4,hr1006_4,hy2⟩:=bE hy2
 refine sq_b rfl (m_append (en:=eI) (l:=r1006) (m:=[t17]) (lq rfl) S37 rfl rfl rfl hr1006_4 (by decide) (by decide) rfl rfl) ?_
 refine sqa (a_assign_row (lq rfl) rfl) ?_
 refine sq_nil ?_
 cases hy2
 exact out_mk (weak_cov ⟨rfl,rfl,rfl,rfl,rfl,trivial⟩ ⟨rfl,trivial⟩)
 refine avc_sq ?_
 refine sqa (m_add (lq rfl) rfl rfl) ?_
 refine sqa (a_move_d (lq rfl) rfl) ?_
 refine sq_nil ?_
 cases hsy1
 exact weak_cov ⟨rfl,rfl,rfl,rfl,rfl,trivial⟩ ⟨rfl,trivial⟩
 refine avc_exit ?_
 cases hsy1
 intro q;cases q
 exact out_mk (weak_cov ⟨rfl,trivial⟩ ⟨rfl,trivial⟩)
 refine avc_sq2<|avc_sq ?_
 refine sqa (a_move_row (lq rfl) rfl) ?_
 refine sqa (a_assign_row (lq rfl) rfl) ?_
 refine sq_nil ?_
 cases h
 refine avc_ret ?_
 exact ret_1 rfl
theorem casefold_Closed_c {a0} {r} (h:casefold_Closed a0=some r):Contract Tryz.prog 22 [(eCase.dv a0)] [(db r)]:=by
 refine contract_of Tryz.func22 (by kernel_rfl) rfl (lq rfl) (lq rfl) fun w0 I0 hI0 hG0=>?_
 unfold casefold_Closed at h
 refine avc_sq2<|avc_sq ?_
 refine sqa (m_box (size:=6) (lq rfl) rfl rfl) ?_
 refine sqa (a_assign_d (lq rfl) rfl) ?_
 refine sq_nil<|avc_sq2<|avc_sq ?_
 refine sqa (m_loadPt (lq rfl) G45 rfl rfl) ?_
 obtain ⟨t11,ht11,h⟩:=bE h
 refine sqa (a_call (lq rfl) rfl (casefold_foldings_c ht11)) ?_
 refine sqa (a_assign_d (lq rfl) rfl) ?_
 refine sq_nil<|avc_sq2<|avc_sq2<|avc_sq ?_
 refine sqa (a_move_d (lq rfl) rfl) ?_
 refine sq_b rfl (m_range (lq rfl) M73.und rfl rfl) ?_
 refine sq_nil<|avc_block ?_
 refine avc_mapLoop (fun y=>y.elim (fun _=>(.exit 0)) (fun _=> .ret)) (fun y=>y.elim (fun y1=>⟨[],[]⟩) (fun y1=>⟨[(2,.d (db y1))],[]⟩)) (fun q x=>⟨[(3,.d (mpD kI (eL eI) t11)),(13,.row 13)],[(13,.it (mapE kI (eL eI) t11) q)]⟩) h (weak_cov ⟨rfl,rfl,trivial⟩ ⟨rfl,trivial⟩) ?_ ?_
 rintro q _ hbs hbn
 refine avc_sq2 ?_
 refine avc_next (lq rfl) rfl rfl rfl (fun i uk uv hi hq=>?_) (fun ha=>?_)
 refine next_some hbs hi hq fun sy1 hsy1=>?_
 replace hsy1:casefold_Closed_L0S t11 uk uv=some sy1:=hsy1
 unfold casefold_Closed_L0S at hsy1
 refine sqa (a_extract (lq rfl) rfl rfl) ?_
 refine sq_nil<|avc_sq2 ?_
 refine avc_if rfl ⟨fun _=>?_,fun c=>(by cases c)⟩
 refine avc_skip<|avc_block<|avc_sq2<|avc_sq ?_
 refine sqa (m_entry (k:=uk) (v:=uv) (lq rfl) rfl rfl hi) ?_
 refine sqa (a_extract (lq rfl) rfl rfl) ?_
 refine sqa (a_assign_d (lq rfl) rfl) ?_
 refine sq_nil<|avc_sq2<|avc_sq ?_
 refine sqa (a_move_d (lq rfl) rfl) ?_
 refine sqa (m_len (en:=eI) (l:=uv) (lq rfl) S37 rfl) ?_
 refine sqa (a_move_d (lq rfl) rfl) ?_
 refine sq_nil<|avc_block ?_
 obtain ⟨y2,hy2,hsy1⟩:=bE hsy1
 refine avc_tail2 y2 (.exit 2) (fun y2=>⟨[(3,.d (mpD kI (eL eI) t11)),(13,.row 13)],[(13,.it (mapE kI (eL eI) t11) (q++ [i]))]⟩) .ret (fun y2=>⟨[(2,.d (db y2))],[]⟩) ?_ ?_ ?_
 refine avc_loopM (fun x=>⟨[(3,.d (mpD kI (eL eI) t11)),(13,.row 13),(18,.d (dsl eI uv)),(19,.d (di (uv.length:Int))),(20,.d (di x))],[(13,.it (mapE kI (eL eI) t11) (q++ [i]))]⟩) hy2 (weak_cov ⟨rfl,rfl,rfl,rfl,rfl,trivial⟩ ⟨rfl,trivial⟩) ?_
 rintro v20 sy2 hsy2
 replace hsy2:casefold_Closed_L1 uv t11 v20=some sy2:=hsy2
 unfold casefold_Closed_L1 at hsy2
 refine avc_sq2<|avc_sq ?_
 refine sqa (a_lss (lq rfl) rfl rfl) ?_
 refine sq_nil<|avc_sq2 ?_
 refine ifM rfl hsy2 (fun _ hsy2=>?_) (fun _ hsy2=>?_)
 refine avc_skip<|avc_sq2<|avc_block<|avc_sq2<|avc_sq ?_
 obtain ⟨t22,ht22,hsy2⟩:=bE hsy2
 refine sqa (m_index (en:=eI) (lq rfl) S37 rfl rfl ht22) ?_
 refine sqa (m_loadE (en:=eI) (l:=uv) (i:=v20) (v:=t22) (off:=0) (lq rfl) O3 rfl ht22 rfl) ?_
 refine sqa (a_assign_d (lq rfl) rfl) ?_
 refine sq_nil<|avc_sq2<|avc_sq ?_
 refine sqa (a_move_d (lq rfl) rfl) ?_
 refine sqa (a_move_d (lq rfl) rfl) ?_
 refine sqa (m_lookup2F (kv:=kI) (ev:=(eL eI)) (mp:=t11) (k:=t22) (zero:=[]) (lq rfl) M73 K3 rfl rfl kVal (fun _ _=> .nil _ _ _)) ?_
 refine sqa (a_move_tup (lq rfl) rfl) ?_
 refine sqa (a_extract (lq rfl) rfl rfl) ?_
 refine sqa (a_extract (lq rfl) rfl rfl) ?_
 refine sqa (a_assign_d (lq rfl) rfl) ?_
 refine sqa (a_assign_d (lq rfl) rfl) ?_
 refine sq_nil<|avc_sq2<|avc_sq ?_
 refine sqa (a_move_d (lq rfl) rfl) ?_
 refine sq_nil ?_
 refine ifM rfl hsy2 (fun _ hsy2=>?_) (fun _ hsy2=>?_)
 refine avc_sq2<|avc_sq ?_
 refine sqa (a_assign_d (lq rfl) rfl) ?_
 refine sq_nil ?_
 refine avc_ret ?_
 cases hsy2
 intro q;cases q
 exact ⟨rfl,weak_cov ⟨rfl,trivial⟩ trivial⟩
 refine avc_skip<|avc_sq ?_
 refine sqa (m_add (lq rfl) rfl rfl) ?_
 refine sqa (a_move_d (lq rfl) rfl) ?_
 refine sq_nil ?_
 cases hsy2
 exact weak_cov ⟨rfl,rfl,rfl,rfl,rfl,trivial⟩ ⟨rfl,trivial⟩
 refine avc_exit ?_
 cases hsy2
 intro q;cases q
 exact ⟨rfl,weak_cov ⟨rfl,rfl,trivial⟩ ⟨rfl,trivial⟩⟩
 rintro y2 rfl
 replace hsy1:=eL hsy1
 cases hsy1
 exact weak_cov ⟨rfl,rfl,trivial⟩ ⟨rfl,trivial⟩
 rintro y2 rfl
 replace hsy1:=eR hsy1
 cases hsy1
 exact ⟨rfl,weak_cov ⟨rfl,trivial⟩ trivial⟩
 refine next_none hbn ha fun sy1 hsy1=>?_
 replace hsy1:casefold_Closed_L0N=some sy1:=hsy1
 unfold casefold_Closed_L0N at hsy1
 refine sqa (a_extract (lq rfl) rfl rfl) ?_
 refine sq_nil<|avc_sq2 ?_
 refine avc_if rfl ⟨fun c=>(by cases c),fun _=>?_⟩
 refine avc_exit ?_
 cases hsy1
 exact ⟨rfl,weak_cov trivial trivial⟩
 rintro (y1 | y1) h
 replace h:=eL h
 refine avc_sq2<|avc_sq ?_
 refine sqa (a_assign_d (lq rfl) rfl) ?_
 refine sq_nil ?_
 cases h
 refine avc_ret ?_
 exact ret_1 rfl
 replace h:=eR h
 cases h
 exact ret_1 rfl
theorem slices_Clone_int_int_g {a0 r:(List Int)} (h:slices_Clone_int_int a0=some r):GC Tryz.prog 86 [.d (dsl eI a0)] [] [] [.row 5] [(5,.row 3 eI.size false (eI.all r))]:=by
 unfold slices_Clone_int_int at h
 cases a0 with
 | nil=>
  refine gc_empty (by decide) fun B c=>?_
  refine gc_of Tryz.func86 (by kernel_rfl) rfl (lq rfl) (lq rfl) fun w0 I0 hG0 p0=>?_
  refine avc_sq2<|avc_sq ?_
  refine sqa (a_assign_d (lq rfl) rfl) ?_
  refine sq_nil<|avc_sq2<|avc_sq2<|avc_sq ?_
  refine sqa (a_move_d (lq rfl) rfl) ?_
  refine sqa (a_eqnil_v (lq rfl) Tryz.underlying37 rfl) ?_
  refine sq_nil ?_
  refine avc_if rfl ⟨fun c1=>?_,fun c1=>?_⟩
  obtain ⟨rfl,_⟩:=app_some h
  refine avc_sq2<|avc_sq ?_
  refine sqa (a_assign_d (lq rfl) rfl) ?_
  refine sq_nil ?_
  refine avc_weak (weak_nil (t:=2) 5 3 eI.size (lq rfl) (lq rfl) rfl rfl) ?_
  refine avc_ret ?_
  exact ⟨⟨_,_,rfl,rfl,rfl⟩,rfl,trivial⟩
  refine avc_skip<|avc_sq2<|avc_sq ?_
  refine sq_b rfl (step_buildSlice (lq rfl) S37 rfl rfl rfl rfl (by decide) rfl) ?_
  refine sqa (a_move_d (lq rfl) rfl) ?_
  refine sq_weak (weak_empty_d (t:=6) eI.size (lq rfl) rfl) ?_ (by simp)
  refine sq_b rfl (m_append (en:=eI) (l:=[]) (m:=[]) (lq rfl) S37 rfl rfl rfl h (by decide) (by decide) rfl rfl) ?_
  refine sqa (a_assign_row (lq rfl) rfl) ?_
  refine sq_nil ?_
  refine avc_ret ?_
  exact ⟨⟨_,_,rfl,rfl,rfl⟩,rfl,trivial⟩
 | cons x l=>
  refine gc_of Tryz.func86 (by kernel_rfl) rfl (lq rfl) (lq rfl) fun w0 I0 hG0 p0=>?_
  refine avc_sq2<|avc_sq ?_
  refine sqa (a_assign_d (lq rfl) rfl) ?_
  refine sq_nil<|avc_sq2<|avc_sq2<|avc_sq ?_
  refine sqa (a_move_d (lq rfl) rfl) ?_
  refine sqa (a_eqnil (lq rfl) Tryz.underlying37 rfl (all_ne (by decide))) ?_
  refine sq_nil ?_
  refine avc_if rfl ⟨fun c1=>(by cases c1),fun c1=>?_⟩
  refine avc_skip<|avc_sq2<|avc_sq ?_
  refine sq_b rfl (step_buildSlice (lq rfl) S37 rfl rfl rfl rfl (by decide) rfl) ?_
  refine sqa (a_move_d (lq rfl) rfl) ?_
  refine sq_b rfl (m_append (en:=eI) (l:=[]) (m:=x::l) (lq rfl) S37 rfl rfl rfl h (by decide) (by decide) rfl rfl) ?_
  refine sqa (a_assign_row (lq rfl) rfl) ?_
  refine sq_nil ?_
  refine avc_ret ?_
  exact ⟨⟨_,_,rfl,rfl,rfl⟩,rfl,trivial⟩
theorem casefold_Form_c {a0} {a1} {a2} {a3} {r} (h:casefold_Form a0 a1 a2 a3=some r):Contract Tryz.prog 48 [(eNorm.dv a0),(eCase.dv a1),(dsl eI a2),(di a3)] [(dsl eI r)]:=by
 refine contract_of Tryz.func48 (by kernel_rfl) rfl (lq rfl) (lq rfl) fun w0 I0 hI0 hG0=>?_
 unfold casefold_Form at h
 refine avc_sq2<|avc_sq ?_
 refine sqa (m_box (size:=3) (lq rfl) rfl rfl) ?_
 refine sqa (m_box (size:=6) (lq rfl) rfl rfl) ?_
 refine sqa (a_assign_d (lq rfl) rfl) ?_
 refine sq_nil<|avc_sq2<|avc_sq ?_
 refine sqa (a_assign_d (lq rfl) rfl) ?_
 refine sq_nil<|avc_sq2<|avc_sq2<|avc_sq ?_
 refine sqa (a_move_d (lq rfl) rfl) ?_
 refine sq_nil<|avc_block<|avc_sq2<|avc_block<|avc_sq2 ?_
 obtain ⟨y1,hy1,h⟩:=bE h
 refine avc_tail3 y1 (.exit 0) (fun y1=>⟨[(2,.d (dsl eI a2))],[]⟩) (.exit 3) (fun y1=>⟨[(2,.d (dsl eI a2)),(5,.d (.pt (eCase.cells a1)))],[]⟩) .normal (fun y1=>⟨[(2,.d (dsl eI a2)),(4,.d (.pt (eNorm.cells a0))),(5,.d (.pt (eCase.cells a1))),(9,.d (di 2))],[]⟩) ?_ ?_ ?_ ?_
 refine avc_block<|avc_sq2<|avc_block<|avc_sq2<|avc_sq2<|avc_sq2<|avc_sq ?_
 refine sqa (a_eql (lq rfl) rfl rfl) ?_
 refine sqa (a_assign_d (lq rfl) rfl) ?_
 refine sq_nil ?_
 refine ifM rfl hy1 (fun _ hy1=>?_) (fun _ hy1=>?_)
 refine avc_exit ?_
 refine avc_sq2 ?_
 refine avc_draw 5 MX rfl ?_
 refine daa (m_loadPt (lq rfl) G45 rfl rfl) ?_
 refine daa (m_loadPt (lq rfl) G28 rfl rfl) ?_
 refine daa (a_move_d (lq rfl) rfl) ?_
 refine daa (a_move_d (lq rfl) rfl) ?_
 cases hy1
 refine avc_skip<|avc_sq2<|avc_sq2<|avc_sq ?_
 refine sqa (a_eql (lq rfl) rfl rfl) ?_
 refine sqa (a_assign_d (lq rfl) rfl) ?_
 refine sq_nil ?_
 refine ifM rfl hy1 (fun _ hy1=>?_) (fun _ hy1=>?_)
 refine avc_exit ?_
 cases hy1
 exact ⟨rfl,weak_cov ⟨rfl,rfl,rfl,rfl,trivial⟩ trivial⟩
 refine avc_skip<|avc_sq2<|avc_sq ?_
 refine sqa (a_eql (lq rfl) rfl rfl) ?_
 refine sqa (a_assign_d (lq rfl) rfl) ?_
 refine sq_nil ?_
 refine ifM rfl hy1 (fun _ hy1=>?_) (fun _ hy1=>?_)
 refine avc_exit ?_
 cases hy1
 exact ⟨rfl,weak_cov ⟨rfl,rfl,trivial⟩ trivial⟩
 refine avc_skip ?_
 refine avc_exit ?_
 cases hy1
 exact ⟨rfl,weak_cov ⟨rfl,trivial⟩ trivial⟩
 rintro y1 rfl
 replace h:=eL h
 refine avc_sq2<|avc_sq ?_
 refine sqa (a_move_d (lq rfl) rfl) ?_
 obtain ⟨t37,ht37,h⟩:=bE h
 refine sq_b rfl (g_call [(5,2537)] (slices_Clone_int_int_g ht37) (lq rfl) (by decide) ⟨rfl,trivial⟩ rfl rfl trivial rfl rfl rfl (fun _=>rfl) rfl) ?_
 refine sqa (a_assign_row (lq rfl) rfl) ?_
 refine sq_nil ?_
 cases h
 refine avc_ret ?_
 exact ret_1 rfl
 rintro y1 rfl
 replace h:=eR h
 replace h:=eL h
 refine avc_sq2<|avc_sq2<|avc_sq ?_
 refine sqa (m_loadPt (lq rfl) G45 rfl rfl) ?_
 refine sqa (a_move_d (lq rfl) rfl) ?_
 obtain ⟨t35,ht35,h⟩:=bE h
 refine sqa (a_call (lq rfl) rfl (casefold_Fold_c ht35)) ?_
 refine sqa (a_assign_d (lq rfl) rfl) ?_
 refine sq_nil ?_
 cases h
 refine avc_ret ?_
 exact ret_1 rfl
 rintro y1 rfl
 replace h:=eR h
 replace h:=eR h
 refine avc_sq2<|avc_sq2 ?_
 refine avc_draw 5 MX rfl ?_
 refine daa (m_loadPt (lq rfl) G45 rfl rfl) ?_
 refine daa (m_loadPt (lq rfl) G28 rfl rfl) ?_
 refine daa (a_move_d (lq rfl) rfl) ?_
 refine daa (a_move_d (lq rfl) rfl) ?_
 cases h
theorem casefold_Match_c {a0} {a1} {a2} {a3} {a4} {r} (h:casefold_Match a0 a1 a2 a3 a4=some r):Contract Tryz.prog 24 [(eNorm.dv a0),(eCase.dv a1),(dsl eI a2),(dsl eI a3),(di a4)] [(db r)]:=by
 refine contract_of Tryz.func24 (by kernel_rfl) rfl (lq rfl) (lq rfl) fun w0 I0 hI0 hG0=>?_
 unfold casefold_Match at h
 refine avc_sq2<|avc_sq ?_
 refine sqa (m_box (size:=3) (lq rfl) rfl rfl) ?_
 refine sqa (m_box (size:=6) (lq rfl) rfl rfl) ?_
 refine sqa (a_assign_d (lq rfl) rfl) ?_
 refine sq_nil<|avc_sq2 ?_
 refine avc_drawA MX rfl ?_
 refine daa (m_loadPt (lq rfl) G28 rfl rfl) ?_
 refine daa (m_loadPt (lq rfl) G45 rfl rfl) ?_
 refine daa (a_move_d (lq rfl) rfl) ?_
 refine daa (a_move_d (lq rfl) rfl) ?_
 obtain ⟨t15,ht15,h⟩:=bE h
 refine daa (a_call (lq rfl) rfl (casefold_Form_c ht15)) ?_
 refine daa (m_loadPt (lq rfl) G28 rfl rfl) ?_
 refine daa (m_loadPt (lq rfl) G45 rfl rfl) ?_
 refine daa (a_move_d (lq rfl) rfl) ?_
 refine daa (a_move_d (lq rfl) rfl) ?_
 obtain ⟨t20,ht20,h⟩:=bE h
 refine daa (a_call (lq rfl) rfl (casefold_Form_c ht20)) ?_
 obtain ⟨t21,ht21,h⟩:=bE h
 refine daa (a_call (lq rfl) rfl (slices_Equal_int_int_c ht21)) ?_
 refine daa (a_assign_d (lq rfl) rfl) ?_
 refine da_nil ?_
 cases h
 refine avc_ret ?_
 exact ret_1 rfl
set_option maxRecDepth 40000 in
theorem law38_awake_c {r} (h:law38_awake=some r):Contract Tryz.prog 16 [] [(db r)]:=by
 refine contract_of Tryz.func16 (by kernel_rfl) rfl (lq rfl) (lq rfl) fun w0 I0 hI0 hG0=>?_
 unfold law38_awake at h
 refine avc_sq2<|avc_sq ?_
 refine sqa (a_assign_d (lq rfl) rfl) ?_
 refine sq_nil<|avc_sq2<|avc_sq ?_
 refine sqa (a_lit (lq rfl) S37 rfl rfl rfl rfl (by decide) rfl) ?_
 refine sqa (m_build (lq rfl) B72 rfl rfl) ?_
 refine sqa (a_lit (lq rfl) S37 rfl rfl rfl rfl (by decide) rfl) ?_
 refine sqa (m_build (lq rfl) B72 rfl rfl) ?_
 refine sqa (a_lit (lq rfl) S37 rfl rfl rfl rfl (by decide) rfl) ?_
 refine sqa (m_build (lq rfl) B72 rfl rfl) ?_
 refine sqa (a_lit (lq rfl) S23 rfl rfl rfl rfl (by decide) rfl) ?_
 refine sqa ((m_build (lq rfl) B45 rfl rfl).nils (bs:=eCase.cells ({Lower:=[],Upper:=[],Title:=[],Fold:=[({From:=75,To:=[107],Tag:=[]}:Mapping),({From:=223,To:=[115,115],Tag:=[]}:Mapping),({From:=8490,To:=[107],Tag:=[]}:Mapping)],Cased:=(({Ranges:=[]}):Set),Ignorable:=(({Ranges:=[]}):Set)}:Case)) (nlN (nlN (nlN (nlE (nlN (nlN nl0))))))) ?_
 refine sq_b rfl (step_alloc (zs:=[(.slice none 0 0),(.slice none 0 0),(.slice none 0 0),(.slice none 0 0),(.slice none 0 0),(.slice none 0 0)]) (lq rfl) (by kernel_rfl) rfl rfl) ?_
 refine sq_b rfl (s_store_boxA G45 rfl rfl rfl rfl rfl rfl) ?_
 refine sq_nil ?_
 refine avc_weak (weak_freeze (t:=1) (lq rfl) rfl rfl rfl) ?_
 refine avc_sq2<|avc_sq ?_
 refine sqa (m_loadPt (lq rfl) G45 rfl rfl) ?_
 obtain ⟨t11,ht11,h⟩:=bE h
 refine sqa (a_call (lq rfl) rfl (casefold_Orbit_c ht11)) ?_
 refine sqa (a_lit (lq rfl) S37 rfl rfl rfl rfl (by decide) rfl) ?_
 obtain ⟨t13,ht13,h⟩:=bE h
 refine sqa (a_call (lq rfl) rfl (ref01_Equal_c ht13)) ?_
 obtain ⟨b14,hb14,h⟩:=bE h
 refine sqa ((a_move_d (lq rfl) rfl).bool (Option.some.inj hb14)) ?_
 refine sq_g (x:= .d (eCase.dv ({Lower:=({Lower:=[],Upper:=[],Title:=[],Fold:=[({From:=75,To:=[107],Tag:=[]}:Mapping),({From:=223,To:=[115,115],Tag:=[]}:Mapping),({From:=8490,To:=[107],Tag:=[]}:Mapping)],Cased:=(({Ranges:=[]}):Set),Ignorable:=(({Ranges:=[]}):Set)}:Case).Lower,Upper:=({Lower:=[],Upper:=[],Title:=[],Fold:=[({From:=75,To:=[107],Tag:=[]}:Mapping),({From:=223,To:=[115,115],Tag:=[]}:Mapping),({From:=8490,To:=[107],Tag:=[]}:Mapping)],Cased:=(({Ranges:=[]}):Set),Ignorable:=(({Ranges:=[]}):Set)}:Case).Upper,Title:=({Lower:=[],Upper:=[],Title:=[],Fold:=[({From:=75,To:=[107],Tag:=[]}:Mapping),({From:=223,To:=[115,115],Tag:=[]}:Mapping),({From:=8490,To:=[107],Tag:=[]}:Mapping)],Cased:=(({Ranges:=[]}):Set),Ignorable:=(({Ranges:=[]}):Set)}:Case).Title,Fold:=({Lower:=[],Upper:=[],Title:=[],Fold:=[({From:=75,To:=[107],Tag:=[]}:Mapping),({From:=223,To:=[115,115],Tag:=[]}:Mapping),({From:=8490,To:=[107],Tag:=[]}:Mapping)],Cased:=(({Ranges:=[]}):Set),Ignorable:=(({Ranges:=[]}):Set)}:Case).Fold,Cased:=({Ranges:=(({Lower:=[],Upper:=[],Title:=[],Fold:=[({From:=75,To:=[107],Tag:=[]}:Mapping),({From:=223,To:=[115,115],Tag:=[]}:Mapping),({From:=8490,To:=[107],Tag:=[]}:Mapping)],Cased:=(({Ranges:=[]}):Set),Ignorable:=(({Ranges:=[]}):Set)}:Case).Cased).Ranges}:Set),Ignorable:=({Ranges:=(({Lower:=[],Upper:=[],Title:=[],Fold:=[({From:=75,To:=[107],Tag:=[]}:Mapping),({From:=223,To:=[115,115],Tag:=[]}:Mapping),({From:=8490,To:=[107],Tag:=[]}:Mapping)],Cased:=(({Ranges:=[]}):Set),Ignorable:=(({Ranges:=[]}):Set)}:Case).Ignorable).Ranges}:Set)}:Case))) rfl rfl rfl (lq rfl) (lq rfl) rfl (fun hb=>by obtain rfl:b14=true:=hb;exact m_loadPt (lq rfl) G45 rfl rfl) ?_
 refine sq_g (x:= .d (dsl eI [8490,223,65])) rfl rfl rfl (lq rfl) (lq rfl) rfl (fun hb=>by obtain rfl:b14=true:=hb;exact a_lit (lq rfl) S37 rfl rfl rfl rfl (by decide) rfl) ?_
 obtain ⟨t17,ht17,h⟩:=bE h
 refine sq_g (x:= .d (dsl eI t17)) rfl rfl rfl (lq rfl) (lq rfl) rfl (fun hb=>by obtain rfl:b14=true:=hb;exact a_call (lq rfl) rfl (casefold_Fold_c (gT ht17))) ?_
 refine sq_g (x:= .d (dsl eI [107,115,115,65])) rfl rfl rfl (lq rfl) (lq rfl) rfl (fun hb=>by obtain rfl:b14=true:=hb;exact a_lit (lq rfl) S37 rfl rfl rfl rfl (by decide) rfl) ?_
 obtain ⟨t19,ht19,h⟩:=bE h
 refine sq_g (x:= .d (db t19)) rfl rfl rfl (lq rfl) (lq rfl) rfl (fun hb=>by obtain rfl:b14=true:=hb;exact a_call (lq rfl) rfl (ref01_Equal_c ht19)) ?_
 refine sqa (a_pick_and (lq rfl) rfl rfl) ?_
 obtain ⟨b21,hb21,h⟩:=bE h
 refine sqa ((a_move_d (lq rfl) rfl).bool (Option.some.inj hb21)) ?_
 refine sq_g (x:= .d (eCase.dv ({Lower:=({Lower:=[],Upper:=[],Title:=[],Fold:=[({From:=75,To:=[107],Tag:=[]}:Mapping),({From:=223,To:=[115,115],Tag:=[]}:Mapping),({From:=8490,To:=[107],Tag:=[]}:Mapping)],Cased:=(({Ranges:=[]}):Set),Ignorable:=(({Ranges:=[]}):Set)}:Case).Lower,Upper:=({Lower:=[],Upper:=[],Title:=[],Fold:=[({From:=75,To:=[107],Tag:=[]}:Mapping),({From:=223,To:=[115,115],Tag:=[]}:Mapping),({From:=8490,To:=[107],Tag:=[]}:Mapping)],Cased:=(({Ranges:=[]}):Set),Ignorable:=(({Ranges:=[]}):Set)}:Case).Upper,Title:=({Lower:=[],Upper:=[],Title:=[],Fold:=[({From:=75,To:=[107],Tag:=[]}:Mapping),({From:=223,To:=[115,115],Tag:=[]}:Mapping),({From:=8490,To:=[107],Tag:=[]}:Mapping)],Cased:=(({Ranges:=[]}):Set),Ignorable:=(({Ranges:=[]}):Set)}:Case).Title,Fold:=({Lower:=[],Upper:=[],Title:=[],Fold:=[({From:=75,To:=[107],Tag:=[]}:Mapping),({From:=223,To:=[115,115],Tag:=[]}:Mapping),({From:=8490,To:=[107],Tag:=[]}:Mapping)],Cased:=(({Ranges:=[]}):Set),Ignorable:=(({Ranges:=[]}):Set)}:Case).Fold,Cased:=({Ranges:=(({Lower:=[],Upper:=[],Title:=[],Fold:=[({From:=75,To:=[107],Tag:=[]}:Mapping),({From:=223,To:=[115,115],Tag:=[]}:Mapping),({From:=8490,To:=[107],Tag:=[]}:Mapping)],Cased:=(({Ranges:=[]}):Set),Ignorable:=(({Ranges:=[]}):Set)}:Case).Cased).Ranges}:Set),Ignorable:=({Ranges:=(({Lower:=[],Upper:=[],Title:=[],Fold:=[({From:=75,To:=[107],Tag:=[]}:Mapping),({From:=223,To:=[115,115],Tag:=[]}:Mapping),({From:=8490,To:=[107],Tag:=[]}:Mapping)],Cased:=(({Ranges:=[]}):Set),Ignorable:=(({Ranges:=[]}):Set)}:Case).Ignorable).Ranges}:Set)}:Case))) rfl rfl rfl (lq rfl) (lq rfl) rfl (fun hb=>by obtain rfl:b21=true:=hb;exact m_loadPt (lq rfl) G45 rfl rfl) ?_
 obtain ⟨t23,ht23,h⟩:=bE h
 refine sq_g (x:= .d (db t23)) rfl rfl rfl (lq rfl) (lq rfl) rfl (fun hb=>by obtain rfl:b21=true:=hb;exact a_call (lq rfl) rfl (casefold_Closed_c (gT ht23))) ?_
 refine sqa (a_pick_and (lq rfl) rfl rfl) ?_
 obtain ⟨b25,hb25,h⟩:=bE h
 refine sqa ((a_move_d (lq rfl) rfl).bool (Option.some.inj hb25)) ?_
 refine sq_g (x:= .d (eNorm.dv ({Classes:=[],Decomp:=[],Excluded:=(({Ranges:=[]}):Set)}:Norm))) rfl rfl rfl (lq rfl) (lq rfl) rfl (fun hb=>by obtain rfl:b25=true:=hb;exact (m_build (lq rfl) B28 rfl rfl).nils (bs:=eNorm.cells ({Classes:=[],Decomp:=[],Excluded:=(({Ranges:=[]}):Set)}:Norm)) (nlN (nlN (nlN nl0)))) ?_
 refine sq_g (x:= .d (eCase.dv ({Lower:=({Lower:=[],Upper:=[],Title:=[],Fold:=[({From:=75,To:=[107],Tag:=[]}:Mapping),({From:=223,To:=[115,115],Tag:=[]}:Mapping),({From:=8490,To:=[107],Tag:=[]}:Mapping)],Cased:=(({Ranges:=[]}):Set),Ignorable:=(({Ranges:=[]}):Set)}:Case).Lower,Upper:=({Lower:=[],Upper:=[],Title:=[],Fold:=[({From:=75,To:=[107],Tag:=[]}:Mapping),({From:=223,To:=[115,115],Tag:=[]}:Mapping),({From:=8490,To:=[107],Tag:=[]}:Mapping)],Cased:=(({Ranges:=[]}):Set),Ignorable:=(({Ranges:=[]}):Set)}:Case).Upper,Title:=({Lower:=[],Upper:=[],Title:=[],Fold:=[({From:=75,To:=[107],Tag:=[]}:Mapping),({From:=223,To:=[115,115],Tag:=[]}:Mapping),({From:=8490,To:=[107],Tag:=[]}:Mapping)],Cased:=(({Ranges:=[]}):Set),Ignorable:=(({Ranges:=[]}):Set)}:Case).Title,Fold:=({Lower:=[],Upper:=[],Title:=[],Fold:=[({From:=75,To:=[107],Tag:=[]}:Mapping),({From:=223,To:=[115,115],Tag:=[]}:Mapping),({From:=8490,To:=[107],Tag:=[]}:Mapping)],Cased:=(({Ranges:=[]}):Set),Ignorable:=(({Ranges:=[]}):Set)}:Case).Fold,Cased:=({Ranges:=(({Lower:=[],Upper:=[],Title:=[],Fold:=[({From:=75,To:=[107],Tag:=[]}:Mapping),({From:=223,To:=[115,115],Tag:=[]}:Mapping),({From:=8490,To:=[107],Tag:=[]}:Mapping)],Cased:=(({Ranges:=[]}):Set),Ignorable:=(({Ranges:=[]}):Set)}:Case).Cased).Ranges}:Set),Ignorable:=({Ranges:=(({Lower:=[],Upper:=[],Title:=[],Fold:=[({From:=75,To:=[107],Tag:=[]}:Mapping),({From:=223,To:=[115,115],Tag:=[]}:Mapping),({From:=8490,To:=[107],Tag:=[]}:Mapping)],Cased:=(({Ranges:=[]}):Set),Ignorable:=(({Ranges:=[]}):Set)}:Case).Ignorable).Ranges}:Set)}:Case))) rfl rfl rfl (lq rfl) (lq rfl) rfl (fun hb=>by obtain rfl:b25=true:=hb;exact m_loadPt (lq rfl) G45 rfl rfl) ?_
 refine sq_g (x:= .d (dsl eI [75])) rfl rfl rfl (lq rfl) (lq rfl) rfl (fun hb=>by obtain rfl:b25=true:=hb;exact a_lit (lq rfl) S37 rfl rfl rfl rfl (by decide) rfl) ?_
 refine sq_g (x:= .d (dsl eI [8490])) rfl rfl rfl (lq rfl) (lq rfl) rfl (fun hb=>by obtain rfl:b25=true:=hb;exact a_lit (lq rfl) S37 rfl rfl rfl rfl (by decide) rfl) ?_
 obtain ⟨t30,ht30,h⟩:=bE h
 refine sq_g (x:= .d (db t30)) rfl rfl rfl (lq rfl) (lq rfl) rfl (fun hb=>by obtain rfl:b25=true:=hb;exact a_call (lq rfl) rfl (casefold_Match_c (gT ht30))) ?_
 refine sqa (a_pick_and (lq rfl) rfl rfl) ?_
 obtain ⟨b32,hb32,h⟩:=bE h
 refine sqa ((a_move_d (lq rfl) rfl).bool (Option.some.inj hb32)) ?_
 refine sq_g (x:= .d (eNorm.dv ({Classes:=[],Decomp:=[],Excluded:=(({Ranges:=[]}):Set)}:Norm))) rfl rfl rfl (lq rfl) (lq rfl) rfl (fun hb=>by obtain rfl:b32=true:=hb;exact (m_build (lq rfl) B28 rfl rfl).nils (bs:=eNorm.cells ({Classes:=[],Decomp:=[],Excluded:=(({Ranges:=[]}):Set)}:Norm)) (nlN (nlN (nlN nl0)))) ?_
 refine sq_g (x:= .d (eCase.dv ({Lower:=({Lower:=[],Upper:=[],Title:=[],Fold:=[({From:=75,To:=[107],Tag:=[]}:Mapping),({From:=223,To:=[115,115],Tag:=[]}:Mapping),({From:=8490,To:=[107],Tag:=[]}:Mapping)],Cased:=(({Ranges:=[]}):Set),Ignorable:=(({Ranges:=[]}):Set)}:Case).Lower,Upper:=({Lower:=[],Upper:=[],Title:=[],Fold:=[({From:=75,To:=[107],Tag:=[]}:Mapping),({From:=223,To:=[115,115],Tag:=[]}:Mapping),({From:=8490,To:=[107],Tag:=[]}:Mapping)],Cased:=(({Ranges:=[]}):Set),Ignorable:=(({Ranges:=[]}):Set)}:Case).Upper,Title:=({Lower:=[],Upper:=[],Title:=[],Fold:=[({From:=75,To:=[107],Tag:=[]}:Mapping),({From:=223,To:=[115,115],Tag:=[]}:Mapping),({From:=8490,To:=[107],Tag:=[]}:Mapping)],Cased:=(({Ranges:=[]}):Set),Ignorable:=(({Ranges:=[]}):Set)}:Case).Title,Fold:=({Lower:=[],Upper:=[],Title:=[],Fold:=[({From:=75,To:=[107],Tag:=[]}:Mapping),({From:=223,To:=[115,115],Tag:=[]}:Mapping),({From:=8490,To:=[107],Tag:=[]}:Mapping)],Cased:=(({Ranges:=[]}):Set),Ignorable:=(({Ranges:=[]}):Set)}:Case).Fold,Cased:=({Ranges:=(({Lower:=[],Upper:=[],Title:=[],Fold:=[({From:=75,To:=[107],Tag:=[]}:Mapping),({From:=223,To:=[115,115],Tag:=[]}:Mapping),({From:=8490,To:=[107],Tag:=[]}:Mapping)],Cased:=(({Ranges:=[]}):Set),Ignorable:=(({Ranges:=[]}):Set)}:Case).Cased).Ranges}:Set),Ignorable:=({Ranges:=(({Lower:=[],Upper:=[],Title:=[],Fold:=[({From:=75,To:=[107],Tag:=[]}:Mapping),({From:=223,To:=[115,115],Tag:=[]}:Mapping),({From:=8490,To:=[107],Tag:=[]}:Mapping)],Cased:=(({Ranges:=[]}):Set),Ignorable:=(({Ranges:=[]}):Set)}:Case).Ignorable).Ranges}:Set)}:Case))) rfl rfl rfl (lq rfl) (lq rfl) rfl (fun hb=>by obtain rfl:b32=true:=hb;exact m_loadPt (lq rfl) G45 rfl rfl) ?_
 refine sq_g (x:= .d (dsl eI [75])) rfl rfl rfl (lq rfl) (lq rfl) rfl (fun hb=>by obtain rfl:b32=true:=hb;exact a_lit (lq rfl) S37 rfl rfl rfl rfl (by decide) rfl) ?_
 refine sq_g (x:= .d (dsl eI [8490])) rfl rfl rfl (lq rfl) (lq rfl) rfl (fun hb=>by obtain rfl:b32=true:=hb;exact a_lit (lq rfl) S37 rfl rfl rfl rfl (by decide) rfl) ?_
 obtain ⟨t37,ht37,h⟩:=bE h
 refine sq_g (x:= .d (db t37)) rfl rfl rfl (lq rfl) (lq rfl) rfl (fun hb=>by obtain rfl:b32=true:=hb;exact a_call (lq rfl) rfl (casefold_Match_c (gT ht37))) ?_
 refine sq_g (x:= .d (db (!t37))) rfl rfl rfl (lq rfl) (lq rfl) rfl (fun hb=>by obtain rfl:b32=true:=hb;exact a_not (lq rfl) rfl) ?_
 refine sqa (a_pick_and (lq rfl) rfl rfl) ?_
 refine sqa (a_assign_d (lq rfl) rfl) ?_
 refine sq_nil ?_
 cases h
 refine avc_ret ?_
 exact ret_1 rfl
theorem ref01_Valid_c {a0} {r} (h:ref01_Valid a0=some r):Contract Tryz.prog 21 [(di a0)] [(db r)]:=by
 refine contract_of Tryz.func21 (by kernel_rfl) rfl (lq rfl) (lq rfl) fun w0 I0 hI0 hG0=>?_
 unfold ref01_Valid at h
 refine avc_sq2<|avc_sq ?_
 refine sqa (a_assign_d (lq rfl) rfl) ?_
 refine sq_nil<|avc_sq2<|avc_sq ?_
 refine sqa (a_move_d (lq rfl) rfl) ?_
 refine sqa (a_geq (lq rfl) rfl rfl) ?_
 obtain ⟨b5,hb5,h⟩:=bE h
 refine sqa ((a_move_d (lq rfl) rfl).bool (Option.some.inj hb5)) ?_
 refine sq_g (x:= .d (di a0)) rfl rfl rfl (lq rfl) (lq rfl) rfl (fun hb=>by obtain rfl:b5=true:=hb;exact a_move_d (lq rfl) rfl) ?_
 refine sq_g (x:= .d (db (decide (a0≤1114111)))) rfl rfl rfl (lq rfl) (lq rfl) rfl (fun hb=>by obtain rfl:b5=true:=hb;exact a_leq (lq rfl) rfl rfl) ?_
 refine sqa (a_pick_and (lq rfl) rfl rfl) ?_
 refine sqa (a_assign_d (lq rfl) rfl) ?_
 refine sq_nil ?_
 cases h
 refine avc_ret ?_
 exact ret_1 rfl
theorem ref11_codes_c {a0} {r} (h:ref11_codes a0=some r):Contract Tryz.prog 186 [(eMapping.dv a0)] [(db r)]:=by
 refine contract_of Tryz.func186 (by kernel_rfl) rfl (lq rfl) (lq rfl) fun w0 I0 hI0 hG0=>?_
 unfold ref11_codes at h
 refine avc_sq2<|avc_sq ?_
 refine sqa (m_box (size:=3) (lq rfl) rfl rfl) ?_
 refine sqa (a_assign_d (lq rfl) rfl) ?_
 refine sq_nil<|avc_sq2<|avc_sq2<|avc_sq ?_
 refine sqa (a_assign_d (lq rfl) rfl) ?_
 refine sq_nil<|avc_block ?_
 obtain ⟨y1,hy1,h⟩:=bE h
 refine avc_tail2 y1 (.exit 0) (fun y1=>⟨[(1,.d (.pt (eMapping.cells a0)))],[]⟩) .ret (fun y1=>⟨[(2,.d (db y1))],[]⟩) ?_ ?_ ?_
 refine avc_loopM (fun x=>⟨[(1,.d (.pt (eMapping.cells a0))),(3,.d (di x))],[]⟩) hy1 (weak_cov ⟨rfl,rfl,trivial⟩ trivial) ?_
 rintro v3 sy1 hsy1
 replace hsy1:ref11_codes_L0 a0 v3=some sy1:=hsy1
 unfold ref11_codes_L0 at hsy1
 refine avc_sq2<|avc_sq2<|avc_sq ?_
 refine sqa (a_move_d (lq rfl) rfl) ?_
 refine sqa (m_fieldPt (lq rfl) L72_1 rfl) ?_
 refine sqa (a_load_ip (lq rfl) O37 rfl rfl) ?_
 refine sqa (m_len (en:=eI) (l:=a0.To) (lq rfl) S37 rfl) ?_
 refine sqa (a_lss (lq rfl) rfl rfl) ?_
 refine sq_nil ?_
 refine ifM rfl hsy1 (fun _ hsy1=>?_) (fun _ hsy1=>?_)
 refine avc_skip<|avc_sq2<|avc_block<|avc_sq2<|avc_sq ?_
 refine sqa (m_fieldPt (lq rfl) L72_1 rfl) ?_
 refine sqa (a_load_ip (lq rfl) O37 rfl rfl) ?_
 refine sqa (a_move_d (lq rfl) rfl) ?_
 obtain ⟨t14,ht14,hsy1⟩:=bE hsy1
 refine sqa (m_index (en:=eI) (lq rfl) S37 rfl rfl ht14) ?_
 refine sqa (m_loadE (en:=eI) (l:=a0.To) (i:=v3) (v:=t14) (off:=0) (lq rfl) O3 rfl ht14 rfl) ?_
 obtain ⟨t16,ht16,hsy1⟩:=bE hsy1
 refine sqa (a_call (lq rfl) rfl (ref01_Valid_c ht16)) ?_
 refine sqa (a_not (lq rfl) rfl) ?_
 refine sq_nil ?_
 refine ifM rfl hsy1 (fun _ hsy1=>?_) (fun _ hsy1=>?_)
 refine avc_sq2<|avc_sq ?_
 refine sqa (a_assign_d (lq rfl) rfl) ?_
 refine sq_nil ?_
 refine avc_ret ?_
 cases hsy1
 intro q;cases q
 exact ⟨rfl,weak_cov ⟨rfl,trivial⟩ trivial⟩
 refine avc_skip<|avc_sq ?_
 refine sqa (a_move_d (lq rfl) rfl) ?_
 refine sqa (m_add (lq rfl) rfl rfl) ?_
 refine sqa (a_assign_d (lq rfl) rfl) ?_
 refine sq_nil ?_
 cases hsy1
 exact weak_cov ⟨rfl,rfl,trivial⟩ trivial
 refine avc_exit ?_
 cases hsy1
 intro q;cases q
 exact ⟨rfl,weak_cov ⟨rfl,trivial⟩ trivial⟩
 rintro y1 rfl
 replace h:=eL h
 refine avc_sq2<|avc_sq ?_
 refine sqa (m_fieldPt (lq rfl) L72_0 rfl) ?_
 refine sqa (a_load_ip (lq rfl) O3 rfl rfl) ?_
 obtain ⟨t20,ht20,h⟩:=bE h
 refine sqa (a_call (lq rfl) rfl (ref01_Valid_c ht20)) ?_
 refine sqa (a_assign_d (lq rfl) rfl) ?_
 refine sq_nil ?_
 cases h
 refine avc_ret ?_
 exact ret_1 rfl
 rintro y1 rfl
 replace h:=eR h
 cases h
 exact ret_1 rfl
theorem ref11_Name_c {a0} {r} (h:ref11_Name a0=some r):Contract Tryz.prog 107 [(ds a0)] [(db r)]:=by
 refine contract_of Tryz.func107 (by kernel_rfl) rfl (lq rfl) (lq rfl) fun w0 I0 hI0 hG0=>?_
 unfold ref11_Name at h
 refine avc_sq2<|avc_sq ?_
 refine sqa (a_assign_d (lq rfl) rfl) ?_
 refine sq_nil<|avc_sq2<|avc_sq2<|avc_sq ?_
 refine sqa (a_assign_d (lq rfl) rfl) ?_
 refine sq_nil<|avc_block ?_
 obtain ⟨y1,hy1,h⟩:=bE h
 refine avc_tail2 y1 (.exit 0) (fun y1=>⟨[(0,.d (ds a0))],[]⟩) .ret (fun y1=>⟨[(2,.d (db y1))],[]⟩) ?_ ?_ ?_
 refine avc_loopM (fun x=>⟨[(0,.d (ds a0)),(3,.d (di x))],[]⟩) hy1 (weak_cov ⟨rfl,rfl,trivial⟩ trivial) ?_
 rintro v3 sy1 hsy1
 replace hsy1:ref11_Name_L0 a0 v3=some sy1:=hsy1
 unfold ref11_Name_L0 at hsy1
 refine avc_sq2<|avc_sq2<|avc_sq ?_
 refine sqa (a_move_d (lq rfl) rfl) ?_
 refine sqa (a_move_d (lq rfl) rfl) ?_
 refine sqa (m_slen (s:=a0) (lq rfl) Tryz.underlying9 rfl) ?_
 refine sqa (a_lss (lq rfl) rfl rfl) ?_
 refine sq_nil ?_
 refine ifM rfl hsy1 (fun _ hsy1=>?_) (fun _ hsy1=>?_)
 refine avc_skip<|avc_sq2<|avc_block<|avc_sq2<|avc_sq ?_
 refine sqa (a_move_d (lq rfl) rfl) ?_
 refine sqa (a_move_d (lq rfl) rfl) ?_
 obtain ⟨t13,ht13,hsy1⟩:=bE hsy1
 refine sqa (m_sindex (s:=a0) (lq rfl) Tryz.underlying9 rfl rfl ht13) ?_
 refine sqa (a_assign_d (lq rfl) rfl) ?_
 refine sq_nil<|avc_sq2<|avc_sq ?_
 refine sqa (a_move_d (lq rfl) rfl) ?_
 refine sqa (a_geq (lq rfl) rfl rfl) ?_
 obtain ⟨b16,hb16,hsy1⟩:=bE hsy1
 refine sqa ((a_move_d (lq rfl) rfl).bool (Option.some.inj hb16)) ?_
 refine sq_g (x:= .d (dby t13)) rfl rfl rfl (lq rfl) (lq rfl) rfl (fun hb=>by obtain rfl:b16=true:=hb;exact a_move_d (lq rfl) rfl) ?_
 refine sq_g (x:= .d (db (decide (t13≤90)))) rfl rfl rfl (lq rfl) (lq rfl) rfl (fun hb=>by obtain rfl:b16=true:=hb;exact a_leq (lq rfl) rfl rfl) ?_
 refine sqa (a_pick_and (lq rfl) rfl rfl) ?_
 obtain ⟨b20,hb20,hsy1⟩:=bE hsy1
 refine sqa ((a_move_d (lq rfl) rfl).bool (Option.some.inj hb20)) ?_
 refine sq_g (x:= .d (dby t13)) rfl rfl rfl (lq rfl) (lq rfl) rfl (fun hb=>by obtain rfl:=gF hb;exact a_move_d (lq rfl) rfl) ?_
 refine sq_g (x:= .d (db (decide (97≤t13)))) rfl rfl rfl (lq rfl) (lq rfl) rfl (fun hb=>by obtain rfl:=gF hb;exact a_geq (lq rfl) rfl rfl) ?_
 obtain ⟨b23,hb23,hsy1⟩:=bE hsy1
 refine sq_g (x:= .d (db b23)) rfl rfl rfl (lq rfl) (lq rfl) rfl (fun hb=>by obtain rfl:=gF hb;exact (a_move_d (lq rfl) rfl).bool (Option.some.inj hb23)) ?_
 refine sq_g2 (x:= .d (dby t13)) rfl rfl rfl (lq rfl) (lq rfl) rfl (fun hb=>by obtain ⟨hb,hb1⟩:=and_split hb;obtain rfl:=gF hb;obtain rfl:b23=true:=hb1;exact a_move_d (lq rfl) rfl) ?_
 refine sq_g2 (x:= .d (db (decide (t13≤122)))) rfl rfl rfl (lq rfl) (lq rfl) rfl (fun hb=>by obtain ⟨hb,hb1⟩:=and_split hb;obtain rfl:=gF hb;obtain rfl:b23=true:=hb1;exact a_leq (lq rfl) rfl rfl) ?_
 refine sq_g (x:= .d (db (b23&&(decide (t13≤122))))) rfl rfl rfl (lq rfl) (lq rfl) rfl (fun hb=>by obtain rfl:=gF hb;exact a_pick_and (lq rfl) rfl rfl) ?_
 refine sqa (a_pick_or (lq rfl) rfl rfl) ?_
 obtain ⟨b28,hb28,hsy1⟩:=bE hsy1
 refine sqa ((a_move_d (lq rfl) rfl).bool (Option.some.inj hb28)) ?_
 refine sq_g (x:= .d (dby t13)) rfl rfl rfl (lq rfl) (lq rfl) rfl (fun hb=>by obtain rfl:=gF hb;exact a_move_d (lq rfl) rfl) ?_
 refine sq_g (x:= .d (db (decide (48≤t13)))) rfl rfl rfl (lq rfl) (lq rfl) rfl (fun hb=>by obtain rfl:=gF hb;exact a_geq (lq rfl) rfl rfl) ?_
 obtain ⟨b31,hb31,hsy1⟩:=bE hsy1
 refine sq_g (x:= .d (db b31)) rfl rfl rfl (lq rfl) (lq rfl) rfl (fun hb=>by obtain rfl:=gF hb;exact (a_move_d (lq rfl) rfl).bool (Option.some.inj hb31)) ?_
 refine sq_g2 (x:= .d (dby t13)) rfl rfl rfl (lq rfl) (lq rfl) rfl (fun hb=>by obtain ⟨hb,hb1⟩:=and_split hb;obtain rfl:=gF hb;obtain rfl:b31=true:=hb1;exact a_move_d (lq rfl) rfl) ?_
 refine sq_g2 (x:= .d (db (decide (t13≤57)))) rfl rfl rfl (lq rfl) (lq rfl) rfl (fun hb=>by obtain ⟨hb,hb1⟩:=and_split hb;obtain rfl:=gF hb;obtain rfl:b31=true:=hb1;exact a_leq (lq rfl) rfl rfl) ?_
 refine sq_g (x:= .d (db (b31&&(decide (t13≤57))))) rfl rfl rfl (lq rfl) (lq rfl) rfl (fun hb=>by obtain rfl:=gF hb;exact a_pick_and (lq rfl) rfl rfl) ?_
 refine sqa (a_pick_or (lq rfl) rfl rfl) ?_
 obtain ⟨b36,hb36,hsy1⟩:=bE hsy1
 refine sqa ((a_move_d (lq rfl) rfl).bool (Option.some.inj hb36)) ?_
 refine sq_g (x:= .d (dby t13)) rfl rfl rfl (lq rfl) (lq rfl) rfl (fun hb=>by obtain rfl:=gF hb;exact a_move_d (lq rfl) rfl) ?_
 refine sq_g (x:= .d (db (decide (t13=95)))) rfl rfl rfl (lq rfl) (lq rfl) rfl (fun hb=>by obtain rfl:=gF hb;exact a_eql (lq rfl) rfl rfl) ?_
 refine sqa (a_pick_or (lq rfl) rfl rfl) ?_
 refine sqa (a_not (lq rfl) rfl) ?_
 refine sq_nil ?_
 refine ifM rfl hsy1 (fun _ hsy1=>?_) (fun _ hsy1=>?_)
 refine avc_sq2<|avc_sq ?_
 refine sqa (a_assign_d (lq rfl) rfl) ?_
 refine sq_nil ?_
 refine avc_ret ?_
 cases hsy1
 intro q;cases q
 exact ⟨rfl,weak_cov ⟨rfl,trivial⟩ trivial⟩
 refine avc_skip<|avc_sq ?_
 refine sqa (a_move_d (lq rfl) rfl) ?_
 refine sqa (m_add (lq rfl) rfl rfl) ?_
 refine sqa (a_assign_d (lq rfl) rfl) ?_
 refine sq_nil ?_
 cases hsy1
 exact weak_cov ⟨rfl,rfl,trivial⟩ trivial
 refine avc_exit ?_
 cases hsy1
 intro q;cases q
 exact ⟨rfl,weak_cov ⟨rfl,trivial⟩ trivial⟩
 rintro y1 rfl
 replace h:=eL h
 refine avc_sq2<|avc_sq ?_
 refine sqa (a_move_d (lq rfl) rfl) ?_
 refine sqa (m_slen (s:=a0) (lq rfl) Tryz.underlying9 rfl) ?_
 refine sqa (a_geq (lq rfl) rfl rfl) ?_
 obtain ⟨b44,hb44,h⟩:=bE h
 refine sqa ((a_move_d (lq rfl) rfl).bool (Option.some.inj hb44)) ?_
 refine sq_g (x:= .d (ds a0)) rfl rfl rfl (lq rfl) (lq rfl) rfl (fun hb=>by obtain rfl:b44=true:=hb;exact a_move_d (lq rfl) rfl) ?_
 refine sq_g (x:= .d (di (a0.length:Int))) rfl rfl rfl (lq rfl) (lq rfl) rfl (fun hb=>by obtain rfl:b44=true:=hb;exact m_slen (s:=a0) (lq rfl) Tryz.underlying9 rfl) ?_
 refine sq_g (x:= .d (db (decide ((a0.length:Int)≤32)))) rfl rfl rfl (lq rfl) (lq rfl) rfl (fun hb=>by obtain rfl:b44=true:=hb;exact a_leq (lq rfl) rfl rfl) ?_
 refine sqa (a_pick_and (lq rfl) rfl rfl) ?_
 refine sqa (a_assign_d (lq rfl) rfl) ?_
 refine sq_nil ?_
 cases h
 refine avc_ret ?_
 exact ret_1 rfl
 rintro y1 rfl
 replace h:=eR h
 cases h
 exact ret_1 rfl
theorem ref11_twice_c {a0} {r} (h:ref11_twice a0=some r):Contract Tryz.prog 187 [(dsl eMapping a0)] [(db r)]:=by
 refine contract_of Tryz.func187 (by kernel_rfl) rfl (lq rfl) (lq rfl) fun w0 I0 hI0 hG0=>?_
 unfold ref11_twice at h
 refine avc_sq2<|avc_sq ?_
 refine sqa (a_assign_d (lq rfl) rfl) ?_
 refine sq_nil<|avc_sq2<|avc_sq2<|avc_sq ?_
 refine sqa (a_assign_d (lq rfl) rfl) ?_
 refine sq_nil<|avc_block ?_
 obtain ⟨y1,hy1,h⟩:=bE h
 refine avc_tail2 y1 (.exit 0) (fun y1=>⟨[],[]⟩) .ret (fun y1=>⟨[(2,.d (db y1))],[]⟩) ?_ ?_ ?_
 refine avc_loopM (fun x=>⟨[(0,.d (dsl eMapping a0)),(3,.d (di x))],[]⟩) hy1 (weak_cov ⟨rfl,rfl,trivial⟩ trivial) ?_
 rintro v3 sy1 hsy1
 replace hsy1:ref11_twice_L0 a0 v3=some sy1:=hsy1
 unfold ref11_twice_L0 at hsy1
 refine avc_sq2<|avc_sq2<|avc_sq ?_
 refine sqa (a_move_d (lq rfl) rfl) ?_
 refine sqa (a_move_d (lq rfl) rfl) ?_
 refine sqa (m_len (en:=eMapping) (l:=a0) (lq rfl) S23 rfl) ?_
 refine sqa (a_lss (lq rfl) rfl rfl) ?_
 refine sq_nil ?_
 refine ifM rfl hsy1 (fun _ hsy1=>?_) (fun _ hsy1=>?_)
 refine avc_skip<|avc_sq2<|avc_block<|avc_sq2<|avc_sq ?_
 refine sqa (a_assign_d (lq rfl) rfl) ?_
 refine sq_nil<|avc_block ?_
 obtain ⟨y2,hy2,hsy1⟩:=bE hsy1
 refine avc_tail2 y2 (.exit 2) (fun y2=>⟨[(0,.d (dsl eMapping a0)),(3,.d (di v3))],[]⟩) .ret (fun y2=>⟨[(2,.d (db y2))],[]⟩) ?_ ?_ ?_
 refine avc_loopM (fun x=>⟨[(0,.d (dsl eMapping a0)),(3,.d (di v3)),(4,.d (di x))],[]⟩) hy2 (weak_cov ⟨rfl,rfl,rfl,trivial⟩ trivial) ?_
 rintro v4 sy2 hsy2
 replace hsy2:ref11_twice_L1 v3 a0 v4=some sy2:=hsy2
 unfold ref11_twice_L1 at hsy2
 refine avc_sq2<|avc_sq2<|avc_sq ?_
 refine sqa (a_move_d (lq rfl) rfl) ?_
 refine sqa (a_move_d (lq rfl) rfl) ?_
 refine sqa (a_lss (lq rfl) rfl rfl) ?_
 refine sq_nil ?_
 refine ifM rfl hsy2 (fun _ hsy2=>?_) (fun _ hsy2=>?_)
 refine avc_skip<|avc_sq2<|avc_block<|avc_sq2 ?_
 refine avc_drawA MX rfl ?_
 refine daa (a_move_d (lq rfl) rfl) ?_
 refine daa (a_move_d (lq rfl) rfl) ?_
 obtain ⟨t18,ht18,hsy2⟩:=bE hsy2
 refine daa (m_index (en:=eMapping) (lq rfl) S23 rfl rfl ht18) ?_
 refine daa (a_fieldAddr_ip (lq rfl) L72_0 rfl) ?_
 refine daa (m_loadE (en:=eMapping) (l:=a0) (i:=v3) (v:=t18) (off:=0) (lq rfl) O3 rfl ht18 rfl) ?_
 refine daa (a_move_d (lq rfl) rfl) ?_
 refine daa (a_move_d (lq rfl) rfl) ?_
 obtain ⟨t23,ht23,hsy2⟩:=bE hsy2
 refine daa (m_index (en:=eMapping) (lq rfl) S23 rfl rfl ht23) ?_
 refine daa (a_fieldAddr_ip (lq rfl) L72_0 rfl) ?_
 refine daa (m_loadE (en:=eMapping) (l:=a0) (i:=v4) (v:=t23) (off:=0) (lq rfl) O3 rfl ht23 rfl) ?_
 refine daa (a_eql (lq rfl) rfl rfl) ?_
 obtain ⟨b27,hb27,hsy2⟩:=bE hsy2
 refine daa ((a_move_d (lq rfl) rfl).bool (Option.some.inj hb27)) ?_
 refine da_g (x:= .d (dsl eMapping a0)) rfl rfl rfl (lq rfl) (lq rfl) rfl (fun hb=>by obtain rfl:b27=true:=hb;exact a_move_d (lq rfl) rfl) ?_
 refine da_g (x:= .d (di v3)) rfl rfl rfl (lq rfl) (lq rfl) rfl (fun hb=>by obtain rfl:b27=true:=hb;exact a_move_d (lq rfl) rfl) ?_
 obtain ⟨t30,ht30,hsy2⟩:=bE hsy2
 refine da_g (x:= .ip (eMapping.all a0) (v3.toNat*eMapping.size)) rfl rfl rfl (lq rfl) (lq rfl) rfl (fun hb=>by obtain rfl:b27=true:=hb;exact m_index (en:=eMapping) (lq rfl) S23 rfl rfl ht30) ?_
 refine da_g (x:= .ip (eMapping.all a0) (v3.toNat*eMapping.size+2)) rfl rfl rfl (lq rfl) (lq rfl) rfl (fun hb=>by obtain rfl:b27=true:=hb;exact a_fieldAddr_ip (lq rfl) L72_2 rfl) ?_
 refine da_g (x:= .d (ds t30.Tag)) rfl rfl rfl (lq rfl) (lq rfl) rfl (fun hb=>by obtain rfl:b27=true:=hb;exact m_loadE (en:=eMapping) (l:=a0) (i:=v3) (v:=t30) (off:=2) (lq rfl) O9 rfl ht30 rfl) ?_
 refine da_g (x:= .d (dsl eMapping a0)) rfl rfl rfl (lq rfl) (lq rfl) rfl (fun hb=>by obtain rfl:b27=true:=hb;exact a_move_d (lq rfl) rfl) ?_
 refine da_g (x:= .d (di v4)) rfl rfl rfl (lq rfl) (lq rfl) rfl (fun hb=>by obtain rfl:b27=true:=hb;exact a_move_d (lq rfl) rfl) ?_
 obtain ⟨t35,ht35,hsy2⟩:=bE hsy2
 refine da_g (x:= .ip (eMapping.all a0) (v4.toNat*eMapping.size)) rfl rfl rfl (lq rfl) (lq rfl) rfl (fun hb=>by obtain rfl:b27=true:=hb;exact m_index (en:=eMapping) (lq rfl) S23 rfl rfl ht35) ?_
 refine da_g (x:= .ip (eMapping.all a0) (v4.toNat*eMapping.size+2)) rfl rfl rfl (lq rfl) (lq rfl) rfl (fun hb=>by obtain rfl:b27=true:=hb;exact a_fieldAddr_ip (lq rfl) L72_2 rfl) ?_
 refine da_g (x:= .d (ds t35.Tag)) rfl rfl rfl (lq rfl) (lq rfl) rfl (fun hb=>by obtain rfl:b27=true:=hb;exact m_loadE (en:=eMapping) (l:=a0) (i:=v4) (v:=t35) (off:=2) (lq rfl) O9 rfl ht35 rfl) ?_
 refine da_g (x:= .d (db (t30.Tag==t35.Tag))) rfl rfl rfl (lq rfl) (lq rfl) rfl (fun hb=>by obtain rfl:b27=true:=hb;exact m_seql (a:=t30.Tag) (b:=t35.Tag) (lq rfl) rfl rfl) ?_
 refine daa (a_pick_and (lq rfl) rfl rfl) ?_
 refine da_nil ?_
 refine ifM rfl hsy2 (fun _ hsy2=>?_) (fun _ hsy2=>?_)
 refine avc_sq2<|avc_sq ?_
 refine sqa (a_assign_d (lq rfl) rfl) ?_
 refine sq_nil ?_
 refine avc_ret ?_
 cases hsy2
 intro q;cases q
 exact ⟨rfl,weak_cov ⟨rfl,trivial⟩ trivial⟩
 refine avc_skip<|avc_sq ?_
 refine sqa (a_move_d (lq rfl) rfl) ?_
 refine sqa (m_add (lq rfl) rfl rfl) ?_
 refine sqa (a_assign_d (lq rfl) rfl) ?_
 refine sq_nil ?_
 cases hsy2
 exact weak_cov ⟨rfl,rfl,rfl,trivial⟩ trivial
 refine avc_exit ?_
 cases hsy2
 intro q;cases q
 exact ⟨rfl,weak_cov ⟨rfl,rfl,trivial⟩ trivial⟩
 rintro y2 rfl
 replace hsy1:=eL hsy1
 refine avc_sq ?_
 refine sqa (a_move_d (lq rfl) rfl) ?_
 refine sqa (m_add (lq rfl) rfl rfl) ?_
 refine sqa (a_assign_d (lq rfl) rfl) ?_
 refine sq_nil ?_
 cases hsy1
 exact weak_cov ⟨rfl,rfl,trivial⟩ trivial
 rintro y2 rfl
 replace hsy1:=eR hsy1
 cases hsy1
 intro q;cases q
 exact ⟨rfl,weak_cov ⟨rfl,trivial⟩ trivial⟩
 refine avc_exit ?_
 cases hsy1
 intro q;cases q
 exact ⟨rfl,weak_cov trivial trivial⟩
 rintro y1 rfl
 replace h:=eL h
 refine avc_sq2<|avc_sq ?_
 refine sqa (a_assign_d (lq rfl) rfl) ?_
 refine sq_nil ?_
 cases h
 refine avc_ret ?_
 exact ret_1 rfl
 rintro y1 rfl
 replace h:=eR h
 cases h
 exact ret_1 rfl
theorem ref11_unsorted_c {a0} {r} (h:ref11_unsorted a0=some r):Contract Tryz.prog 161 [(dsl eMapping a0)] [(di r)]:=by
 refine contract_of Tryz.func161 (by kernel_rfl) rfl (lq rfl) (lq rfl) fun w0 I0 hI0 hG0=>?_
 unfold ref11_unsorted at h
 refine avc_sq2<|avc_sq ?_
 refine sqa (a_assign_d (lq rfl) rfl) ?_
 refine sq_nil<|avc_sq2<|avc_sq2<|avc_sq ?_
 refine sqa (a_assign_d (lq rfl) rfl) ?_
 refine sq_nil<|avc_block ?_
 obtain ⟨y1,hy1,h⟩:=bE h
 refine avc_tail2 y1 (.exit 0) (fun y1=>⟨[(0,.d (dsl eMapping a0))],[]⟩) .ret (fun y1=>⟨[(2,.d (di y1))],[]⟩) ?_ ?_ ?_
 refine avc_loopM (fun x=>⟨[(0,.d (dsl eMapping a0)),(3,.d (di x))],[]⟩) hy1 (weak_cov ⟨rfl,rfl,trivial⟩ trivial) ?_
 rintro v3 sy1 hsy1
 replace hsy1:ref11_unsorted_L0 a0 v3=some sy1:=hsy1
 unfold ref11_unsorted_L0 at hsy1
 refine avc_sq2<|avc_sq2<|avc_sq ?_
 refine sqa (a_move_d (lq rfl) rfl) ?_
 refine sqa (a_move_d (lq rfl) rfl) ?_
 refine sqa (m_len (en:=eMapping) (l:=a0) (lq rfl) S23 rfl) ?_
 refine sqa (a_lss (lq rfl) rfl rfl) ?_
 refine sq_nil ?_
 refine ifM rfl hsy1 (fun _ hsy1=>?_) (fun _ hsy1=>?_)
 refine avc_skip<|avc_sq2<|avc_block<|avc_sq2<|avc_sq ?_
 refine sqa (a_move_d (lq rfl) rfl) ?_
 refine sqa (a_move_d (lq rfl) rfl) ?_
 obtain ⟨t14,ht14,hsy1⟩:=bE hsy1
 refine sqa (m_index (en:=eMapping) (lq rfl) S23 rfl rfl ht14) ?_
 refine sqa (m_loadEA (en:=eMapping) (l:=a0) (i:=v3) (v:=t14) (off:=0) (lq rfl) G72 rfl ht14 rfl rfl (by decide)) ?_
 obtain ⟨t16,ht16,hsy1⟩:=bE hsy1
 refine sqa (a_call (lq rfl) rfl (ref11_codes_c ht16)) ?_
 refine sqa (a_not (lq rfl) rfl) ?_
 refine sq_nil ?_
 refine ifM rfl hsy1 (fun _ hsy1=>?_) (fun _ hsy1=>?_)
 refine avc_sq2<|avc_sq ?_
 refine sqa (a_assign_d (lq rfl) rfl) ?_
 refine sq_nil ?_
 refine avc_ret ?_
 cases hsy1
 intro q;cases q
 exact ⟨rfl,weak_cov ⟨rfl,trivial⟩ trivial⟩
 refine avc_skip<|avc_sq ?_
 refine sqa (a_move_d (lq rfl) rfl) ?_
 refine sqa (m_add (lq rfl) rfl rfl) ?_
 refine sqa (a_assign_d (lq rfl) rfl) ?_
 refine sq_nil ?_
 cases hsy1
 exact weak_cov ⟨rfl,rfl,trivial⟩ trivial
 refine avc_exit ?_
 cases hsy1
 intro q;cases q
 exact ⟨rfl,weak_cov ⟨rfl,trivial⟩ trivial⟩
 rintro y1 rfl
 replace h:=eL h
 refine avc_sq2<|avc_sq2<|avc_sq ?_
 refine sqa (a_assign_d (lq rfl) rfl) ?_
 refine sq_nil<|avc_block ?_
 obtain ⟨y2,hy2,h⟩:=bE h
 refine avc_tail2 y2 (.exit 2) (fun y2=>⟨[(0,.d (dsl eMapping a0))],[]⟩) .ret (fun y2=>⟨[(2,.d (di y2))],[]⟩) ?_ ?_ ?_
 refine avc_loopM (fun x=>⟨[(0,.d (dsl eMapping a0)),(4,.d (di x))],[]⟩) hy2 (weak_cov ⟨rfl,rfl,trivial⟩ trivial) ?_
 rintro v4 sy2 hsy2
 replace hsy2:ref11_unsorted_L1 a0 v4=some sy2:=hsy2
 unfold ref11_unsorted_L1 at hsy2
 refine avc_sq2<|avc_sq2<|avc_sq ?_
 refine sqa (a_move_d (lq rfl) rfl) ?_
 refine sqa (a_move_d (lq rfl) rfl) ?_
 refine sqa (m_len (en:=eMapping) (l:=a0) (lq rfl) S23 rfl) ?_
 refine sqa (a_lss (lq rfl) rfl rfl) ?_
 refine sq_nil ?_
 refine ifM rfl hsy2 (fun _ hsy2=>?_) (fun _ hsy2=>?_)
 refine avc_skip<|avc_sq2<|avc_block<|avc_sq2<|avc_sq ?_
 refine sqa (a_move_d (lq rfl) rfl) ?_
 refine sqa (a_move_d (lq rfl) rfl) ?_
 obtain ⟨t26,ht26,hsy2⟩:=bE hsy2
 refine sqa (m_index (en:=eMapping) (lq rfl) S23 rfl rfl ht26) ?_
 refine sqa (a_fieldAddr_ip (lq rfl) L72_1 rfl) ?_
 refine sqa (m_loadE (en:=eMapping) (l:=a0) (i:=v4) (v:=t26) (off:=1) (lq rfl) O37 rfl ht26 rfl) ?_
 refine sqa (m_len (en:=eI) (l:=t26.To) (lq rfl) S37 rfl) ?_
 refine sqa (a_gtr (lq rfl) rfl rfl) ?_
 refine sq_nil ?_
 refine ifM rfl hsy2 (fun _ hsy2=>?_) (fun _ hsy2=>?_)
 refine avc_sq2<|avc_sq ?_
 refine sqa (a_assign_d (lq rfl) rfl) ?_
 refine sq_nil ?_
 refine avc_ret ?_
 cases hsy2
 intro q;cases q
 exact ⟨rfl,weak_cov ⟨rfl,trivial⟩ trivial⟩
 refine avc_skip<|avc_sq ?_
 refine sqa (a_move_d (lq rfl) rfl) ?_
 refine sqa (m_add (lq rfl) rfl rfl) ?_
 refine sqa (a_assign_d (lq rfl) rfl) ?_
 refine sq_nil ?_
 cases hsy2
 exact weak_cov ⟨rfl,rfl,trivial⟩ trivial
 refine avc_exit ?_
 cases hsy2
 intro q;cases q
 exact ⟨rfl,weak_cov ⟨rfl,trivial⟩ trivial⟩
 rintro y2 rfl
 replace h:=eL h
 refine avc_sq2<|avc_sq2<|avc_sq ?_
 refine sqa (a_assign_d (lq rfl) rfl) ?_
 refine sq_nil<|avc_block ?_
 obtain ⟨y3,hy3,h⟩:=bE h
 refine avc_tail2 y3 (.exit 4) (fun y3=>⟨[(0,.d (dsl eMapping a0))],[]⟩) .ret (fun y3=>⟨[(2,.d (di y3))],[]⟩) ?_ ?_ ?_
 refine avc_loopM (fun x=>⟨[(0,.d (dsl eMapping a0)),(5,.d (di x))],[]⟩) hy3 (weak_cov ⟨rfl,rfl,trivial⟩ trivial) ?_
 rintro v5 sy3 hsy3
 replace hsy3:ref11_unsorted_L2 a0 v5=some sy3:=hsy3
 unfold ref11_unsorted_L2 at hsy3
 refine avc_sq2<|avc_sq2<|avc_sq ?_
 refine sqa (a_move_d (lq rfl) rfl) ?_
 refine sqa (a_move_d (lq rfl) rfl) ?_
 refine sqa (m_len (en:=eMapping) (l:=a0) (lq rfl) S23 rfl) ?_
 refine sqa (a_lss (lq rfl) rfl rfl) ?_
 refine sq_nil ?_
 refine ifM rfl hsy3 (fun _ hsy3=>?_) (fun _ hsy3=>?_)
 refine avc_skip<|avc_sq2<|avc_block<|avc_sq2<|avc_sq ?_
 refine sqa (a_move_d (lq rfl) rfl) ?_
 refine sqa (a_move_d (lq rfl) rfl) ?_
 obtain ⟨t39,ht39,hsy3⟩:=bE hsy3
 refine sqa (m_index (en:=eMapping) (lq rfl) S23 rfl rfl ht39) ?_
 refine sqa (a_fieldAddr_ip (lq rfl) L72_2 rfl) ?_
 refine sqa (m_loadE (en:=eMapping) (l:=a0) (i:=v5) (v:=t39) (off:=2) (lq rfl) O9 rfl ht39 rfl) ?_
 refine sqa (m_sneq (a:=t39.Tag) (b:=[]) (lq rfl) rfl rfl) ?_
 obtain ⟨b43,hb43,hsy3⟩:=bE hsy3
 refine sqa ((a_move_d (lq rfl) rfl).bool (Option.some.inj hb43)) ?_
 refine sq_g (x:= .d (dsl eMapping a0)) rfl rfl rfl (lq rfl) (lq rfl) rfl (fun hb=>by obtain rfl:b43=true:=hb;exact a_move_d (lq rfl) rfl) ?_
 refine sq_g (x:= .d (di v5)) rfl rfl rfl (lq rfl) (lq rfl) rfl (fun hb=>by obtain rfl:b43=true:=hb;exact a_move_d (lq rfl) rfl) ?_
 obtain ⟨t46,ht46,hsy3⟩:=bE hsy3
 refine sq_g (x:= .ip (eMapping.all a0) (v5.toNat*eMapping.size)) rfl rfl rfl (lq rfl) (lq rfl) rfl (fun hb=>by obtain rfl:b43=true:=hb;exact m_index (en:=eMapping) (lq rfl) S23 rfl rfl ht46) ?_
 refine sq_g (x:= .ip (eMapping.all a0) (v5.toNat*eMapping.size+2)) rfl rfl rfl (lq rfl) (lq rfl) rfl (fun hb=>by obtain rfl:b43=true:=hb;exact a_fieldAddr_ip (lq rfl) L72_2 rfl) ?_
 refine sq_g (x:= .d (ds t46.Tag)) rfl rfl rfl (lq rfl) (lq rfl) rfl (fun hb=>by obtain rfl:b43=true:=hb;exact m_loadE (en:=eMapping) (l:=a0) (i:=v5) (v:=t46) (off:=2) (lq rfl) O9 rfl ht46 rfl) ?_
 obtain ⟨t49,ht49,hsy3⟩:=bE hsy3
 refine sq_g (x:= .d (db t49)) rfl rfl rfl (lq rfl) (lq rfl) rfl (fun hb=>by obtain rfl:b43=true:=hb;exact a_call (lq rfl) rfl (ref11_Name_c ht49)) ?_
 refine sq_g (x:= .d (db (!t49))) rfl rfl rfl (lq rfl) (lq rfl) rfl (fun hb=>by obtain rfl:b43=true:=hb;exact a_not (lq rfl) rfl) ?_
 refine sqa (a_pick_and (lq rfl) rfl rfl) ?_
 refine sq_nil ?_
 refine ifM rfl hsy3 (fun _ hsy3=>?_) (fun _ hsy3=>?_)
 refine avc_sq2<|avc_sq ?_
 refine sqa (a_assign_d (lq rfl) rfl) ?_
 refine sq_nil ?_
 refine avc_ret ?_
 cases hsy3
 intro q;cases q
 exact ⟨rfl,weak_cov ⟨rfl,trivial⟩ trivial⟩
 refine avc_skip<|avc_sq ?_
 refine sqa (a_move_d (lq rfl) rfl) ?_
 refine sqa (m_add (lq rfl) rfl rfl) ?_
 refine sqa (a_assign_d (lq rfl) rfl) ?_
 refine sq_nil ?_
 cases hsy3
 exact weak_cov ⟨rfl,rfl,trivial⟩ trivial
 refine avc_exit ?_
 cases hsy3
 intro q;cases q
 exact ⟨rfl,weak_cov ⟨rfl,trivial⟩ trivial⟩
 rintro y3 rfl
 replace h:=eL h
 refine avc_sq2<|avc_sq2<|avc_sq ?_
 refine sqa (a_move_d (lq rfl) rfl) ?_
 obtain ⟨t53,ht53,h⟩:=bE h
 refine sqa (a_call (lq rfl) rfl (ref11_twice_c ht53)) ?_
 refine sq_nil ?_
 refine ifM rfl h (fun _ h=>?_) (fun _ h=>?_)
 refine avc_sq2<|avc_sq ?_
 refine sqa (a_assign_d (lq rfl) rfl) ?_
 refine sq_nil ?_
 cases h
 refine avc_ret ?_
 exact ret_1 rfl
 refine avc_skip<|avc_sq2<|avc_sq ?_
 refine sqa (a_assign_d (lq rfl) rfl) ?_
 refine sq_nil ?_
 cases h
 refine avc_ret ?_
 exact ret_1 rfl
 rintro y3 rfl
 replace h:=eR h
 cases h
 exact ret_1 rfl
 rintro y2 rfl
 replace h:=eR h
 cases h
 exact ret_1 rfl
 rintro y1 rfl
 replace h:=eR h
 cases h
 exact ret_1 rfl
theorem ref11_before_c {a0} {a1} {r} (h:ref11_before a0 a1=some r):Contract Tryz.prog 162 [(eMapping.dv a0),(eMapping.dv a1)] [(db r)]:=by
 refine contract_of Tryz.func162 (by kernel_rfl) rfl (lq rfl) (lq rfl) fun w0 I0 hI0 hG0=>?_
 unfold ref11_before at h
 refine avc_sq2<|avc_sq ?_
 refine sqa (m_box (size:=3) (lq rfl) rfl rfl) ?_
 refine sqa (m_box (size:=3) (lq rfl) rfl rfl) ?_
 refine sqa (a_assign_d (lq rfl) rfl) ?_
 refine sq_nil<|avc_sq2<|avc_sq ?_
 refine sqa (m_fieldPt (lq rfl) L72_0 rfl) ?_
 refine sqa (a_load_ip (lq rfl) O3 rfl rfl) ?_
 refine sqa (m_fieldPt (lq rfl) L72_0 rfl) ?_
 refine sqa (a_load_ip (lq rfl) O3 rfl rfl) ?_
 refine sqa (a_lss (lq rfl) rfl rfl) ?_
 obtain ⟨b10,hb10,h⟩:=bE h
 refine sqa ((a_move_d (lq rfl) rfl).bool (Option.some.inj hb10)) ?_
 refine sq_g (x:= .ip (eMapping.cells a0) (0+0)) rfl rfl rfl (lq rfl) (lq rfl) rfl (fun hb=>by obtain rfl:=gF hb;exact m_fieldPt (lq rfl) L72_0 rfl) ?_
 refine sq_g (x:= .d (di a0.From)) rfl rfl rfl (lq rfl) (lq rfl) rfl (fun hb=>by obtain rfl:=gF hb;exact a_load_ip (lq rfl) O3 rfl rfl) ?_
 refine sq_g (x:= .ip (eMapping.cells a1) (0+0)) rfl rfl rfl (lq rfl) (lq rfl) rfl (fun hb=>by obtain rfl:=gF hb;exact m_fieldPt (lq rfl) L72_0 rfl) ?_
 refine sq_g (x:= .d (di a1.From)) rfl rfl rfl (lq rfl) (lq rfl) rfl (fun hb=>by obtain rfl:=gF hb;exact a_load_ip (lq rfl) O3 rfl rfl) ?_
 refine sq_g (x:= .d (db (decide (a0.From=a1.From)))) rfl rfl rfl (lq rfl) (lq rfl) rfl (fun hb=>by obtain rfl:=gF hb;exact a_eql (lq rfl) rfl rfl) ?_
 obtain ⟨b16,hb16,h⟩:=bE h
 refine sq_g (x:= .d (db b16)) rfl rfl rfl (lq rfl) (lq rfl) rfl (fun hb=>by obtain rfl:=gF hb;exact (a_move_d (lq rfl) rfl).bool (Option.some.inj hb16)) ?_
 refine sq_g2 (x:= .ip (eMapping.cells a0) (0+2)) rfl rfl rfl (lq rfl) (lq rfl) rfl (fun hb=>by obtain ⟨hb,hb1⟩:=and_split hb;obtain rfl:=gF hb;obtain rfl:b16=true:=hb1;exact m_fieldPt (lq rfl) L72_2 rfl) ?_
 refine sq_g2 (x:= .d (ds a0.Tag)) rfl rfl rfl (lq rfl) (lq rfl) rfl (fun hb=>by obtain ⟨hb,hb1⟩:=and_split hb;obtain rfl:=gF hb;obtain rfl:b16=true:=hb1;exact a_load_ip (lq rfl) O9 rfl rfl) ?_
 refine sq_g2 (x:= .ip (eMapping.cells a1) (0+2)) rfl rfl rfl (lq rfl) (lq rfl) rfl (fun hb=>by obtain ⟨hb,hb1⟩:=and_split hb;obtain rfl:=gF hb;obtain rfl:b16=true:=hb1;exact m_fieldPt (lq rfl) L72_2 rfl) ?_
 refine sq_g2 (x:= .d (ds a1.Tag)) rfl rfl rfl (lq rfl) (lq rfl) rfl (fun hb=>by obtain ⟨hb,hb1⟩:=and_split hb;obtain rfl:=gF hb;obtain rfl:b16=true:=hb1;exact a_load_ip (lq rfl) O9 rfl rfl) ?_
 refine sq_g2 (x:= .d (db (Op.bytesLess a0.Tag a1.Tag))) rfl rfl rfl (lq rfl) (lq rfl) rfl (fun hb=>by obtain ⟨hb,hb1⟩:=and_split hb;obtain rfl:=gF hb;obtain rfl:b16=true:=hb1;exact m_slss (a:=a0.Tag) (b:=a1.Tag) (lq rfl) rfl rfl) ?_
 refine sq_g (x:= .d (db (b16&&(Op.bytesLess a0.Tag a1.Tag)))) rfl rfl rfl (lq rfl) (lq rfl) rfl (fun hb=>by obtain rfl:=gF hb;exact a_pick_and (lq rfl) rfl rfl) ?_
 refine sqa (a_pick_or (lq rfl) rfl rfl) ?_
 refine sqa (a_assign_d (lq rfl) rfl) ?_
 refine sq_nil ?_
 cases h
 refine avc_ret ?_
 exact ret_1 rfl
theorem ref11_Check_c {a0} {r} (h:ref11_Check a0=some r):Contract Tryz.prog 115 [(dsl eMapping a0)] [(di r)]:=by
 refine contract_of Tryz.func115 (by kernel_rfl) rfl (lq rfl) (lq rfl) fun w0 I0 hI0 hG0=>?_
 unfold ref11_Check at h
 refine avc_sq2<|avc_sq ?_
 refine sqa (a_assign_d (lq rfl) rfl) ?_
 refine sq_nil<|avc_sq2<|avc_sq2<|avc_sq ?_
 refine sqa (a_move_d (lq rfl) rfl) ?_
 obtain ⟨t6,ht6,h⟩:=bE h
 refine sqa (a_call (lq rfl) rfl (ref11_unsorted_c ht6)) ?_
 refine sqa (a_assign_d (lq rfl) rfl) ?_
 refine sq_nil<|avc_sq2<|avc_sq ?_
 refine sqa (a_move_d (lq rfl) rfl) ?_
 refine sqa (a_neq (lq rfl) rfl rfl) ?_
 refine sq_nil ?_
 refine ifM rfl h (fun _ h=>?_) (fun _ h=>?_)
 refine avc_sq2<|avc_sq ?_
 refine sqa (a_move_d (lq rfl) rfl) ?_
 refine sqa (a_assign_d (lq rfl) rfl) ?_
 refine sq_nil ?_
 cases h
 refine avc_ret ?_
 exact ret_1 rfl
 refine avc_skip<|avc_sq2<|avc_sq2<|avc_sq ?_
 refine sqa (a_assign_d (lq rfl) rfl) ?_
 refine sq_nil<|avc_block ?_
 obtain ⟨y1,hy1,h⟩:=bE h
 refine avc_tail2 y1 (.exit 0) (fun y1=>⟨[],[]⟩) .ret (fun y1=>⟨[(2,.d (di y1))],[]⟩) ?_ ?_ ?_
 refine avc_loopM (fun x=>⟨[(0,.d (dsl eMapping a0)),(4,.d (di x))],[]⟩) hy1 (weak_cov ⟨rfl,rfl,trivial⟩ trivial) ?_
 rintro v4 sy1 hsy1
 replace hsy1:ref11_Check_L0 a0 v4=some sy1:=hsy1
 unfold ref11_Check_L0 at hsy1
 refine avc_sq2<|avc_sq2<|avc_sq ?_
 refine sqa (a_move_d (lq rfl) rfl) ?_
 refine sqa (a_move_d (lq rfl) rfl) ?_
 refine sqa (m_len (en:=eMapping) (l:=a0) (lq rfl) S23 rfl) ?_
 refine sqa (a_lss (lq rfl) rfl rfl) ?_
 refine sq_nil ?_
 refine ifM rfl hsy1 (fun _ hsy1=>?_) (fun _ hsy1=>?_)
 refine avc_skip<|avc_sq2<|avc_block<|avc_sq2 ?_
 refine avc_drawA MX rfl ?_
 refine daa (a_move_d (lq rfl) rfl) ?_
 refine daa (a_move_d (lq rfl) rfl) ?_
 refine daa (m_sub (lq rfl) rfl rfl) ?_
 obtain ⟨t19,ht19,hsy1⟩:=bE hsy1
 refine daa (m_index (en:=eMapping) (lq rfl) S23 rfl rfl ht19) ?_
 refine daa (m_loadEA (en:=eMapping) (l:=a0) (i:=(wi (v4 - 1))) (v:=t19) (off:=0) (lq rfl) G72 rfl ht19 rfl rfl (by decide)) ?_
 refine daa (a_move_d (lq rfl) rfl) ?_
 refine daa (a_move_d (lq rfl) rfl) ?_
 obtain ⟨t23,ht23,hsy1⟩:=bE hsy1
 refine daa (m_index (en:=eMapping) (lq rfl) S23 rfl rfl ht23) ?_
 refine daa (m_loadEA (en:=eMapping) (l:=a0) (i:=v4) (v:=t23) (off:=0) (lq rfl) G72 rfl ht23 rfl rfl (by decide)) ?_
 obtain ⟨t25,ht25,hsy1⟩:=bE hsy1
 refine daa (a_call (lq rfl) rfl (ref11_before_c ht25)) ?_
 refine daa (a_not (lq rfl) rfl) ?_
 refine da_nil ?_
 refine ifM rfl hsy1 (fun _ hsy1=>?_) (fun _ hsy1=>?_)
 refine avc_sq2<|avc_sq ?_
 refine sqa (a_assign_d (lq rfl) rfl) ?_
 refine sq_nil ?_
 refine avc_ret ?_
 cases hsy1
 intro q;cases q
 exact ⟨rfl,weak_cov ⟨rfl,trivial⟩ trivial⟩
 refine avc_skip<|avc_sq ?_
 refine sqa (a_move_d (lq rfl) rfl) ?_
 refine sqa (m_add (lq rfl) rfl rfl) ?_
 refine sqa (a_assign_d (lq rfl) rfl) ?_
 refine sq_nil ?_
 cases hsy1
 exact weak_cov ⟨rfl,rfl,trivial⟩ trivial
 refine avc_exit ?_
 cases hsy1
 intro q;cases q
 exact ⟨rfl,weak_cov trivial trivial⟩
 rintro y1 rfl
 replace h:=eL h
 refine avc_sq2<|avc_sq ?_
 refine sqa (a_assign_d (lq rfl) rfl) ?_
 refine sq_nil ?_
 cases h
 refine avc_ret ?_
 exact ret_1 rfl
 rintro y1 rfl
 replace h:=eR h
 cases h
 exact ret_1 rfl
theorem ref37_tagged_c {a0} {a1} {r} (h:ref37_tagged a0 a1=some r):Contract Tryz.prog 116 [(dsl eMapping a0),(ds a1)] [(db r)]:=by
 refine contract_of Tryz.func116 (by kernel_rfl) rfl (lq rfl) (lq rfl) fun w0 I0 hI0 hG0=>?_
 unfold ref37_tagged at h
 refine avc_sq2<|avc_sq ?_
 refine sqa (a_assign_d (lq rfl) rfl) ?_
 refine sq_nil<|avc_sq2<|avc_sq2<|avc_sq ?_
 refine sqa (a_assign_d (lq rfl) rfl) ?_
 refine sq_nil<|avc_block ?_
 obtain ⟨y1,hy1,h⟩:=bE h
 refine avc_tail2 y1 (.exit 0) (fun y1=>⟨[],[]⟩) .ret (fun y1=>⟨[(4,.d (db y1))],[]⟩) ?_ ?_ ?_
 refine avc_loopM (fun x=>⟨[(0,.d (dsl eMapping a0)),(1,.d (ds a1)),(5,.d (di x))],[]⟩) hy1 (weak_cov ⟨rfl,rfl,rfl,trivial⟩ trivial) ?_
 rintro v5 sy1 hsy1
 replace hsy1:ref37_tagged_L0 a0 a1 v5=some sy1:=hsy1
 unfold ref37_tagged_L0 at hsy1
 refine avc_sq2<|avc_sq2<|avc_sq ?_
 refine sqa (a_move_d (lq rfl) rfl) ?_
 refine sqa (a_move_d (lq rfl) rfl) ?_
 refine sqa (m_len (en:=eMapping) (l:=a0) (lq rfl) S23 rfl) ?_
 refine sqa (a_lss (lq rfl) rfl rfl) ?_
 refine sq_nil ?_
 refine ifM rfl hsy1 (fun _ hsy1=>?_) (fun _ hsy1=>?_)
 refine avc_skip<|avc_sq2<|avc_block<|avc_sq2<|avc_sq ?_
 refine sqa (a_move_d (lq rfl) rfl) ?_
 refine sqa (a_move_d (lq rfl) rfl) ?_
 obtain ⟨t14,ht14,hsy1⟩:=bE hsy1
 refine sqa (m_index (en:=eMapping) (lq rfl) S23 rfl rfl ht14) ?_
 refine sqa (a_fieldAddr_ip (lq rfl) L72_2 rfl) ?_
 refine sqa (m_loadE (en:=eMapping) (l:=a0) (i:=v5) (v:=t14) (off:=2) (lq rfl) O9 rfl ht14 rfl) ?_
 refine sqa (m_sneq (a:=t14.Tag) (b:=[]) (lq rfl) rfl rfl) ?_
 obtain ⟨b18,hb18,hsy1⟩:=bE hsy1
 refine sqa ((a_move_d (lq rfl) rfl).bool (Option.some.inj hb18)) ?_
 refine sq_g (x:= .d (dsl eMapping a0)) rfl rfl rfl (lq rfl) (lq rfl) rfl (fun hb=>by obtain rfl:b18=true:=hb;exact a_move_d (lq rfl) rfl) ?_
 refine sq_g (x:= .d (di v5)) rfl rfl rfl (lq rfl) (lq rfl) rfl (fun hb=>by obtain rfl:b18=true:=hb;exact a_move_d (lq rfl) rfl) ?_
 obtain ⟨t21,ht21,hsy1⟩:=bE hsy1
 refine sq_g (x:= .ip (eMapping.all a0) (v5.toNat*eMapping.size)) rfl rfl rfl (lq rfl) (lq rfl) rfl (fun hb=>by obtain rfl:b18=true:=hb;exact m_index (en:=eMapping) (lq rfl) S23 rfl rfl ht21) ?_
 refine sq_g (x:= .ip (eMapping.all a0) (v5.toNat*eMapping.size+2)) rfl rfl rfl (lq rfl) (lq rfl) rfl (fun hb=>by obtain rfl:b18=true:=hb;exact a_fieldAddr_ip (lq rfl) L72_2 rfl) ?_
 refine sq_g (x:= .d (ds t21.Tag)) rfl rfl rfl (lq rfl) (lq rfl) rfl (fun hb=>by obtain rfl:b18=true:=hb;exact m_loadE (en:=eMapping) (l:=a0) (i:=v5) (v:=t21) (off:=2) (lq rfl) O9 rfl ht21 rfl) ?_
 refine sq_g (x:= .d (ds a1)) rfl rfl rfl (lq rfl) (lq rfl) rfl (fun hb=>by obtain rfl:b18=true:=hb;exact a_move_d (lq rfl) rfl) ?_
 refine sq_g (x:= .d (db (!(t21.Tag==a1)))) rfl rfl rfl (lq rfl) (lq rfl) rfl (fun hb=>by obtain rfl:b18=true:=hb;exact m_sneq (a:=t21.Tag) (b:=a1) (lq rfl) rfl rfl) ?_
 refine sqa (a_pick_and (lq rfl) rfl rfl) ?_
 refine sq_nil ?_
 refine ifM rfl hsy1 (fun _ hsy1=>?_) (fun _ hsy1=>?_)
 refine avc_sq2<|avc_sq ?_
 refine sqa (a_assign_d (lq rfl) rfl) ?_
 refine sq_nil ?_
 refine avc_ret ?_
 cases hsy1
 intro q;cases q
 exact ⟨rfl,weak_cov ⟨rfl,trivial⟩ trivial⟩
 refine avc_skip<|avc_sq ?_
 refine sqa (a_move_d (lq rfl) rfl) ?_
 refine sqa (m_add (lq rfl) rfl rfl) ?_
 refine sqa (a_assign_d (lq rfl) rfl) ?_
 refine sq_nil ?_
 cases hsy1
 exact weak_cov ⟨rfl,rfl,rfl,trivial⟩ trivial
 refine avc_exit ?_
 cases hsy1
 intro q;cases q
 exact ⟨rfl,weak_cov trivial trivial⟩
 rintro y1 rfl
 replace h:=eL h
 refine avc_sq2<|avc_sq ?_
 refine sqa (a_assign_d (lq rfl) rfl) ?_
 refine sq_nil ?_
 cases h
 refine avc_ret ?_
 exact ret_1 rfl
 rintro y1 rfl
 replace h:=eR h
 cases h
 exact ret_1 rfl
theorem ref02_place_c {a0} {a1} {r} (h:ref02_place a0 a1=some r):Contract Tryz.prog 215 [(dsl eI a0),(di a1)] [(dsl eI r)]:=by
 refine contract_of Tryz.func215 (by kernel_rfl) rfl (lq rfl) (lq rfl) fun w0 I0 hI0 hG0=>?_
 unfold ref02_place at h
 refine avc_sq2<|avc_sq ?_
 refine sqa (a_assign_d (lq rfl) rfl) ?_
 refine sq_nil<|avc_sq2<|avc_sq ?_
 refine sqa (a_assign_d (lq rfl) rfl) ?_
 refine sq_nil ?_
 refine avc_weak (weak_nil (t:=5) 1005 3 eI.size (lq rfl) (lq rfl) rfl rfl) ?_
 refine avc_sq2<|avc_sq ?_
 refine sqa (a_assign_d (lq rfl) rfl) ?_
 refine sq_nil<|avc_sq2<|avc_sq2<|avc_sq ?_
 refine sqa (a_assign_d (lq rfl) rfl) ?_
 refine sq_nil<|avc_block ?_
 obtain ⟨y1,hy1,h⟩:=bE h
 refine avc_tail (e:=(.exit 0)) (S2:=⟨[(1,.d (di a1)),(5,.row 1005),(6,.d (db y1.1))],[(1005,.row 3 eI.size false (eI.all y1.2))]⟩) ?_ ?_
 refine avc_loopM (fun x=>⟨[(0,.d (dsl eI a0)),(1,.d (di a1)),(5,.row 1005),(6,.d (db x.1)),(7,.d (di x.2.1))],[(1005,.row 3 eI.size false (eI.all x.2.2))]⟩) hy1 (weak_cov ⟨rfl,rfl,rfl,rfl,rfl,trivial⟩ ⟨rfl,trivial⟩) ?_
 rintro ⟨v6,v7,r1005⟩ sy1 hsy1
 replace hsy1:ref02_place_L0 a0 a1 v6 v7 r1005=some sy1:=hsy1
 unfold ref02_place_L0 at hsy1
 refine avc_sq2<|avc_sq2<|avc_sq ?_
 refine sqa (a_move_d (lq rfl) rfl) ?_
 refine sqa (a_move_d (lq rfl) rfl) ?_
 refine sqa (m_len (en:=eI) (l:=a0) (lq rfl) S37 rfl) ?_
 refine sqa (a_lss (lq rfl) rfl rfl) ?_
 refine sq_nil ?_
 refine ifM rfl hsy1 (fun _ hsy1=>?_) (fun _ hsy1=>?_)
 refine avc_skip<|avc_sq2<|avc_block<|avc_sq2<|avc_sq2<|avc_sq ?_
 refine sqa (a_move_d (lq rfl) rfl) ?_
 refine sqa (a_not (lq rfl) rfl) ?_
 obtain ⟨b16,hb16,hsy1⟩:=bE hsy1
 refine sqa ((a_move_d (lq rfl) rfl).bool (Option.some.inj hb16)) ?_
 refine sq_g (x:= .d (dsl eI a0)) rfl rfl rfl (lq rfl) (lq rfl) rfl (fun hb=>by obtain rfl:b16=true:=hb;exact a_move_d (lq rfl) rfl) ?_
 refine sq_g (x:= .d (di v7)) rfl rfl rfl (lq rfl) (lq rfl) rfl (fun hb=>by obtain rfl:b16=true:=hb;exact a_move_d (lq rfl) rfl) ?_
 obtain ⟨t19,ht19,hsy1⟩:=bE hsy1
 refine sq_g (x:= .ip (eI.all a0) (v7.toNat*eI.size)) rfl rfl rfl (lq rfl) (lq rfl) rfl (fun hb=>by obtain rfl:b16=true:=hb;exact m_index (en:=eI) (lq rfl) S37 rfl rfl ht19) ?_
 refine sq_g (x:= .d (di t19)) rfl rfl rfl (lq rfl) (lq rfl) rfl (fun hb=>by obtain rfl:b16=true:=hb;exact m_loadE (en:=eI) (l:=a0) (i:=v7) (v:=t19) (off:=0) (lq rfl) O3 rfl ht19 rfl) ?_
 refine sq_g (x:= .d (di a1)) rfl rfl rfl (lq rfl) (lq rfl) rfl (fun hb=>by obtain rfl:b16=true:=hb;exact a_move_d (lq rfl) rfl) ?_
 refine sq_g (x:= .d (db (decide (a1≤t19)))) rfl rfl rfl (lq rfl) (lq rfl) rfl (fun hb=>by obtain rfl:b16=true:=hb;exact a_geq (lq rfl) rfl rfl) ?_
 refine sqa (a_pick_and (lq rfl) rfl rfl) ?_
 refine sq_nil ?_
 obtain ⟨y2,hy2,hsy1⟩:=bE hsy1
 refine avc_tail (e:= .normal) (S2:=⟨[(0,.d (dsl eI a0)),(1,.d (di a1)),(5,.row 1005),(6,.d (db y2.1)),(7,.d (di v7))],[(1005,.row 3 eI.size false (eI.all y2.2))]⟩) ?_ ?_
 refine ifM rfl hy2 (fun _ hy2=>?_) (fun _ hy2=>?_)
 refine avc_sq2<|avc_sq ?_
 refine sqa (a_assign_d (lq rfl) rfl) ?_
 refine sq_nil<|avc_sq2<|avc_sq ?_
 refine sqa (a_move_d (lq rfl) rfl) ?_
 refine sqa (a_move_d (lq rfl) rfl) ?_
 obtain ⟨t26,ht26,hy2⟩:=bE hy2
 refine sqa (m_index (en:=eI) (lq rfl) S37 rfl rfl ht26) ?_
 refine sqa (m_loadE (en:=eI) (l:=a0) (i:=v7) (v:=t26) (off:=0) (lq rfl) O3 rfl ht26 rfl) ?_
 refine sqa (a_move_d (lq rfl) rfl) ?_
 refine sqa (a_gtr (lq rfl) rfl rfl) ?_
 refine sq_nil ?_
 refine ifM rfl hy2 (fun _ hy2=>?_) (fun _ hy2=>?_)
 refine avc_sq ?_
 refine sqa (a_move_row (lq rfl) rfl) ?_
 refine sqa (a_move_d (lq rfl) rfl) ?_
 refine sqa (a_lit (lq rfl) S37 rfl rfl rfl rfl (by decide) rfl) ?_
 obtain ⟨r1005_3,hr1005_3,hy2⟩:=bE hy2
 refine sq_b rfl (m_append (en:=eI) (l:=r1005) (m:=[a1]) (lq rfl) S37 rfl rfl rfl hr1005_3 (by decide) (by decide) rfl rfl) ?_
 refine sqa (a_assign_row (lq rfl) rfl) ?_
 refine sq_nil ?_
 cases hy2
 exact out_mk (weak_cov ⟨rfl,rfl,rfl,rfl,rfl,trivial⟩ ⟨rfl,trivial⟩)
 refine avc_skip ?_
 cases hy2
 exact out_mk (weak_cov ⟨rfl,rfl,rfl,rfl,rfl,trivial⟩ ⟨rfl,trivial⟩)
 refine avc_skip ?_
 cases hy2
 exact out_mk (weak_cov ⟨rfl,rfl,rfl,rfl,rfl,trivial⟩ ⟨rfl,trivial⟩)
 refine avc_sq ?_
 refine sqa (a_move_row (lq rfl) rfl) ?_
 refine sqa (a_move_d (lq rfl) rfl) ?_
 refine sqa (a_move_d (lq rfl) rfl) ?_
 obtain ⟨t37,ht37,hsy1⟩:=bE hsy1
 refine sqa (m_index (en:=eI) (lq rfl) S37 rfl rfl ht37) ?_
 refine sqa (m_loadE (en:=eI) (l:=a0) (i:=v7) (v:=t37) (off:=0) (lq rfl) O3 rfl ht37 rfl) ?_
 refine sqa (a_lit (lq rfl) S37 rfl rfl rfl rfl (by decide) rfl) ?_
 obtain ⟨r1005_4,hr1005_4,hsy1⟩:=bE hsy1
 refine sq_b rfl (m_append (en:=eI) (l:=y2.2) (m:=[t37]) (lq rfl) S37 rfl rfl rfl hr1005_4 (by decide) (by decide) rfl rfl) ?_
 refine sqa (a_assign_row (lq rfl) rfl) ?_
 refine sq_nil<|avc_sq ?_
 refine sqa (a_move_d (lq rfl) rfl) ?_
 refine sqa (m_add (lq rfl) rfl rfl) ?_
 refine sqa (a_assign_d (lq rfl) rfl) ?_
 refine sq_nil ?_
 cases hsy1
 exact weak_cov ⟨rfl,rfl,rfl,rfl,rfl,trivial⟩ ⟨rfl,trivial⟩
 refine avc_exit ?_
 cases hsy1
 intro q;cases q
 exact out_mk (weak_cov ⟨rfl,rfl,rfl,trivial⟩ ⟨rfl,trivial⟩)
 refine avc_sq2<|avc_sq2<|avc_sq ?_
 refine sqa (a_move_d (lq rfl) rfl) ?_
 refine sqa (a_not (lq rfl) rfl) ?_
 refine sq_nil ?_
 obtain ⟨y5,hy5,h⟩:=bE h
 refine avc_tail (e:= .normal) (S2:=⟨[(5,.row 1005)],[(1005,.row 3 eI.size false (eI.all y5))]⟩) ?_ ?_
 refine ifM rfl hy5 (fun _ hy5=>?_) (fun _ hy5=>?_)
 refine avc_sq ?_
 refine sqa (a_move_row (lq rfl) rfl) ?_
 refine sqa (a_move_d (lq rfl) rfl) ?_
 refine sqa (a_lit (lq rfl) S37 rfl rfl rfl rfl (by decide) rfl) ?_
 obtain ⟨r1005_6,hr1005_6,hy5⟩:=bE hy5
 refine sq_b rfl (m_append (en:=eI) (l:=y1.2) (m:=[a1]) (lq rfl) S37 rfl rfl rfl hr1005_6 (by decide) (by decide) rfl rfl) ?_
 refine sqa (a_assign_row (lq rfl) rfl) ?_
 refine sq_nil ?_
 cases hy5
 exact out_mk (weak_cov ⟨rfl,trivial⟩ ⟨rfl,trivial⟩)
 refine avc_skip ?_
 cases hy5
 exact out_mk (weak_cov ⟨rfl,trivial⟩ ⟨rfl,trivial⟩)
 refine avc_sq2<|avc_sq ?_
 refine sqa (a_move_row (lq rfl) rfl) ?_
 refine sqa (a_assign_row (lq rfl) rfl) ?_
 refine sq_nil ?_
 cases h
 refine avc_ret ?_
 exact ret_1 rfl
theorem ref02_Cuts_c {a0} {a1} {r} (h:ref02_Cuts a0 a1=some r):Contract Tryz.prog 200 [(dsl eI a0),(eSet.dv a1)] [(dsl eI r)]:=by
 refine contract_of Tryz.func200 (by kernel_rfl) rfl (lq rfl) (lq rfl) fun w0 I0 hI0 hG0=>?_
 unfold ref02_Cuts at h
 refine avc_sq2<|avc_sq ?_
 refine sqa (m_box (size:=1) (lq rfl) rfl rfl) ?_
 refine sqa (a_assign_d (lq rfl) rfl) ?_
 refine sq_nil<|avc_sq2<|avc_sq2<|avc_sq ?_
 refine sqa (a_assign_d (lq rfl) rfl) ?_
 refine sq_nil<|avc_block ?_
 obtain ⟨y1,hy1,h⟩:=bE h
 refine avc_tail (e:=(.exit 0)) (S2:=⟨[(0,.d (dsl eI y1))],[]⟩) ?_ ?_
 refine avc_loopM (fun x=>⟨[(0,.d (dsl eI x.1)),(3,.d (.pt (eSet.cells a1))),(5,.d (di x.2))],[]⟩) hy1 (weak_cov ⟨rfl,rfl,rfl,trivial⟩ trivial) ?_
 rintro ⟨v0,v5⟩ sy1 hsy1
 replace hsy1:ref02_Cuts_L0 a1 v0 v5=some sy1:=hsy1
 unfold ref02_Cuts_L0 at hsy1
 refine avc_sq2<|avc_sq2<|avc_sq ?_
 refine sqa (a_move_d (lq rfl) rfl) ?_
 refine sqa (m_fieldPt (lq rfl) L26_0 rfl) ?_
 refine sqa (a_load_ip (lq rfl) O24 rfl rfl) ?_
 refine sqa (m_len (en:=eRange) (l:=a1.Ranges) (lq rfl) S24 rfl) ?_
 refine sqa (a_lss (lq rfl) rfl rfl) ?_
 refine sq_nil ?_
 refine ifM rfl hsy1 (fun _ hsy1=>?_) (fun _ hsy1=>?_)
 refine avc_skip<|avc_sq2 ?_
 obtain ⟨y2,hy2,hsy1⟩:=bE hsy1
 refine avc_tail (e:= .normal) (S2:=⟨[(0,.d (dsl eI y2)),(3,.d (.pt (eSet.cells a1))),(5,.d (di v5))],[]⟩) ?_ ?_
 refine avc_block<|avc_sq2 ?_
 refine avc_drawA MX rfl ?_
 refine daa (m_fieldPt (lq rfl) L26_0 rfl) ?_
 refine daa (a_load_ip (lq rfl) O24 rfl rfl) ?_
 refine daa (a_move_d (lq rfl) rfl) ?_
 obtain ⟨t18,ht18,hy2⟩:=bE hy2
 refine daa (m_index (en:=eRange) (lq rfl) S24 rfl rfl ht18) ?_
 refine daa (a_fieldAddr_ip (lq rfl) L184_0 rfl) ?_
 refine daa (m_loadE (en:=eRange) (l:=a1.Ranges) (i:=v5) (v:=t18) (off:=0) (lq rfl) O3 rfl ht18 rfl) ?_
 refine daa (m_fieldPt (lq rfl) L26_0 rfl) ?_
 refine daa (a_load_ip (lq rfl) O24 rfl rfl) ?_
 refine daa (a_move_d (lq rfl) rfl) ?_
 obtain ⟨t24,ht24,hy2⟩:=bE hy2
 refine daa (m_index (en:=eRange) (lq rfl) S24 rfl rfl ht24) ?_
 refine daa (a_fieldAddr_ip (lq rfl) L184_1 rfl) ?_
 refine daa (m_loadE (en:=eRange) (l:=a1.Ranges) (i:=v5) (v:=t24) (off:=1) (lq rfl) O3 rfl ht24 rfl) ?_
 refine daa (a_assign_d (lq rfl) rfl) ?_
 refine daa (a_assign_d (lq rfl) rfl) ?_
 refine da_nil ?_
 refine avc_sq2<|avc_sq2<|avc_sq ?_
 refine sqa (a_move_d (lq rfl) rfl) ?_
 obtain ⟨t28,ht28,hy2⟩:=bE hy2
 refine sqa (a_call (lq rfl) rfl (ref01_Valid_c ht28)) ?_
 refine sq_nil ?_
 obtain ⟨y3,hy3,hy2⟩:=bE hy2
 refine avc_tail (e:= .normal) (S2:=⟨[(0,.d (dsl eI y3)),(3,.d (.pt (eSet.cells a1))),(5,.d (di v5)),(7,.d (di t24.Hi))],[]⟩) ?_ ?_
 refine ifM rfl hy3 (fun _ hy3=>?_) (fun _ hy3=>?_)
 refine avc_sq ?_
 refine sqa (a_move_d (lq rfl) rfl) ?_
 refine sqa (a_move_d (lq rfl) rfl) ?_
 obtain ⟨t31,ht31,hy3⟩:=bE hy3
 refine sqa (a_call (lq rfl) rfl (ref02_place_c ht31)) ?_
 refine sqa (a_assign_d (lq rfl) rfl) ?_
 refine sq_nil ?_
 cases hy3
 exact out_mk (weak_cov ⟨rfl,rfl,rfl,rfl,trivial⟩ trivial)
 refine avc_skip ?_
 cases hy3
 exact out_mk (weak_cov ⟨rfl,rfl,rfl,rfl,trivial⟩ trivial)
 refine avc_sq2<|avc_sq ?_
 refine sqa (a_move_d (lq rfl) rfl) ?_
 refine sqa (a_geq (lq rfl) rfl rfl) ?_
 obtain ⟨b34,hb34,hy2⟩:=bE hy2
 refine sqa ((a_move_d (lq rfl) rfl).bool (Option.some.inj hb34)) ?_
 refine sq_g (x:= .d (di t24.Hi)) rfl rfl rfl (lq rfl) (lq rfl) rfl (fun hb=>by obtain rfl:b34=true:=hb;exact a_move_d (lq rfl) rfl) ?_
 refine sq_g (x:= .d (db (decide (t24.Hi < 1114111)))) rfl rfl rfl (lq rfl) (lq rfl) rfl (fun hb=>by obtain rfl:b34=true:=hb;exact a_lss (lq rfl) rfl rfl) ?_
 refine sqa (a_pick_and (lq rfl) rfl rfl) ?_
 refine sq_nil ?_
 refine ifM rfl hy2 (fun _ hy2=>?_) (fun _ hy2=>?_)
 refine avc_sq ?_
 refine sqa (a_move_d (lq rfl) rfl) ?_
 refine sqa (a_move_d (lq rfl) rfl) ?_
 refine sqa (m_add (lq rfl) rfl rfl) ?_
 obtain ⟨t41,ht41,hy2⟩:=bE hy2
 refine sqa (a_call (lq rfl) rfl (ref02_place_c ht41)) ?_
 refine sqa (a_assign_d (lq rfl) rfl) ?_
 refine sq_nil ?_
 cases hy2
 exact out_mk (weak_cov ⟨rfl,rfl,rfl,trivial⟩ trivial)
 refine avc_skip ?_
 cases hy2
 exact out_mk (weak_cov ⟨rfl,rfl,rfl,trivial⟩ trivial)
 refine avc_sq ?_
 refine sqa (a_move_d (lq rfl) rfl) ?_
 refine sqa (m_add (lq rfl) rfl rfl) ?_
 refine sqa (a_assign_d (lq rfl) rfl) ?_
 refine sq_nil ?_
 cases hsy1
 exact weak_cov ⟨rfl,rfl,rfl,trivial⟩ trivial
 refine avc_exit ?_
 cases hsy1
 intro q;cases q
 exact out_mk (weak_cov ⟨rfl,trivial⟩ trivial)
 refine avc_sq2<|avc_sq ?_
 refine sqa (a_move_d (lq rfl) rfl) ?_
 obtain ⟨t43,ht43,h⟩:=bE h
 refine sqa (a_call (lq rfl) rfl (ref02_place_c ht43)) ?_
 refine sqa (a_assign_d (lq rfl) rfl) ?_
 refine sq_nil ?_
 cases h
 refine avc_ret ?_
 exact ret_1 rfl
theorem ref02_Has_c {a0} {a1} {r} (h:ref02_Has a0 a1=some r):Contract Tryz.prog 202 [(eSet.dv a0),(di a1)] [(db r)]:=by
 refine contract_of Tryz.func202 (by kernel_rfl) rfl (lq rfl) (lq rfl) fun w0 I0 hI0 hG0=>?_
 unfold ref02_Has at h
 refine avc_sq2<|avc_sq ?_
 refine sqa (m_box (size:=1) (lq rfl) rfl rfl) ?_
 refine sqa (a_assign_d (lq rfl) rfl) ?_
 refine sq_nil<|avc_sq2<|avc_sq2<|avc_sq ?_
 refine sqa (a_assign_d (lq rfl) rfl) ?_
 refine sq_nil<|avc_block ?_
 obtain ⟨y1,hy1,h⟩:=bE h
 refine avc_tail2 y1 (.exit 0) (fun y1=>⟨[],[]⟩) .ret (fun y1=>⟨[(4,.d (db y1))],[]⟩) ?_ ?_ ?_
 refine avc_loopM (fun x=>⟨[(1,.d (di a1)),(2,.d (.pt (eSet.cells a0))),(5,.d (di x))],[]⟩) hy1 (weak_cov ⟨rfl,rfl,rfl,trivial⟩ trivial) ?_
 rintro v5 sy1 hsy1
 replace hsy1:ref02_Has_L0 a0 a1 v5=some sy1:=hsy1
 unfold ref02_Has_L0 at hsy1
 refine avc_sq2<|avc_sq2<|avc_sq ?_
 refine sqa (a_move_d (lq rfl) rfl) ?_
 refine sqa (m_fieldPt (lq rfl) L26_0 rfl) ?_
 refine sqa (a_load_ip (lq rfl) O24 rfl rfl) ?_
 refine sqa (m_len (en:=eRange) (l:=a0.Ranges) (lq rfl) S24 rfl) ?_
 refine sqa (a_lss (lq rfl) rfl rfl) ?_
 refine sq_nil ?_
 refine ifM rfl hsy1 (fun _ hsy1=>?_) (fun _ hsy1=>?_)
 refine avc_skip<|avc_sq2<|avc_block<|avc_sq2<|avc_sq ?_
 refine sqa (a_move_d (lq rfl) rfl) ?_
 obtain ⟨t14,ht14,hsy1⟩:=bE hsy1
 refine sqa (a_call (lq rfl) rfl (ref01_Valid_c ht14)) ?_
 obtain ⟨b15,hb15,hsy1⟩:=bE hsy1
 refine sqa ((a_move_d (lq rfl) rfl).bool (Option.some.inj hb15)) ?_
 refine sq_g (x:= .ip (eSet.cells a0) (0+0)) rfl rfl rfl (lq rfl) (lq rfl) rfl (fun hb=>by obtain rfl:b15=true:=hb;exact m_fieldPt (lq rfl) L26_0 rfl) ?_
 refine sq_g (x:= .d (dsl eRange a0.Ranges)) rfl rfl rfl (lq rfl) (lq rfl) rfl (fun hb=>by obtain rfl:b15=true:=hb;exact a_load_ip (lq rfl) O24 rfl rfl) ?_
 refine sq_g (x:= .d (di v5)) rfl rfl rfl (lq rfl) (lq rfl) rfl (fun hb=>by obtain rfl:b15=true:=hb;exact a_move_d (lq rfl) rfl) ?_
 obtain ⟨t19,ht19,hsy1⟩:=bE hsy1
 refine sq_g (x:= .ip (eRange.all a0.Ranges) (v5.toNat*eRange.size)) rfl rfl rfl (lq rfl) (lq rfl) rfl (fun hb=>by obtain rfl:b15=true:=hb;exact m_index (en:=eRange) (lq rfl) S24 rfl rfl ht19) ?_
 refine sq_g (x:= .ip (eRange.all a0.Ranges) (v5.toNat*eRange.size+0)) rfl rfl rfl (lq rfl) (lq rfl) rfl (fun hb=>by obtain rfl:b15=true:=hb;exact a_fieldAddr_ip (lq rfl) L184_0 rfl) ?_
 refine sq_g (x:= .d (di t19.Lo)) rfl rfl rfl (lq rfl) (lq rfl) rfl (fun hb=>by obtain rfl:b15=true:=hb;exact m_loadE (en:=eRange) (l:=a0.Ranges) (i:=v5) (v:=t19) (off:=0) (lq rfl) O3 rfl ht19 rfl) ?_
 refine sq_g (x:= .d (di a1)) rfl rfl rfl (lq rfl) (lq rfl) rfl (fun hb=>by obtain rfl:b15=true:=hb;exact a_move_d (lq rfl) rfl) ?_
 refine sq_g (x:= .d (db (decide (t19.Lo≤a1)))) rfl rfl rfl (lq rfl) (lq rfl) rfl (fun hb=>by obtain rfl:b15=true:=hb;exact a_leq (lq rfl) rfl rfl) ?_
 refine sqa (a_pick_and (lq rfl) rfl rfl) ?_
 obtain ⟨b25,hb25,hsy1⟩:=bE hsy1
 refine sqa ((a_move_d (lq rfl) rfl).bool (Option.some.inj hb25)) ?_
 refine sq_g (x:= .d (di a1)) rfl rfl rfl (lq rfl) (lq rfl) rfl (fun hb=>by obtain rfl:b25=true:=hb;exact a_move_d (lq rfl) rfl) ?_
 refine sq_g (x:= .ip (eSet.cells a0) (0+0)) rfl rfl rfl (lq rfl) (lq rfl) rfl (fun hb=>by obtain rfl:b25=true:=hb;exact m_fieldPt (lq rfl) L26_0 rfl) ?_
 refine sq_g (x:= .d (dsl eRange a0.Ranges)) rfl rfl rfl (lq rfl) (lq rfl) rfl (fun hb=>by obtain rfl:b25=true:=hb;exact a_load_ip (lq rfl) O24 rfl rfl) ?_
 refine sq_g (x:= .d (di v5)) rfl rfl rfl (lq rfl) (lq rfl) rfl (fun hb=>by obtain rfl:b25=true:=hb;exact a_move_d (lq rfl) rfl) ?_
 obtain ⟨t30,ht30,hsy1⟩:=bE hsy1
 refine sq_g (x:= .ip (eRange.all a0.Ranges) (v5.toNat*eRange.size)) rfl rfl rfl (lq rfl) (lq rfl) rfl (fun hb=>by obtain rfl:b25=true:=hb;exact m_index (en:=eRange) (lq rfl) S24 rfl rfl ht30) ?_
 refine sq_g (x:= .ip (eRange.all a0.Ranges) (v5.toNat*eRange.size+1)) rfl rfl rfl (lq rfl) (lq rfl) rfl (fun hb=>by obtain rfl:b25=true:=hb;exact a_fieldAddr_ip (lq rfl) L184_1 rfl) ?_
 refine sq_g (x:= .d (di t30.Hi)) rfl rfl rfl (lq rfl) (lq rfl) rfl (fun hb=>by obtain rfl:b25=true:=hb;exact m_loadE (en:=eRange) (l:=a0.Ranges) (i:=v5) (v:=t30) (off:=1) (lq rfl) O3 rfl ht30 rfl) ?_
 refine sq_g (x:= .d (db (decide (a1≤t30.Hi)))) rfl rfl rfl (lq rfl) (lq rfl) rfl (fun hb=>by obtain rfl:b25=true:=hb;exact a_leq (lq rfl) rfl rfl) ?_
 refine sqa (a_pick_and (lq rfl) rfl rfl) ?_
 refine sq_nil ?_
 refine ifM rfl hsy1 (fun _ hsy1=>?_) (fun _ hsy1=>?_)
 refine avc_sq2<|avc_sq ?_
 refine sqa (a_assign_d (lq rfl) rfl) ?_
 refine sq_nil ?_
 refine avc_ret ?_
 cases hsy1
 intro q;cases q
 exact ⟨rfl,weak_cov ⟨rfl,trivial⟩ trivial⟩
 refine avc_skip<|avc_sq ?_
 refine sqa (a_move_d (lq rfl) rfl) ?_
 refine sqa (m_add (lq rfl) rfl rfl) ?_
 refine sqa (a_assign_d (lq rfl) rfl) ?_
 refine sq_nil ?_
 cases hsy1
 exact weak_cov ⟨rfl,rfl,rfl,trivial⟩ trivial
 refine avc_exit ?_
 cases hsy1
 intro q;cases q
 exact ⟨rfl,weak_cov trivial trivial⟩
 rintro y1 rfl
 replace h:=eL h
 refine avc_sq2<|avc_sq ?_
 refine sqa (a_assign_d (lq rfl) rfl) ?_
 refine sq_nil ?_
 cases h
 refine avc_ret ?_
 exact ret_1 rfl
 rintro y1 rfl
 replace h:=eR h
 cases h
 exact ret_1 rfl
theorem ref02_keeps_c {a0} {a1} {a2} {r} (h:ref02_keeps a0 a1 a2=some r):Contract Tryz.prog 201 [(di a0),(db a1),(db a2)] [(db r)]:=by
 refine contract_of Tryz.func201 (by kernel_rfl) rfl (lq rfl) (lq rfl) fun w0 I0 hI0 hG0=>?_
 unfold ref02_keeps at h
 refine avc_sq2<|avc_sq ?_
 refine sqa (a_assign_d (lq rfl) rfl) ?_
 refine sq_nil<|avc_sq2<|avc_sq2<|avc_sq ?_
 refine sqa (a_move_d (lq rfl) rfl) ?_
 refine sq_nil<|avc_block<|avc_sq2<|avc_sq ?_
 refine sqa (a_eql (lq rfl) rfl rfl) ?_
 refine sqa (a_assign_d (lq rfl) rfl) ?_
 refine sq_nil ?_
 refine ifM rfl h (fun _ h=>?_) (fun _ h=>?_)
 refine avc_sq2<|avc_sq ?_
 refine sqa (a_move_d (lq rfl) rfl) ?_
 obtain ⟨b11,hb11,h⟩:=bE h
 refine sqa ((a_move_d (lq rfl) rfl).bool (Option.some.inj hb11)) ?_
 refine sq_g (x:= .d (db a2)) rfl rfl rfl (lq rfl) (lq rfl) rfl (fun hb=>by obtain rfl:=gF hb;exact a_move_d (lq rfl) rfl) ?_
 refine sqa (a_pick_or (lq rfl) rfl rfl) ?_
 refine sqa (a_assign_d (lq rfl) rfl) ?_
 refine sq_nil ?_
 cases h
 refine avc_ret ?_
 exact ret_1 rfl
 refine avc_sq2<|avc_sq ?_
 refine sqa (a_eql (lq rfl) rfl rfl) ?_
 refine sqa (a_assign_d (lq rfl) rfl) ?_
 refine sq_nil ?_
 refine ifM rfl h (fun _ h=>?_) (fun _ h=>?_)
 refine avc_sq2<|avc_sq ?_
 refine sqa (a_move_d (lq rfl) rfl) ?_
 obtain ⟨b17,hb17,h⟩:=bE h
 refine sqa ((a_move_d (lq rfl) rfl).bool (Option.some.inj hb17)) ?_
 refine sq_g (x:= .d (db a2)) rfl rfl rfl (lq rfl) (lq rfl) rfl (fun hb=>by obtain rfl:b17=true:=hb;exact a_move_d (lq rfl) rfl) ?_
 refine sqa (a_pick_and (lq rfl) rfl rfl) ?_
 refine sqa (a_assign_d (lq rfl) rfl) ?_
 refine sq_nil ?_
 cases h
 refine avc_ret ?_
 exact ret_1 rfl
 refine avc_skip<|avc_sq2<|avc_sq ?_
 refine sqa (a_move_d (lq rfl) rfl) ?_
 obtain ⟨b21,hb21,h⟩:=bE h
 refine sqa ((a_move_d (lq rfl) rfl).bool (Option.some.inj hb21)) ?_
 refine sq_g (x:= .d (db a2)) rfl rfl rfl (lq rfl) (lq rfl) rfl (fun hb=>by obtain rfl:b21=true:=hb;exact a_move_d (lq rfl) rfl) ?_
 refine sq_g (x:= .d (db (!a2))) rfl rfl rfl (lq rfl) (lq rfl) rfl (fun hb=>by obtain rfl:b21=true:=hb;exact a_not (lq rfl) rfl) ?_
 refine sqa (a_pick_and (lq rfl) rfl rfl) ?_
 refine sqa (a_assign_d (lq rfl) rfl) ?_
 refine sq_nil ?_
 cases h
 refine avc_ret ?_
 exact ret_1 rfl
theorem ref02_combine_c {a0} {a1} {a2} {r} (h:ref02_combine a0 a1 a2=some r):Contract Tryz.prog 188 [(eSet.dv a0),(eSet.dv a1),(di a2)] [(eSet.dv r)]:=by
 refine contract_of Tryz.func188 (by kernel_rfl) rfl (lq rfl) (lq rfl) fun w0 I0 hI0 hG0=>?_
 unfold ref02_combine at h
 refine avc_sq2<|avc_sq ?_
 refine sqa (m_box (size:=1) (lq rfl) rfl rfl) ?_
 refine sqa (m_box (size:=1) (lq rfl) rfl rfl) ?_
 refine sq_b rfl (step_alloc (zs:=[(.slice none 0 0)]) (lq rfl) (by kernel_rfl) rfl rfl) ?_
 refine sq_nil<|avc_sq2 ?_
 refine avc_drawA MX rfl ?_
 refine daa (m_loadPt (lq rfl) G26 rfl rfl) ?_
 obtain ⟨t14,ht14,h⟩:=bE h
 refine daa (a_call (lq rfl) rfl (con_nil (ref02_Cuts_c ht14) (nlN (nlE nl0)))) ?_
 refine daa (m_loadPt (lq rfl) G26 rfl rfl) ?_
 obtain ⟨t16,ht16,h⟩:=bE h
 refine daa (a_call (lq rfl) rfl (ref02_Cuts_c ht16)) ?_
 refine daa (a_assign_d (lq rfl) rfl) ?_
 refine da_nil ?_
 refine avc_sq2<|avc_sq ?_
 refine sq_b rfl (step_alloc (zs:=[(.slice none 0 0)]) (lq rfl) (by kernel_rfl) rfl rfl) ?_
 refine sq_nil ?_
 refine avc_weak (weak_nil_box (bid:=8) (off:=0) 4160 184 eRange.size (lq rfl) (by decide) rfl rfl rfl) ?_
 refine avc_sq2<|avc_sq ?_
 refine sqa (a_assign_d (lq rfl) rfl) ?_
 refine sq_nil<|avc_sq2<|avc_sq2<|avc_sq ?_
 refine sqa (a_assign_d (lq rfl) rfl) ?_
 refine sq_nil<|avc_block ?_
 obtain ⟨y1,hy1,h⟩:=bE h
 refine avc_tail (e:=(.exit 0)) (S2:=⟨[(6,.ptr 6 0),(8,.ptr 8 0)],[(6,.box 26 [.d (.v (.slice none 0 0))]),(8,.box 26 [.row 4160]),(4160,.row 184 eRange.size false (eRange.all y1))]⟩) ?_ ?_
 refine avc_loopM (fun x=>⟨[(2,.d (di a2)),(3,.d (.pt (eSet.cells a0))),(4,.d (.pt (eSet.cells a1))),(6,.ptr 6 0),(7,.d (dsl eI t16)),(8,.ptr 8 0),(9,.d (db x.1)),(10,.d (di x.2.1))],[(6,.box 26 [.d (.v (.slice none 0 0))]),(8,.box 26 [.row 4160]),(4160,.row 184 eRange.size false (eRange.all x.2.2))]⟩) hy1 (weak_cov ⟨rfl,rfl,rfl,rfl,rfl,rfl,rfl,rfl,trivial⟩ ⟨rfl,rfl,rfl,trivial⟩) ?_
 rintro ⟨v9,v10,r4160⟩ sy1 hsy1
 replace hsy1:ref02_combine_L0 t16 a0 a1 a2 v9 v10 r4160=some sy1:=hsy1
 unfold ref02_combine_L0 at hsy1
 refine avc_sq2<|avc_sq2<|avc_sq ?_
 refine sqa (a_move_d (lq rfl) rfl) ?_
 refine sqa (a_move_d (lq rfl) rfl) ?_
 refine sqa (m_len (en:=eI) (l:=t16) (lq rfl) S37 rfl) ?_
 refine sqa (a_lss (lq rfl) rfl rfl) ?_
 refine sq_nil ?_
 refine ifM rfl hsy1 (fun _ hsy1=>?_) (fun _ hsy1=>?_)
 refine avc_skip<|avc_sq2<|avc_block<|avc_sq2<|avc_sq ?_
 refine sqa (a_assign_d (lq rfl) rfl) ?_
 refine sq_nil<|avc_sq2<|avc_sq2<|avc_sq ?_
 refine sqa (a_move_d (lq rfl) rfl) ?_
 refine sqa (m_add (lq rfl) rfl rfl) ?_
 refine sqa (a_move_d (lq rfl) rfl) ?_
 refine sqa (m_len (en:=eI) (l:=t16) (lq rfl) S37 rfl) ?_
 refine sqa (a_lss (lq rfl) rfl rfl) ?_
 refine sq_nil ?_
 obtain ⟨y2,hy2,hsy1⟩:=bE hsy1
 refine avc_tail (e:= .normal) (S2:=⟨[(2,.d (di a2)),(3,.d (.pt (eSet.cells a0))),(4,.d (.pt (eSet.cells a1))),(6,.ptr 6 0),(7,.d (dsl eI t16)),(8,.ptr 8 0),(9,.d (db v9)),(10,.d (di v10)),(11,.d (di y2))],[(6,.box 26 [.d (.v (.slice none 0 0))]),(8,.box 26 [.row 4160]),(4160,.row 184 eRange.size false (eRange.all r4160))]⟩) ?_ ?_
 refine ifM rfl hy2 (fun _ hy2=>?_) (fun _ hy2=>?_)
 refine avc_sq ?_
 refine sqa (a_move_d (lq rfl) rfl) ?_
 refine sqa (a_move_d (lq rfl) rfl) ?_
 refine sqa (m_add (lq rfl) rfl rfl) ?_
 obtain ⟨t31,ht31,hy2⟩:=bE hy2
 refine sqa (m_index (en:=eI) (lq rfl) S37 rfl rfl ht31) ?_
 refine sqa (m_loadE (en:=eI) (l:=t16) (i:=(wi (v10+1))) (v:=t31) (off:=0) (lq rfl) O3 rfl ht31 rfl) ?_
 refine sqa (m_sub (lq rfl) rfl rfl) ?_
 refine sqa (a_assign_d (lq rfl) rfl) ?_
 refine sq_nil ?_
 cases hy2
 exact out_mk (weak_cov ⟨rfl,rfl,rfl,rfl,rfl,rfl,rfl,rfl,rfl,trivial⟩ ⟨rfl,rfl,rfl,trivial⟩)
 refine avc_skip ?_
 cases hy2
 exact out_mk (weak_cov ⟨rfl,rfl,rfl,rfl,rfl,rfl,rfl,rfl,rfl,trivial⟩ ⟨rfl,rfl,rfl,trivial⟩)
 refine avc_sq2 ?_
 refine avc_drawA MX rfl ?_
 refine daa (a_move_d (lq rfl) rfl) ?_
 refine daa (m_loadPt (lq rfl) G26 rfl rfl) ?_
 refine daa (a_move_d (lq rfl) rfl) ?_
 refine daa (a_move_d (lq rfl) rfl) ?_
 obtain ⟨t38,ht38,hsy1⟩:=bE hsy1
 refine daa (m_index (en:=eI) (lq rfl) S37 rfl rfl ht38) ?_
 refine daa (m_loadE (en:=eI) (l:=t16) (i:=v10) (v:=t38) (off:=0) (lq rfl) O3 rfl ht38 rfl) ?_
 obtain ⟨t40,ht40,hsy1⟩:=bE hsy1
 refine daa (a_call (lq rfl) rfl (ref02_Has_c ht40)) ?_
 refine daa (m_loadPt (lq rfl) G26 rfl rfl) ?_
 refine daa (a_move_d (lq rfl) rfl) ?_
 refine daa (a_move_d (lq rfl) rfl) ?_
 obtain ⟨t44,ht44,hsy1⟩:=bE hsy1
 refine daa (m_index (en:=eI) (lq rfl) S37 rfl rfl ht44) ?_
 refine daa (m_loadE (en:=eI) (l:=t16) (i:=v10) (v:=t44) (off:=0) (lq rfl) O3 rfl ht44 rfl) ?_
 obtain ⟨t46,ht46,hsy1⟩:=bE hsy1
 refine daa (a_call (lq rfl) rfl (ref02_Has_c ht46)) ?_
 obtain ⟨t47,ht47,hsy1⟩:=bE hsy1
 refine daa (a_call (lq rfl) rfl (ref02_keeps_c ht47)) ?_
 refine daa (a_assign_d (lq rfl) rfl) ?_
 refine da_nil ?_
 refine avc_sq2<|avc_sq2<|avc_sq ?_
 refine sqa (a_move_d (lq rfl) rfl) ?_
 obtain ⟨b49,hb49,hsy1⟩:=bE hsy1
 refine sqa ((a_move_d (lq rfl) rfl).bool (Option.some.inj hb49)) ?_
 refine sq_g (x:= .d (db v9)) rfl rfl rfl (lq rfl) (lq rfl) rfl (fun hb=>by obtain rfl:b49=true:=hb;exact a_move_d (lq rfl) rfl) ?_
 refine sqa (a_pick_and (lq rfl) rfl rfl) ?_
 refine sq_nil ?_
 obtain ⟨y3,hy3,hsy1⟩:=bE hsy1
 refine avc_tail (e:= .normal) (S2:=⟨[(2,.d (di a2)),(3,.d (.pt (eSet.cells a0))),(4,.d (.pt (eSet.cells a1))),(6,.ptr 6 0),(7,.d (dsl eI t16)),(8,.ptr 8 0),(9,.d (db v9)),(10,.d (di v10)),(11,.d (di y2)),(12,.d (db t47))],[(6,.box 26 [.d (.v (.slice none 0 0))]),(8,.box 26 [.row 4160]),(4160,.row 184 eRange.size false (eRange.all y3))]⟩) ?_ ?_
 refine ifM rfl hy3 (fun _ hy3=>?_) (fun _ hy3=>?_)
 refine avc_sq ?_
 refine sqa (a_fieldAddr_ptr (lq rfl) L26_0 rfl) ?_
 refine sqa (a_load_box (lq rfl) O24 rfl rfl rfl) ?_
 refine sqa (a_fieldAddr_ptr (lq rfl) L26_0 rfl) ?_
 refine sqa (a_load_box (lq rfl) O24 rfl rfl rfl) ?_
 refine sqa (m_lenR (en:=eRange) (l:=r4160) (lq rfl) S24 rfl rfl) ?_
 refine sqa (m_sub (lq rfl) rfl rfl) ?_
 refine sqa (a_move_d (lq rfl) rfl) ?_
 obtain ⟨t59,ht59,hy3⟩:=bE hy3
 refine sqa (m_indexR (en:=eRange) (l:=r4160) (lq rfl) S24 rfl rfl rfl ht59) ?_
 refine sqa (a_fieldAddr_ptr (lq rfl) L184_1 rfl) ?_
 obtain ⟨r4160_4,hr4160_4,hy3⟩:=bE hy3
 refine sq_b rfl (m_store (en:=eRange) (l:=r4160) (i:=(wi ((r4160.length:Int) - 1))) (v:=t59) (off:=1) O3 rfl rfl rfl ht59 rfl (by decide) hr4160_4 rfl rfl) ?_
 refine sq_nil ?_
 cases hy3
 exact out_mk (weak_cov ⟨rfl,rfl,rfl,rfl,rfl,rfl,rfl,rfl,rfl,rfl,trivial⟩ ⟨rfl,rfl,rfl,trivial⟩)
 refine avc_skip ?_
 cases hy3
 exact out_mk (weak_cov ⟨rfl,rfl,rfl,rfl,rfl,rfl,rfl,rfl,rfl,rfl,trivial⟩ ⟨rfl,rfl,rfl,trivial⟩)
 refine avc_sq2<|avc_sq2<|avc_sq ?_
 refine sqa (a_move_d (lq rfl) rfl) ?_
 obtain ⟨b62,hb62,hsy1⟩:=bE hsy1
 refine sqa ((a_move_d (lq rfl) rfl).bool (Option.some.inj hb62)) ?_
 refine sq_g (x:= .d (db v9)) rfl rfl rfl (lq rfl) (lq rfl) rfl (fun hb=>by obtain rfl:b62=true:=hb;exact a_move_d (lq rfl) rfl) ?_
 refine sq_g (x:= .d (db (!v9))) rfl rfl rfl (lq rfl) (lq rfl) rfl (fun hb=>by obtain rfl:b62=true:=hb;exact a_not (lq rfl) rfl) ?_
 refine sqa (a_pick_and (lq rfl) rfl rfl) ?_
 refine sq_nil ?_
 obtain ⟨y5,hy5,hsy1⟩:=bE hsy1
 refine avc_tail (e:= .normal) (S2:=⟨[(2,.d (di a2)),(3,.d (.pt (eSet.cells a0))),(4,.d (.pt (eSet.cells a1))),(6,.ptr 6 0),(7,.d (dsl eI t16)),(8,.ptr 8 0),(10,.d (di v10)),(12,.d (db t47))],[(6,.box 26 [.d (.v (.slice none 0 0))]),(8,.box 26 [.row 4160]),(4160,.row 184 eRange.size false (eRange.all y5))]⟩) ?_ ?_
 refine ifM rfl hy5 (fun _ hy5=>?_) (fun _ hy5=>?_)
 refine avc_draw 9 MX rfl ?_
 refine daa (a_fieldAddr_ptr (lq rfl) L26_0 rfl) ?_
 refine daa (a_load_box (lq rfl) O24 rfl rfl rfl) ?_
 refine daa (a_move_d (lq rfl) rfl) ?_
 refine daa (a_move_d (lq rfl) rfl) ?_
 obtain ⟨t70,ht70,hy5⟩:=bE hy5
 refine daa (m_index (en:=eI) (lq rfl) S37 rfl rfl ht70) ?_
 refine daa (m_loadE (en:=eI) (l:=t16) (i:=v10) (v:=t70) (off:=0) (lq rfl) O3 rfl ht70 rfl) ?_
 refine daa (a_move_d (lq rfl) rfl) ?_
 refine daa (m_build (lq rfl) B184 rfl rfl) ?_
 refine daa (a_lit (lq rfl) S24 rfl rfl rfl rfl (by decide) rfl) ?_
 refine da_nil ?_
 obtain ⟨r4160_6,hr4160_6,hy5⟩:=bE hy5
 refine sq_b rfl (m_append (en:=eRange) (l:=y3) (m:=[({Lo:=t70,Hi:=y2}:Range)]) (lq rfl) S24 rfl rfl rfl hr4160_6 (by decide) (by decide) rfl rfl) ?_
 refine sqa (a_fieldAddr_ptr (lq rfl) L26_0 rfl) ?_
 refine sq_b rfl (s_store_box_row O24 rfl rfl (lq rfl) rfl rfl rfl) ?_
 refine sq_nil ?_
 cases hy5
 exact out_mk (weak_cov ⟨rfl,rfl,rfl,rfl,rfl,rfl,rfl,rfl,trivial⟩ ⟨rfl,rfl,rfl,trivial⟩)
 refine avc_skip ?_
 cases hy5
 exact out_mk (weak_cov ⟨rfl,rfl,rfl,rfl,rfl,rfl,rfl,rfl,trivial⟩ ⟨rfl,rfl,rfl,trivial⟩)
 refine avc_sq ?_
 refine sqa (a_move_d (lq rfl) rfl) ?_
 refine sqa (a_assign_d (lq rfl) rfl) ?_
 refine sq_nil<|avc_sq ?_
 refine sqa (a_move_d (lq rfl) rfl) ?_
 refine sqa (m_add (lq rfl) rfl rfl) ?_
 refine sqa (a_assign_d (lq rfl) rfl) ?_
 refine sq_nil ?_
 cases hsy1
 exact weak_cov ⟨rfl,rfl,rfl,rfl,rfl,rfl,rfl,rfl,trivial⟩ ⟨rfl,rfl,rfl,trivial⟩
 refine avc_exit ?_
 cases hsy1
 intro q;cases q
 exact out_mk (weak_cov ⟨rfl,rfl,trivial⟩ ⟨rfl,rfl,rfl,trivial⟩)
 refine avc_sq2 ?_
 refine avc_weak (weak_row_box (bid:=8) (off:=0) rfl rfl rfl) ?_
 refine avc_sq ?_
 refine sqa ((a_load_boxA (lq rfl) G26 rfl rfl rfl rfl).data rfl) ?_
 refine sq_b rfl (s_store_boxA G26 rfl rfl rfl rfl rfl rfl) ?_
 refine sq_nil ?_
 cases h
 refine avc_ret ?_
 exact ret_cellA rfl rfl G26 rfl
theorem ref02_Make_c {a0} {r} (h:ref02_Make a0=some r):Contract Tryz.prog 164 [(dsl eRange a0)] [(eSet.dv r)]:=by
 refine contract_of Tryz.func164 (by kernel_rfl) rfl (lq rfl) (lq rfl) fun w0 I0 hI0 hG0=>?_
 unfold ref02_Make at h
 refine avc_sq2<|avc_sq ?_
 refine sq_b rfl (step_alloc (zs:=[(.slice none 0 0)]) (lq rfl) (by kernel_rfl) rfl rfl) ?_
 refine sq_nil<|avc_sq2<|avc_sq ?_
 refine sqa (a_move_d (lq rfl) rfl) ?_
 refine sqa (m_build (lq rfl) B26 rfl rfl) ?_
 refine sqa ((m_build (lq rfl) B26 rfl rfl).nils (bs:=eSet.cells ({Ranges:=[]}:Set)) (nlN nl0)) ?_
 obtain ⟨t6,ht6,h⟩:=bE h
 refine sqa (a_call (lq rfl) rfl (ref02_combine_c ht6)) ?_
 refine sq_b rfl (s_store_boxA G26 rfl rfl rfl rfl rfl rfl) ?_
 refine sq_nil ?_
 cases h
 refine avc_ret ?_
 exact ret_cellA rfl rfl G26 rfl
theorem ref02_Same_c {a0} {a1} {r} (h:ref02_Same a0 a1=some r):Contract Tryz.prog 163 [(eSet.dv a0),(eSet.dv a1)] [(db r)]:=by
 refine contract_of Tryz.func163 (by kernel_rfl) rfl (lq rfl) (lq rfl) fun w0 I0 hI0 hG0=>?_
 unfold ref02_Same at h
 refine avc_sq2<|avc_sq ?_
 refine sqa (m_box (size:=1) (lq rfl) rfl rfl) ?_
 refine sqa (m_box (size:=1) (lq rfl) rfl rfl) ?_
 refine sqa (a_assign_d (lq rfl) rfl) ?_
 refine sq_nil<|avc_sq2<|avc_sq2<|avc_sq ?_
 refine sqa (m_fieldPt (lq rfl) L26_0 rfl) ?_
 refine sqa (a_load_ip (lq rfl) O24 rfl rfl) ?_
 refine sqa (m_len (en:=eRange) (l:=a0.Ranges) (lq rfl) S24 rfl) ?_
 refine sqa (m_fieldPt (lq rfl) L26_0 rfl) ?_
 refine sqa (a_load_ip (lq rfl) O24 rfl rfl) ?_
 refine sqa (m_len (en:=eRange) (l:=a1.Ranges) (lq rfl) S24 rfl) ?_
 refine sqa (a_neq (lq rfl) rfl rfl) ?_
 refine sq_nil ?_
 refine ifM rfl h (fun _ h=>?_) (fun _ h=>?_)
 refine avc_sq2<|avc_sq ?_
 refine sqa (a_assign_d (lq rfl) rfl) ?_
 refine sq_nil ?_
 cases h
 refine avc_ret ?_
 exact ret_1 rfl
 refine avc_skip<|avc_sq2<|avc_sq2<|avc_sq ?_
 refine sqa (a_assign_d (lq rfl) rfl) ?_
 refine sq_nil<|avc_block ?_
 obtain ⟨y1,hy1,h⟩:=bE h
 refine avc_tail2 y1 (.exit 0) (fun y1=>⟨[],[]⟩) .ret (fun y1=>⟨[(4,.d (db y1))],[]⟩) ?_ ?_ ?_
 refine avc_loopM (fun x=>⟨[(2,.d (.pt (eSet.cells a0))),(3,.d (.pt (eSet.cells a1))),(5,.d (di x))],[]⟩) hy1 (weak_cov ⟨rfl,rfl,rfl,trivial⟩ trivial) ?_
 rintro v5 sy1 hsy1
 replace hsy1:ref02_Same_L0 a0 a1 v5=some sy1:=hsy1
 unfold ref02_Same_L0 at hsy1
 refine avc_sq2<|avc_sq2<|avc_sq ?_
 refine sqa (a_move_d (lq rfl) rfl) ?_
 refine sqa (m_fieldPt (lq rfl) L26_0 rfl) ?_
 refine sqa (a_load_ip (lq rfl) O24 rfl rfl) ?_
 refine sqa (m_len (en:=eRange) (l:=a0.Ranges) (lq rfl) S24 rfl) ?_
 refine sqa (a_lss (lq rfl) rfl rfl) ?_
 refine sq_nil ?_
 refine ifM rfl hsy1 (fun _ hsy1=>?_) (fun _ hsy1=>?_)
 refine avc_skip<|avc_sq2<|avc_block<|avc_sq2 ?_
 refine avc_drawA MX rfl ?_
 refine daa (m_fieldPt (lq rfl) L26_0 rfl) ?_
 refine daa (a_load_ip (lq rfl) O24 rfl rfl) ?_
 refine daa (a_move_d (lq rfl) rfl) ?_
 obtain ⟨t23,ht23,hsy1⟩:=bE hsy1
 refine daa (m_index (en:=eRange) (lq rfl) S24 rfl rfl ht23) ?_
 refine daa (m_loadEA (en:=eRange) (l:=a0.Ranges) (i:=v5) (v:=t23) (off:=0) (lq rfl) G184 rfl ht23 rfl rfl (by decide)) ?_
 refine daa (m_fieldPt (lq rfl) L26_0 rfl) ?_
 refine daa (a_load_ip (lq rfl) O24 rfl rfl) ?_
 refine daa (a_move_d (lq rfl) rfl) ?_
 obtain ⟨t28,ht28,hsy1⟩:=bE hsy1
 refine daa (m_index (en:=eRange) (lq rfl) S24 rfl rfl ht28) ?_
 refine daa (m_loadEA (en:=eRange) (l:=a1.Ranges) (i:=v5) (v:=t28) (off:=0) (lq rfl) G184 rfl ht28 rfl rfl (by decide)) ?_
 refine daa (m_stneq (en:=eRange) (a:=t23) (b:=t28) (lq rfl) E184 rfl rfl) ?_
 refine da_nil ?_
 refine ifM rfl hsy1 (fun _ hsy1=>?_) (fun _ hsy1=>?_)
 refine avc_sq2<|avc_sq ?_
 refine sqa (a_assign_d (lq rfl) rfl) ?_
 refine sq_nil ?_
 refine avc_ret ?_
 cases hsy1
 intro q;cases q
 exact ⟨rfl,weak_cov ⟨rfl,trivial⟩ trivial⟩
 refine avc_skip<|avc_sq ?_
 refine sqa (a_move_d (lq rfl) rfl) ?_
 refine sqa (m_add (lq rfl) rfl rfl) ?_
 refine sqa (a_assign_d (lq rfl) rfl) ?_
 refine sq_nil ?_
 cases hsy1
 exact weak_cov ⟨rfl,rfl,rfl,trivial⟩ trivial
 refine avc_exit ?_
 cases hsy1
 intro q;cases q
 exact ⟨rfl,weak_cov trivial trivial⟩
 rintro y1 rfl
 replace h:=eL h
 refine avc_sq2<|avc_sq ?_
 refine sqa (a_assign_d (lq rfl) rfl) ?_
 refine sq_nil ?_
 cases h
 refine avc_ret ?_
 exact ret_1 rfl
 rintro y1 rfl
 replace h:=eR h
 cases h
 exact ret_1 rfl
theorem ref02_Valid_c {a0} {r} (h:ref02_Valid a0=some r):Contract Tryz.prog 117 [(eSet.dv a0)] [(db r)]:=by
 refine contract_of Tryz.func117 (by kernel_rfl) rfl (lq rfl) (lq rfl) fun w0 I0 hI0 hG0=>?_
 unfold ref02_Valid at h
 refine avc_sq2<|avc_sq ?_
 refine sqa (m_box (size:=1) (lq rfl) rfl rfl) ?_
 refine sqa (a_assign_d (lq rfl) rfl) ?_
 refine sq_nil<|avc_sq2 ?_
 refine avc_drawA MX rfl ?_
 refine daa (m_loadPt (lq rfl) G26 rfl rfl) ?_
 refine daa (m_fieldPt (lq rfl) L26_0 rfl) ?_
 refine daa (a_load_ip (lq rfl) O24 rfl rfl) ?_
 obtain ⟨t6,ht6,h⟩:=bE h
 refine daa (a_call (lq rfl) rfl (ref02_Make_c ht6)) ?_
 obtain ⟨t7,ht7,h⟩:=bE h
 refine daa (a_call (lq rfl) rfl (ref02_Same_c ht7)) ?_
 refine daa (a_assign_d (lq rfl) rfl) ?_
 refine da_nil ?_
 cases h
 refine avc_ret ?_
 exact ret_1 rfl
theorem ref37_Check_c {a0} {r} (h:ref37_Check a0=some r):Contract Tryz.prog 82 [(eCase.dv a0)] [(di r)]:=by
 refine contract_of Tryz.func82 (by kernel_rfl) rfl (lq rfl) (lq rfl) fun w0 I0 hI0 hG0=>?_
 unfold ref37_Check at h
 refine avc_sq2<|avc_sq ?_
 refine sqa (m_box (size:=6) (lq rfl) rfl rfl) ?_
 refine sqa (a_assign_d (lq rfl) rfl) ?_
 refine sq_nil<|avc_sq2<|avc_sq ?_
 refine sqa (m_fieldPt (lq rfl) L45_0 rfl) ?_
 refine sqa (a_load_ip (lq rfl) O23 rfl rfl) ?_
 refine sqa (m_fieldPt (lq rfl) L45_1 rfl) ?_
 refine sqa (a_load_ip (lq rfl) O23 rfl rfl) ?_
 refine sqa (m_fieldPt (lq rfl) L45_2 rfl) ?_
 refine sqa (a_load_ip (lq rfl) O23 rfl rfl) ?_
 refine sqa (m_fieldPt (lq rfl) L45_3 rfl) ?_
 refine sqa (a_load_ip (lq rfl) O23 rfl rfl) ?_
 refine sqa (a_lit (lq rfl) S153 rfl rfl rfl rfl (by decide) rfl) ?_
 refine sqa (a_assign_d (lq rfl) rfl) ?_
 refine sq_nil<|avc_sq2<|avc_sq2<|avc_sq ?_
 refine sqa (a_assign_d (lq rfl) rfl) ?_
 refine sq_nil<|avc_block ?_
 obtain ⟨y1,hy1,h⟩:=bE h
 refine avc_tail2 y1 (.exit 0) (fun y1=>⟨[(1,.d (.pt (eCase.cells a0)))],[]⟩) .ret (fun y1=>⟨[(2,.d (di y1))],[]⟩) ?_ ?_ ?_
 refine avc_loopM (fun x=>⟨[(1,.d (.pt (eCase.cells a0))),(3,.d (dsl (eL eMapping) [a0.Lower,a0.Upper,a0.Title,a0.Fold])),(4,.d (di x))],[]⟩) hy1 (weak_cov ⟨rfl,rfl,rfl,trivial⟩ trivial) ?_
 rintro v4 sy1 hsy1
 replace hsy1:ref37_Check_L0 a0 v4=some sy1:=hsy1
 unfold ref37_Check_L0 at hsy1
 refine avc_sq2<|avc_sq2<|avc_sq ?_
 refine sqa (a_move_d (lq rfl) rfl) ?_
 refine sqa (a_move_d (lq rfl) rfl) ?_
 refine sqa (m_len (en:=(eL eMapping)) (l:=[a0.Lower,a0.Upper,a0.Title,a0.Fold]) (lq rfl) S153 rfl) ?_
 refine sqa (a_lss (lq rfl) rfl rfl) ?_
 refine sq_nil ?_
 refine ifM rfl hsy1 (fun _ hsy1=>?_) (fun _ hsy1=>?_)
 refine avc_skip<|avc_sq2<|avc_block<|avc_sq2<|avc_sq ?_
 refine sqa (a_move_d (lq rfl) rfl) ?_
 refine sqa (a_move_d (lq rfl) rfl) ?_
 obtain ⟨t23,ht23,hsy1⟩:=bE hsy1
 refine sqa (m_index (en:=(eL eMapping)) (lq rfl) S153 rfl rfl ht23) ?_
 refine sqa (m_loadE (en:=(eL eMapping)) (l:=[a0.Lower,a0.Upper,a0.Title,a0.Fold]) (i:=v4) (v:=t23) (off:=0) (lq rfl) O23 rfl ht23 rfl) ?_
 obtain ⟨t25,ht25,hsy1⟩:=bE hsy1
 refine sqa (a_call (lq rfl) rfl (ref11_Check_c ht25)) ?_
 refine sqa (a_assign_d (lq rfl) rfl) ?_
 refine sq_nil<|avc_sq2<|avc_sq ?_
 refine sqa (a_move_d (lq rfl) rfl) ?_
 refine sqa (a_neq (lq rfl) rfl rfl) ?_
 refine sq_nil ?_
 refine ifM rfl hsy1 (fun _ hsy1=>?_) (fun _ hsy1=>?_)
 refine avc_sq2<|avc_sq ?_
 refine sqa (a_move_d (lq rfl) rfl) ?_
 refine sqa (a_assign_d (lq rfl) rfl) ?_
 refine sq_nil ?_
 refine avc_ret ?_
 cases hsy1
 intro q;cases q
 exact ⟨rfl,weak_cov ⟨rfl,trivial⟩ trivial⟩
 refine avc_skip<|avc_sq ?_
 refine sqa (a_move_d (lq rfl) rfl) ?_
 refine sqa (m_add (lq rfl) rfl rfl) ?_
 refine sqa (a_assign_d (lq rfl) rfl) ?_
 refine sq_nil ?_
 cases hsy1
 exact weak_cov ⟨rfl,rfl,rfl,trivial⟩ trivial
 refine avc_exit ?_
 cases hsy1
 intro q;cases q
 exact ⟨rfl,weak_cov ⟨rfl,trivial⟩ trivial⟩
 rintro y1 rfl
 replace h:=eL h
 refine avc_sq2<|avc_sq2<|avc_sq ?_
 refine sqa (m_fieldPt (lq rfl) L45_0 rfl) ?_
 refine sqa (a_load_ip (lq rfl) O23 rfl rfl) ?_
 obtain ⟨t31,ht31,h⟩:=bE h
 refine sqa (a_call (lq rfl) rfl (ref37_tagged_c ht31)) ?_
 obtain ⟨b32,hb32,h⟩:=bE h
 refine sqa ((a_move_d (lq rfl) rfl).bool (Option.some.inj hb32)) ?_
 refine sq_g (x:= .ip (eCase.cells a0) (0+1)) rfl rfl rfl (lq rfl) (lq rfl) rfl (fun hb=>by obtain rfl:=gF hb;exact m_fieldPt (lq rfl) L45_1 rfl) ?_
 refine sq_g (x:= .d (dsl eMapping a0.Upper)) rfl rfl rfl (lq rfl) (lq rfl) rfl (fun hb=>by obtain rfl:=gF hb;exact a_load_ip (lq rfl) O23 rfl rfl) ?_
 obtain ⟨t35,ht35,h⟩:=bE h
 refine sq_g (x:= .d (db t35)) rfl rfl rfl (lq rfl) (lq rfl) rfl (fun hb=>by obtain rfl:=gF hb;exact a_call (lq rfl) rfl (ref37_tagged_c ht35)) ?_
 refine sqa (a_pick_or (lq rfl) rfl rfl) ?_
 obtain ⟨b37,hb37,h⟩:=bE h
 refine sqa ((a_move_d (lq rfl) rfl).bool (Option.some.inj hb37)) ?_
 refine sq_g (x:= .ip (eCase.cells a0) (0+2)) rfl rfl rfl (lq rfl) (lq rfl) rfl (fun hb=>by obtain rfl:=gF hb;exact m_fieldPt (lq rfl) L45_2 rfl) ?_
 refine sq_g (x:= .d (dsl eMapping a0.Title)) rfl rfl rfl (lq rfl) (lq rfl) rfl (fun hb=>by obtain rfl:=gF hb;exact a_load_ip (lq rfl) O23 rfl rfl) ?_
 obtain ⟨t40,ht40,h⟩:=bE h
 refine sq_g (x:= .d (db t40)) rfl rfl rfl (lq rfl) (lq rfl) rfl (fun hb=>by obtain rfl:=gF hb;exact a_call (lq rfl) rfl (ref37_tagged_c ht40)) ?_
 refine sqa (a_pick_or (lq rfl) rfl rfl) ?_
 obtain ⟨b42,hb42,h⟩:=bE h
 refine sqa ((a_move_d (lq rfl) rfl).bool (Option.some.inj hb42)) ?_
 refine sq_g (x:= .ip (eCase.cells a0) (0+3)) rfl rfl rfl (lq rfl) (lq rfl) rfl (fun hb=>by obtain rfl:=gF hb;exact m_fieldPt (lq rfl) L45_3 rfl) ?_
 refine sq_g (x:= .d (dsl eMapping a0.Fold)) rfl rfl rfl (lq rfl) (lq rfl) rfl (fun hb=>by obtain rfl:=gF hb;exact a_load_ip (lq rfl) O23 rfl rfl) ?_
 obtain ⟨t45,ht45,h⟩:=bE h
 refine sq_g (x:= .d (db t45)) rfl rfl rfl (lq rfl) (lq rfl) rfl (fun hb=>by obtain rfl:=gF hb;exact a_call (lq rfl) rfl (ref37_tagged_c ht45)) ?_
 refine sqa (a_pick_or (lq rfl) rfl rfl) ?_
 refine sq_nil ?_
 refine ifM rfl h (fun _ h=>?_) (fun _ h=>?_)
 refine avc_sq2<|avc_sq ?_
 refine sqa (a_assign_d (lq rfl) rfl) ?_
 refine sq_nil ?_
 cases h
 refine avc_ret ?_
 exact ret_1 rfl
 refine avc_skip<|avc_sq2<|avc_sq2<|avc_sq ?_
 refine sqa (m_fieldPt (lq rfl) L45_4 rfl) ?_
 refine sqa (a_load_ipA (lq rfl) G26 rfl rfl rfl) ?_
 obtain ⟨t49,ht49,h⟩:=bE h
 refine sqa (a_call (lq rfl) rfl (ref02_Valid_c ht49)) ?_
 refine sqa (a_not (lq rfl) rfl) ?_
 obtain ⟨b51,hb51,h⟩:=bE h
 refine sqa ((a_move_d (lq rfl) rfl).bool (Option.some.inj hb51)) ?_
 refine sq_g (x:= .ip (eCase.cells a0) (0+5)) rfl rfl rfl (lq rfl) (lq rfl) rfl (fun hb=>by obtain rfl:=gF hb;exact m_fieldPt (lq rfl) L45_5 rfl) ?_
 refine sq_g (x:= .d (eSet.dv a0.Ignorable)) rfl rfl rfl (lq rfl) (lq rfl) rfl (fun hb=>by obtain rfl:=gF hb;exact a_load_ipA (lq rfl) G26 rfl rfl rfl) ?_
 obtain ⟨t54,ht54,h⟩:=bE h
 refine sq_g (x:= .d (db t54)) rfl rfl rfl (lq rfl) (lq rfl) rfl (fun hb=>by obtain rfl:=gF hb;exact a_call (lq rfl) rfl (ref02_Valid_c ht54)) ?_
 refine sq_g (x:= .d (db (!t54))) rfl rfl rfl (lq rfl) (lq rfl) rfl (fun hb=>by obtain rfl:=gF hb;exact a_not (lq rfl) rfl) ?_
 refine sqa (a_pick_or (lq rfl) rfl rfl) ?_
 refine sq_nil ?_
 refine ifM rfl h (fun _ h=>?_) (fun _ h=>?_)
 refine avc_sq2<|avc_sq ?_
 refine sqa (a_assign_d (lq rfl) rfl) ?_
 refine sq_nil ?_
 cases h
 refine avc_ret ?_
 exact ret_1 rfl
 refine avc_skip<|avc_sq2<|avc_sq ?_
 refine sqa (a_assign_d (lq rfl) rfl) ?_
 refine sq_nil ?_
 cases h
 refine avc_ret ?_
 exact ret_1 rfl
 rintro y1 rfl
 replace h:=eR h
 cases h
 exact ret_1 rfl
theorem ref38_Data_c {a0} {r} (h:ref38_Data a0=some r):Contract Tryz.prog 44 [(eCase.dv a0)] [(dsl eMapping r)]:=by
 refine contract_of Tryz.func44 (by kernel_rfl) rfl (lq rfl) (lq rfl) fun w0 I0 hI0 hG0=>?_
 unfold ref38_Data at h
 refine avc_sq2<|avc_sq ?_
 refine sqa (m_box (size:=6) (lq rfl) rfl rfl) ?_
 refine sqa (a_assign_d (lq rfl) rfl) ?_
 refine sq_nil<|avc_sq2<|avc_sq2<|avc_sq ?_
 refine sqa (m_loadPt (lq rfl) G45 rfl rfl) ?_
 obtain ⟨t4,ht4,h⟩:=bE h
 refine sqa (a_call (lq rfl) rfl (ref37_Check_c ht4)) ?_
 refine sqa (a_neq (lq rfl) rfl rfl) ?_
 refine sq_nil ?_
 refine ifM rfl h (fun _ h=>?_) (fun _ h=>?_)
 refine avc_sq2<|avc_sq ?_
 refine sqa (a_assign_d (lq rfl) rfl) ?_
 refine sq_nil ?_
 refine avc_weak (weak_nil_d (t:=2) eMapping.size (lq rfl) rfl) ?_
 cases h
 refine avc_ret ?_
 exact ret_1 rfl
 refine avc_skip<|avc_sq2<|avc_sq ?_
 refine sqa (m_fieldPt (lq rfl) L45_3 rfl) ?_
 refine sqa (a_load_ip (lq rfl) O23 rfl rfl) ?_
 refine sqa (a_assign_d (lq rfl) rfl) ?_
 refine sq_nil ?_
 cases h
 refine avc_ret ?_
 exact ret_1 rfl
theorem ref11_valid_c {a0} {r} (h:ref11_valid a0=some r):Contract Tryz.prog 80 [(dsl eMapping a0)] [(dsl eMapping r)]:=by
 refine contract_of Tryz.func80 (by kernel_rfl) rfl (lq rfl) (lq rfl) fun w0 I0 hI0 hG0=>?_
 unfold ref11_valid at h
 refine avc_sq2<|avc_sq ?_
 refine sqa (a_assign_d (lq rfl) rfl) ?_
 refine sq_nil<|avc_sq2<|avc_sq2<|avc_sq ?_
 refine sqa (a_move_d (lq rfl) rfl) ?_
 obtain ⟨t4,ht4,h⟩:=bE h
 refine sqa (a_call (lq rfl) rfl (ref11_Check_c ht4)) ?_
 refine sqa (a_neq (lq rfl) rfl rfl) ?_
 refine sq_nil ?_
 refine ifM rfl h (fun _ h=>?_) (fun _ h=>?_)
 refine avc_sq2<|avc_sq ?_
 refine sqa (a_assign_d (lq rfl) rfl) ?_
 refine sq_nil ?_
 refine avc_weak (weak_nil_d (t:=2) eMapping.size (lq rfl) rfl) ?_
 cases h
 refine avc_ret ?_
 exact ret_1 rfl
 refine avc_skip<|avc_sq2<|avc_sq ?_
 refine sqa (a_move_d (lq rfl) rfl) ?_
 refine sqa (a_assign_d (lq rfl) rfl) ?_
 refine sq_nil ?_
 cases h
 refine avc_ret ?_
 exact ret_1 rfl
theorem ref11_find_c {a0} {a1} {a2} {r} (h:ref11_find a0 a1 a2=some r):Contract Tryz.prog 81 [(dsl eMapping a0),(di a1),(ds a2)] [(dsl eI r.1),(db r.2)]:=by
 refine contract_of Tryz.func81 (by kernel_rfl) rfl (lq rfl) (lq rfl) fun w0 I0 hI0 hG0=>?_
 unfold ref11_find at h
 refine avc_sq2<|avc_sq ?_
 refine sqa (a_assign_d (lq rfl) rfl) ?_
 refine sqa (a_assign_d (lq rfl) rfl) ?_
 refine sq_nil<|avc_sq2<|avc_sq2<|avc_sq ?_
 refine sqa (a_assign_d (lq rfl) rfl) ?_
 refine sq_nil<|avc_block ?_
 obtain ⟨y1,hy1,h⟩:=bE h
 refine avc_tail2 y1 (.exit 0) (fun y1=>⟨[],[]⟩) .ret (fun y1=>⟨[(6,.row 31),(7,.d (db y1.1))],[(31,.row 3 eI.size false (eI.all y1.2))]⟩) ?_ ?_ ?_
 refine avc_loopM (fun x=>⟨[(0,.d (dsl eMapping a0)),(1,.d (di a1)),(2,.d (ds a2)),(8,.d (di x))],[]⟩) hy1 (weak_cov ⟨rfl,rfl,rfl,rfl,trivial⟩ trivial) ?_
 rintro v8 sy1 hsy1
 replace hsy1:ref11_find_L0 a0 a1 a2 v8=some sy1:=hsy1
 unfold ref11_find_L0 at hsy1
 refine avc_sq2<|avc_sq2<|avc_sq ?_
 refine sqa (a_move_d (lq rfl) rfl) ?_
 refine sqa (a_move_d (lq rfl) rfl) ?_
 refine sqa (m_len (en:=eMapping) (l:=a0) (lq rfl) S23 rfl) ?_
 refine sqa (a_lss (lq rfl) rfl rfl) ?_
 refine sq_nil ?_
 refine ifM rfl hsy1 (fun _ hsy1=>?_) (fun _ hsy1=>?_)
 refine avc_skip<|avc_sq2<|avc_block<|avc_sq2<|avc_sq ?_
 refine sqa (a_move_d (lq rfl) rfl) ?_
 refine sqa (a_move_d (lq rfl) rfl) ?_
 obtain ⟨t17,ht17,hsy1⟩:=bE hsy1
 refine sqa (m_index (en:=eMapping) (lq rfl) S23 rfl rfl ht17) ?_
 refine sqa (a_fieldAddr_ip (lq rfl) L72_0 rfl) ?_
 refine sqa (m_loadE (en:=eMapping) (l:=a0) (i:=v8) (v:=t17) (off:=0) (lq rfl) O3 rfl ht17 rfl) ?_
 refine sqa (a_move_d (lq rfl) rfl) ?_
 refine sqa (a_eql (lq rfl) rfl rfl) ?_
 obtain ⟨b22,hb22,hsy1⟩:=bE hsy1
 refine sqa ((a_move_d (lq rfl) rfl).bool (Option.some.inj hb22)) ?_
 refine sq_g (x:= .d (dsl eMapping a0)) rfl rfl rfl (lq rfl) (lq rfl) rfl (fun hb=>by obtain rfl:b22=true:=hb;exact a_move_d (lq rfl) rfl) ?_
 refine sq_g (x:= .d (di v8)) rfl rfl rfl (lq rfl) (lq rfl) rfl (fun hb=>by obtain rfl:b22=true:=hb;exact a_move_d (lq rfl) rfl) ?_
 obtain ⟨t25,ht25,hsy1⟩:=bE hsy1
 refine sq_g (x:= .ip (eMapping.all a0) (v8.toNat*eMapping.size)) rfl rfl rfl (lq rfl) (lq rfl) rfl (fun hb=>by obtain rfl:b22=true:=hb;exact m_index (en:=eMapping) (lq rfl) S23 rfl rfl ht25) ?_
 refine sq_g (x:= .ip (eMapping.all a0) (v8.toNat*eMapping.size+2)) rfl rfl rfl (lq rfl) (lq rfl) rfl (fun hb=>by obtain rfl:b22=true:=hb;exact a_fieldAddr_ip (lq rfl) L72_2 rfl) ?_
 refine sq_g (x:= .d (ds t25.Tag)) rfl rfl rfl (lq rfl) (lq rfl) rfl (fun hb=>by obtain rfl:b22=true:=hb;exact m_loadE (en:=eMapping) (l:=a0) (i:=v8) (v:=t25) (off:=2) (lq rfl) O9 rfl ht25 rfl) ?_
 refine sq_g (x:= .d (ds a2)) rfl rfl rfl (lq rfl) (lq rfl) rfl (fun hb=>by obtain rfl:b22=true:=hb;exact a_move_d (lq rfl) rfl) ?_
 refine sq_g (x:= .d (db (t25.Tag==a2))) rfl rfl rfl (lq rfl) (lq rfl) rfl (fun hb=>by obtain rfl:b22=true:=hb;exact m_seql (a:=t25.Tag) (b:=a2) (lq rfl) rfl rfl) ?_
 refine sqa (a_pick_and (lq rfl) rfl rfl) ?_
 refine sq_nil ?_
 refine ifM rfl hsy1 (fun _ hsy1=>?_) (fun _ hsy1=>?_)
 refine avc_sq2<|avc_sq ?_
 refine sq_b rfl (step_buildSlice (lq rfl) S37 rfl rfl rfl rfl (by decide) rfl) ?_
 refine sqa (a_move_d (lq rfl) rfl) ?_
 refine sqa (a_move_d (lq rfl) rfl) ?_
 obtain ⟨t34,ht34,hsy1⟩:=bE hsy1
 refine sqa (m_index (en:=eMapping) (lq rfl) S23 rfl rfl ht34) ?_
 refine sqa (a_fieldAddr_ip (lq rfl) L72_1 rfl) ?_
 refine sqa (m_loadE (en:=eMapping) (l:=a0) (i:=v8) (v:=t34) (off:=1) (lq rfl) O37 rfl ht34 rfl) ?_
 obtain ⟨r31_2,hr31_2,hsy1⟩:=bE hsy1
 refine sq_b rfl (m_append (en:=eI) (l:=[]) (m:=t34.To) (lq rfl) S37 rfl rfl rfl hr31_2 (by decide) (by decide) rfl rfl) ?_
 refine sqa (a_assign_row (lq rfl) rfl) ?_
 refine sqa (a_assign_d (lq rfl) rfl) ?_
 refine sq_nil ?_
 refine avc_ret ?_
 cases hsy1
 intro q;cases q
 exact ⟨rfl,weak_cov ⟨rfl,rfl,trivial⟩ ⟨rfl,trivial⟩⟩
 refine avc_skip<|avc_sq ?_
 refine sqa (a_move_d (lq rfl) rfl) ?_
 refine sqa (m_add (lq rfl) rfl rfl) ?_
 refine sqa (a_assign_d (lq rfl) rfl) ?_
 refine sq_nil ?_
 cases hsy1
 exact weak_cov ⟨rfl,rfl,rfl,rfl,trivial⟩ trivial
 refine avc_exit ?_
 cases hsy1
 intro q;cases q
 exact ⟨rfl,weak_cov trivial trivial⟩
 rintro y1 rfl
 replace h:=eL h
 refine avc_sq2<|avc_sq ?_
 refine sqa (a_assign_d (lq rfl) rfl) ?_
 refine sqa (a_assign_d (lq rfl) rfl) ?_
 refine sq_nil ?_
 refine avc_weak (weak_nil (t:=6) 1006 3 eI.size (lq rfl) (lq rfl) rfl rfl) ?_
 cases h
 refine avc_ret ?_
 exact ret_two rfl rfl
 rintro y1 rfl
 replace h:=eR h
 cases h
 exact ret_two rfl rfl
theorem ref11_Apply_c {a0} {a1} {a2} {r} (h:ref11_Apply a0 a1 a2=some r):Contract Tryz.prog 43 [(dsl eMapping a0),(ds a1),(dsl eI a2)] [(dsl eI r)]:=by
 refine contract_of Tryz.func43 (by kernel_rfl) rfl (lq rfl) (lq rfl) fun w0 I0 hI0 hG0=>?_
 unfold ref11_Apply at h
 refine avc_sq2<|avc_sq ?_
 refine sqa (a_assign_d (lq rfl) rfl) ?_
 refine sq_nil<|avc_sq2<|avc_sq ?_
 refine sqa (a_move_d (lq rfl) rfl) ?_
 obtain ⟨t12,ht12,h⟩:=bE h
 refine sqa (a_call (lq rfl) rfl (ref11_valid_c ht12)) ?_
 refine sqa (a_assign_d (lq rfl) rfl) ?_
 refine sq_nil<|avc_sq2<|avc_sq ?_
 refine sqa (a_assign_d (lq rfl) rfl) ?_
 refine sq_nil ?_
 refine avc_weak (weak_nil (t:=7) 1007 3 eI.size (lq rfl) (lq rfl) rfl rfl) ?_
 refine avc_sq2<|avc_sq2<|avc_sq ?_
 refine sqa (a_assign_d (lq rfl) rfl) ?_
 refine sq_nil<|avc_block ?_
 obtain ⟨y1,hy1,h⟩:=bE h
 refine avc_tail (e:=(.exit 0)) (S2:=⟨[(7,.row 1007)],[(1007,.row 3 eI.size false (eI.all y1))]⟩) ?_ ?_
 refine avc_loopM (fun x=>⟨[(0,.d (dsl eMapping t12)),(1,.d (ds a1)),(2,.d (dsl eI a2)),(7,.row 1007),(8,.d (di x.1))],[(1007,.row 3 eI.size false (eI.all x.2))]⟩) hy1 (weak_cov ⟨rfl,rfl,rfl,rfl,rfl,trivial⟩ ⟨rfl,trivial⟩) ?_
 rintro ⟨v8,r1007⟩ sy1 hsy1
 replace hsy1:ref11_Apply_L0 a2 t12 a1 v8 r1007=some sy1:=hsy1
 unfold ref11_Apply_L0 at hsy1
 refine avc_sq2<|avc_sq2<|avc_sq ?_
 refine sqa (a_move_d (lq rfl) rfl) ?_
 refine sqa (a_move_d (lq rfl) rfl) ?_
 refine sqa (m_len (en:=eI) (l:=a2) (lq rfl) S37 rfl) ?_
 refine sqa (a_lss (lq rfl) rfl rfl) ?_
 refine sq_nil ?_
 refine ifM rfl hsy1 (fun _ hsy1=>?_) (fun _ hsy1=>?_)
 refine avc_skip<|avc_sq2 ?_
 obtain ⟨y2,hy2,hsy1⟩:=bE hsy1
 refine avc_tail (e:= .normal) (S2:=⟨[(0,.d (dsl eMapping t12)),(1,.d (ds a1)),(2,.d (dsl eI a2)),(7,.row 1007),(8,.d (di v8))],[(1007,.row 3 eI.size false (eI.all y2))]⟩) ?_ ?_
 refine avc_block<|avc_sq2<|avc_sq ?_
 refine sqa (a_move_d (lq rfl) rfl) ?_
 refine sqa (a_move_d (lq rfl) rfl) ?_
 refine sqa (a_move_d (lq rfl) rfl) ?_
 obtain ⟨t23,ht23,hy2⟩:=bE hy2
 refine sqa (m_index (en:=eI) (lq rfl) S37 rfl rfl ht23) ?_
 refine sqa (m_loadE (en:=eI) (l:=a2) (i:=v8) (v:=t23) (off:=0) (lq rfl) O3 rfl ht23 rfl) ?_
 refine sqa (a_move_d (lq rfl) rfl) ?_
 obtain ⟨t26,ht26,hy2⟩:=bE hy2
 refine sqa (a_call (lq rfl) rfl (ref11_find_c ht26)) ?_
 refine sqa (a_move_tup (lq rfl) rfl) ?_
 refine sqa (a_extract (lq rfl) rfl rfl) ?_
 refine sqa (a_extract (lq rfl) rfl rfl) ?_
 refine sqa (a_assign_d (lq rfl) rfl) ?_
 refine sqa (a_assign_d (lq rfl) rfl) ?_
 refine sq_nil<|avc_sq2<|avc_sq ?_
 refine sqa (a_move_d (lq rfl) rfl) ?_
 refine sq_nil ?_
 refine ifM rfl hy2 (fun _ hy2=>?_) (fun _ hy2=>?_)
 refine avc_sq ?_
 refine sqa (a_move_row (lq rfl) rfl) ?_
 refine sqa (a_move_d (lq rfl) rfl) ?_
 obtain ⟨r1007_3,hr1007_3,hy2⟩:=bE hy2
 refine sq_b rfl (m_append (en:=eI) (l:=r1007) (m:=t26.1) (lq rfl) S37 rfl rfl rfl hr1007_3 (by decide) (by decide) rfl rfl) ?_
 refine sqa (a_assign_row (lq rfl) rfl) ?_
 refine sq_nil ?_
 cases hy2
 exact out_mk (weak_cov ⟨rfl,rfl,rfl,rfl,rfl,trivial⟩ ⟨rfl,trivial⟩)
 refine avc_sq ?_
 refine sqa (a_move_row (lq rfl) rfl) ?_
 refine sqa (a_move_d (lq rfl) rfl) ?_
 refine sqa (a_move_d (lq rfl) rfl) ?_
 obtain ⟨t36,ht36,hy2⟩:=bE hy2
 refine sqa (m_index (en:=eI) (lq rfl) S37 rfl rfl ht36) ?_
 refine sqa (m_loadE (en:=eI) (l:=a2) (i:=v8) (v:=t36) (off:=0) (lq rfl) O3 rfl ht36 rfl) ?_
 refine sqa (a_lit (lq rfl) S37 rfl rfl rfl rfl (by decide) rfl) ?_
 obtain ⟨r1007_4,hr1007_4,hy2⟩:=bE hy2
 refine sq_b rfl (m_append (en:=eI) (l:=r1007) (m:=[t36]) (lq rfl) S37 rfl rfl rfl hr1007_4 (by decide) (by decide) rfl rfl) ?_
 refine sqa (a_assign_row (lq rfl) rfl) ?_
 refine sq_nil ?_
 cases hy2
 exact out_mk (weak_cov ⟨rfl,rfl,rfl,rfl,rfl,trivial⟩ ⟨rfl,trivial⟩)
 refine avc_sq ?_
 refine sqa (a_move_d (lq rfl) rfl) ?_
 refine sqa (m_add (lq rfl) rfl rfl) ?_
 refine sqa (a_assign_d (lq rfl) rfl) ?_
 refine sq_nil ?_
 cases hsy1
 exact weak_cov ⟨rfl,rfl,rfl,rfl,rfl,trivial⟩ ⟨rfl,trivial⟩
 refine avc_exit ?_
 cases hsy1
 intro q;cases q
 exact out_mk (weak_cov ⟨rfl,trivial⟩ ⟨rfl,trivial⟩)
 refine avc_sq2<|avc_sq ?_
 refine sqa (a_move_row (lq rfl) rfl) ?_
 refine sqa (a_assign_row (lq rfl) rfl) ?_
 refine sq_nil ?_
 cases h
 refine avc_ret ?_
 exact ret_1 rfl
theorem ref38_Fold_c {a0} {a1} {r} (h:ref38_Fold a0 a1=some r):Contract Tryz.prog 18 [(eCase.dv a0),(dsl eI a1)] [(dsl eI r)]:=by
 refine contract_of Tryz.func18 (by kernel_rfl) rfl (lq rfl) (lq rfl) fun w0 I0 hI0 hG0=>?_
 unfold ref38_Fold at h
 refine avc_sq2<|avc_sq ?_
 refine sqa (m_box (size:=6) (lq rfl) rfl rfl) ?_
 refine sqa (a_assign_d (lq rfl) rfl) ?_
 refine sq_nil<|avc_sq2<|avc_sq ?_
 refine sqa (m_loadPt (lq rfl) G45 rfl rfl) ?_
 obtain ⟨t6,ht6,h⟩:=bE h
 refine sqa (a_call (lq rfl) rfl (ref38_Data_c ht6)) ?_
 refine sqa (a_move_d (lq rfl) rfl) ?_
 obtain ⟨t8,ht8,h⟩:=bE h
 refine sqa (a_call (lq rfl) rfl (ref11_Apply_c ht8)) ?_
 refine sqa (a_assign_d (lq rfl) rfl) ?_
 refine sq_nil ?_
 cases h
 refine avc_ret ?_
 exact ret_1 rfl
set_option maxRecDepth 40000 in
theorem law38_CasefoldFolds_c {a0} {a1} {a2} {r} (h:law38_CasefoldFolds a0 a1 a2=some r):Contract Tryz.prog 4 [(eCase.dv a0),(dsl eI a1),(dsl eI a2)] [(db r)]:=by
 refine contract_of Tryz.func4 (by kernel_rfl) rfl (lq rfl) (lq rfl) fun w0 I0 hI0 hG0=>?_
 unfold law38_CasefoldFolds at h
 refine avc_sq2<|avc_sq ?_
 refine sqa (m_box (size:=6) (lq rfl) rfl rfl) ?_
 refine sqa (a_assign_d (lq rfl) rfl) ?_
 refine sq_nil<|avc_sq2<|avc_sq2<|avc_sq ?_
 refine sqa (m_loadPt (lq rfl) G45 rfl rfl) ?_
 refine sqa (a_move_d (lq rfl) rfl) ?_
 refine sqa (a_move_d (lq rfl) rfl) ?_
 obtain ⟨t14,ht14,h⟩:=bE h
 refine sqa (a_call (lq rfl) rfl (law38_few_c ht14)) ?_
 refine sqa (a_not (lq rfl) rfl) ?_
 refine sq_nil ?_
 refine ifM rfl h (fun _ h=>?_) (fun _ h=>?_)
 refine avc_sq2<|avc_sq ?_
 obtain ⟨t16,ht16,h⟩:=bE h
 refine sqa (a_call (lq rfl) rfl (law38_awake_c ht16)) ?_
 refine sqa (a_assign_d (lq rfl) rfl) ?_
 refine sq_nil ?_
 cases h
 refine avc_ret ?_
 exact ret_1 rfl
 refine avc_skip<|avc_sq2 ?_
 refine avc_drawA MX rfl ?_
 refine daa (m_loadPt (lq rfl) G45 rfl rfl) ?_
 refine daa (a_move_d (lq rfl) rfl) ?_
 obtain ⟨t19,ht19,h⟩:=bE h
 refine daa (a_call (lq rfl) rfl (casefold_Fold_c ht19)) ?_
 refine daa (m_loadPt (lq rfl) G45 rfl rfl) ?_
 refine daa (a_move_d (lq rfl) rfl) ?_
 obtain ⟨t22,ht22,h⟩:=bE h
 refine daa (a_call (lq rfl) rfl (casefold_Fold_c ht22)) ?_
 refine daa (a_assign_d (lq rfl) rfl) ?_
 refine daa (a_assign_d (lq rfl) rfl) ?_
 refine da_nil ?_
 refine avc_sq2<|avc_sq ?_
 refine sqa (a_assign_d (lq rfl) rfl) ?_
 refine sqa (a_assign_d (lq rfl) rfl) ?_
 refine sq_nil ?_
 refine avc_weak (weak_nil (t:=9) 1009 3 eI.size (lq rfl) (lq rfl) rfl rfl) ?_
 refine avc_weak (weak_nil (t:=10) 1010 3 eI.size (lq rfl) (lq rfl) rfl rfl) ?_
 refine avc_sq2<|avc_sq ?_
 refine sqa (a_move_row (lq rfl) rfl) ?_
 refine sqa (a_move_d (lq rfl) rfl) ?_
 obtain ⟨r1009_1,hr1009_1,h⟩:=bE h
 refine sq_b rfl (m_append (en:=eI) (l:=[]) (m:=a1) (lq rfl) S37 rfl rfl rfl hr1009_1 (by decide) (by decide) rfl rfl) ?_
 refine sqa (a_assign_row (lq rfl) rfl) ?_
 refine sq_nil<|avc_sq2<|avc_sq ?_
 refine sqa (a_move_row (lq rfl) rfl) ?_
 refine sqa (a_move_d (lq rfl) rfl) ?_
 obtain ⟨r1009_2,hr1009_2,h⟩:=bE h
 refine sq_b rfl (m_append (en:=eI) (l:=r1009_1) (m:=a2) (lq rfl) S37 rfl rfl rfl hr1009_2 (by decide) (by decide) rfl rfl) ?_
 refine sqa (a_assign_row (lq rfl) rfl) ?_
 refine sq_nil<|avc_sq2<|avc_sq ?_
 refine sqa (a_move_row (lq rfl) rfl) ?_
 refine sqa (a_move_d (lq rfl) rfl) ?_
 obtain ⟨r1010_3,hr1010_3,h⟩:=bE h
 refine sq_b rfl (m_append (en:=eI) (l:=[]) (m:=t19) (lq rfl) S37 rfl rfl rfl hr1010_3 (by decide) (by decide) rfl rfl) ?_
 refine sqa (a_assign_row (lq rfl) rfl) ?_
 refine sq_nil<|avc_sq2<|avc_sq ?_
 refine sqa (a_move_row (lq rfl) rfl) ?_
 refine sqa (a_move_d (lq rfl) rfl) ?_
 obtain ⟨r1010_4,hr1010_4,h⟩:=bE h
 refine sq_b rfl (m_append (en:=eI) (l:=r1010_3) (m:=t22) (lq rfl) S37 rfl rfl rfl hr1010_4 (by decide) (by decide) rfl rfl) ?_
 refine sqa (a_assign_row (lq rfl) rfl) ?_
 refine sq_nil<|avc_sq2 ?_
 refine avc_weak (weak_row_d (t:=9) (lq rfl) rfl rfl) ?_
 refine avc_weak (weak_row_d (t:=10) (lq rfl) rfl rfl) ?_
 refine avc_sq ?_
 refine sqa (a_move_d (lq rfl) rfl) ?_
 refine sqa (m_loadPt (lq rfl) G45 rfl rfl) ?_
 refine sqa (a_move_d (lq rfl) rfl) ?_
 obtain ⟨t38,ht38,h⟩:=bE h
 refine sqa (a_call (lq rfl) rfl (ref38_Fold_c ht38)) ?_
 obtain ⟨t39,ht39,h⟩:=bE h
 refine sqa (a_call (lq rfl) rfl (ref01_Equal_c ht39)) ?_
 obtain ⟨b40,hb40,h⟩:=bE h
 refine sqa ((a_move_d (lq rfl) rfl).bool (Option.some.inj hb40)) ?_
 refine sq_g (x:= .d (eCase.dv a0)) rfl rfl rfl (lq rfl) (lq rfl) rfl (fun hb=>by obtain rfl:b40=true:=hb;exact m_loadPt (lq rfl) G45 rfl rfl) ?_
 refine sq_g (x:= .d (dsl eI r1009_2)) rfl rfl rfl (lq rfl) (lq rfl) rfl (fun hb=>by obtain rfl:b40=true:=hb;exact a_move_d (lq rfl) rfl) ?_
 obtain ⟨t43,ht43,h⟩:=bE h
 refine sq_g (x:= .d (dsl eI t43)) rfl rfl rfl (lq rfl) (lq rfl) rfl (fun hb=>by obtain rfl:b40=true:=hb;exact a_call (lq rfl) rfl (casefold_Fold_c ht43)) ?_
 refine sq_g (x:= .d (dsl eI r1010_4)) rfl rfl rfl (lq rfl) (lq rfl) rfl (fun hb=>by obtain rfl:b40=true:=hb;exact a_move_d (lq rfl) rfl) ?_
 obtain ⟨t45,ht45,h⟩:=bE h
 refine sq_g (x:= .d (db t45)) rfl rfl rfl (lq rfl) (lq rfl) rfl (fun hb=>by obtain rfl:b40=true:=hb;exact a_call (lq rfl) rfl (ref01_Equal_c ht45)) ?_
 refine sqa (a_pick_and (lq rfl) rfl rfl) ?_
 obtain ⟨b47,hb47,h⟩:=bE h
 refine sqa ((a_move_d (lq rfl) rfl).bool (Option.some.inj hb47)) ?_
 obtain ⟨t48,ht48,h⟩:=bE h
 refine sq_g (x:= .d (db t48)) rfl rfl rfl (lq rfl) (lq rfl) rfl (fun hb=>by obtain rfl:b47=true:=hb;exact a_call (lq rfl) rfl (law38_awake_c ht48)) ?_
 refine sqa (a_pick_and (lq rfl) rfl rfl) ?_
 refine sqa (a_assign_d (lq rfl) rfl) ?_
 refine sq_nil ?_
 cases h
 refine avc_ret ?_
 exact ret_1 rfl
end Go.Proofs.YtlcjeomefjmhgaaGreatDoor.Walk


/- Each function of the program answers as its plain counterpart does, where that answers. Conditions: none. -/
import Derived.Test.YtlcjeomefjmhgaaGreatDoorMir
import Derived.Test.YtlcjeomefjmhgaaGreatDoorLa3
import Derived.Test.YtlcjeomefjmhgaaGreatDoorProg
import Derived.Test.YtlcjeomefjmhgaaGreatDoorSh1
import Derived.Shelf.Sort.Plain
import Derived.Shelf.Slices.In.SortNone
import Derived.Test.YtlcjeomefjmhgaaGreatDoorWk1
set_option linter.unusedSimpArgs false
set_option linter.unusedVariables false
set_option linter.unnecessarySimpa false
namespace Go.Proofs.YtlcjeomefjmhgaaGreatDoor.Walk
open Go.AV Go.M Go.RowKit Go.Proofs
theorem ref38_Orbit_c {a0} {a1} {r} (h:ref38_Orbit a0 a1=some r):Contract Tryz.prog 20 [(eCase.dv a0),(di a1)] [(dsl eI r)]:=by
 refine contract_of Tryz.func20 (by kernel_rfl) rfl (lq rfl) (lq rfl) fun w0 I0 hI0 hG0=>?_
 unfold ref38_Orbit at h
 refine avc_sq2<|avc_sq ?_
 refine sqa (m_box (size:=6) (lq rfl) rfl rfl) ?_
 refine sqa (a_assign_d (lq rfl) rfl) ?_
 refine sq_nil<|avc_sq2<|avc_sq2<|avc_sq ?_
 refine sqa (a_move_d (lq rfl) rfl) ?_
 obtain ⟨t15,ht15,h⟩:=bE h
 refine sqa (a_call (lq rfl) rfl (ref01_Valid_c ht15)) ?_
 refine sqa (a_not (lq rfl) rfl) ?_
 refine sq_nil ?_
 refine ifM rfl h (fun _ h=>?_) (fun _ h=>?_)
 refine avc_sq2<|avc_sq ?_
 refine sqa (a_assign_d (lq rfl) rfl) ?_
 refine sq_nil ?_
 refine avc_weak (weak_nil (t:=4) 1004 3 eI.size (lq rfl) (lq rfl) rfl rfl) ?_
 cases h
 refine avc_ret ?_
 exact ret_1 rfl
 refine avc_skip<|avc_sq2<|avc_sq ?_
 refine sqa (m_loadPt (lq rfl) G45 rfl rfl) ?_
 obtain ⟨t18,ht18,h⟩:=bE h
 refine sqa (a_call (lq rfl) rfl (ref38_Data_c ht18)) ?_
 refine sqa (a_assign_d (lq rfl) rfl) ?_
 refine sq_nil<|avc_sq2<|avc_sq ?_
 refine sqa (m_loadPt (lq rfl) G45 rfl rfl) ?_
 refine sqa (a_move_d (lq rfl) rfl) ?_
 refine sqa (a_lit (lq rfl) S37 rfl rfl rfl rfl (by decide) rfl) ?_
 obtain ⟨t22,ht22,h⟩:=bE h
 refine sqa (a_call (lq rfl) rfl (ref38_Fold_c ht22)) ?_
 refine sqa (a_assign_d (lq rfl) rfl) ?_
 refine sq_nil<|avc_sq2<|avc_sq ?_
 refine sqa (a_assign_d (lq rfl) rfl) ?_
 refine sq_nil ?_
 refine avc_weak (weak_nil (t:=7) 1007 3 eI.size (lq rfl) (lq rfl) rfl rfl) ?_
 refine avc_sq2<|avc_sq2<|avc_sq ?_
 refine sqa (a_assign_d (lq rfl) rfl) ?_
 refine sq_nil<|avc_block ?_
 obtain ⟨y1,hy1,h⟩:=bE h
 refine avc_tail (e:=(.exit 0)) (S2:=⟨[(1,.d (di a1)),(2,.d (.pt (eCase.cells a0))),(6,.d (dsl eI t22)),(7,.row 1007)],[(1007,.row 3 eI.size false (eI.all y1))]⟩) ?_ ?_
 refine avc_loopM (fun x=>⟨[(1,.d (di a1)),(2,.d (.pt (eCase.cells a0))),(5,.d (dsl eMapping t18)),(6,.d (dsl eI t22)),(7,.row 1007),(8,.d (di x.1))],[(1007,.row 3 eI.size false (eI.all x.2))]⟩) hy1 (weak_cov ⟨rfl,rfl,rfl,rfl,rfl,rfl,trivial⟩ ⟨rfl,trivial⟩) ?_
 rintro ⟨v8,r1007⟩ sy1 hsy1
 replace hsy1:ref38_Orbit_L0 t18 v8 r1007=some sy1:=hsy1
 unfold ref38_Orbit_L0 at hsy1
 refine avc_sq2<|avc_sq2<|avc_sq ?_
 refine sqa (a_move_d (lq rfl) rfl) ?_
 refine sqa (a_move_d (lq rfl) rfl) ?_
 refine sqa (m_len (en:=eMapping) (l:=t18) (lq rfl) S23 rfl) ?_
 refine sqa (a_lss (lq rfl) rfl rfl) ?_
 refine sq_nil ?_
 refine ifM rfl hsy1 (fun _ hsy1=>?_) (fun _ hsy1=>?_)
 refine avc_skip<|avc_sq2<|avc_block<|avc_sq ?_
 refine sqa (a_move_row (lq rfl) rfl) ?_
 refine sqa (a_move_d (lq rfl) rfl) ?_
 refine sqa (a_move_d (lq rfl) rfl) ?_
 obtain ⟨t32,ht32,hsy1⟩:=bE hsy1
 refine sqa (m_index (en:=eMapping) (lq rfl) S23 rfl rfl ht32) ?_
 refine sqa (a_fieldAddr_ip (lq rfl) L72_0 rfl) ?_
 refine sqa (m_loadE (en:=eMapping) (l:=t18) (i:=v8) (v:=t32) (off:=0) (lq rfl) O3 rfl ht32 rfl) ?_
 refine sqa (a_lit (lq rfl) S37 rfl rfl rfl rfl (by decide) rfl) ?_
 obtain ⟨r1007_2,hr1007_2,hsy1⟩:=bE hsy1
 refine sq_b rfl (m_append (en:=eI) (l:=r1007) (m:=[t32.From]) (lq rfl) S37 rfl rfl rfl hr1007_2 (by decide) (by decide) rfl rfl) ?_
 refine sqa (a_assign_row (lq rfl) rfl) ?_
 refine sq_nil<|avc_sq ?_
 refine sqa (a_move_d (lq rfl) rfl) ?_
 refine sqa (m_add (lq rfl) rfl rfl) ?_
 refine sqa (a_assign_d (lq rfl) rfl) ?_
 refine sq_nil ?_
 cases hsy1
 exact weak_cov ⟨rfl,rfl,rfl,rfl,rfl,rfl,trivial⟩ ⟨rfl,trivial⟩
 refine avc_exit ?_
 cases hsy1
 intro q;cases q
 exact out_mk (weak_cov ⟨rfl,rfl,rfl,rfl,trivial⟩ ⟨rfl,trivial⟩)
 refine avc_sq2<|avc_sq ?_
 refine sqa (a_move_row (lq rfl) rfl) ?_
 refine sqa (a_move_d (lq rfl) rfl) ?_
 obtain ⟨r1007_3,hr1007_3,h⟩:=bE h
 refine sq_b rfl (m_append (en:=eI) (l:=y1) (m:=t22) (lq rfl) S37 rfl rfl rfl hr1007_3 (by decide) (by decide) rfl rfl) ?_
 refine sqa (a_assign_row (lq rfl) rfl) ?_
 refine sq_nil<|avc_sq2<|avc_sq ?_
 refine sqa (a_move_row (lq rfl) rfl) ?_
 refine sqa (a_move_d (lq rfl) rfl) ?_
 refine sqa (a_lit (lq rfl) S37 rfl rfl rfl rfl (by decide) rfl) ?_
 obtain ⟨r1007_4,hr1007_4,h⟩:=bE h
 refine sq_b rfl (m_append (en:=eI) (l:=r1007_3) (m:=[a1]) (lq rfl) S37 rfl rfl rfl hr1007_4 (by decide) (by decide) rfl rfl) ?_
 refine sqa (a_assign_row (lq rfl) rfl) ?_
 refine sq_nil<|avc_sq2<|avc_sq ?_
 refine sqa (a_assign_d (lq rfl) rfl) ?_
 refine sq_nil ?_
 refine avc_weak (weak_nil_d (t:=9) eI.size (lq rfl) rfl) ?_
 refine avc_sq2<|avc_sq2<|avc_sq ?_
 refine sqa (a_assign_d (lq rfl) rfl) ?_
 refine sq_nil<|avc_block ?_
 obtain ⟨y5,hy5,h⟩:=bE h
 refine avc_tail (e:=(.exit 2)) (S2:=⟨[(9,.d (dsl eI y5))],[]⟩) ?_ ?_
 refine avc_loopM (fun x=>⟨[(2,.d (.pt (eCase.cells a0))),(6,.d (dsl eI t22)),(7,.row 1007),(9,.d (dsl eI x.1)),(10,.d (di x.2))],[(1007,.row 3 eI.size false (eI.all r1007_4))]⟩) hy5 (weak_cov ⟨rfl,rfl,rfl,rfl,rfl,trivial⟩ ⟨rfl,trivial⟩) ?_
 rintro ⟨v9,v10⟩ sy5 hsy5
 replace hsy5:ref38_Orbit_L1 r1007_4 a0 t22 v9 v10=some sy5:=hsy5
 unfold ref38_Orbit_L1 at hsy5
 refine avc_sq2<|avc_sq2<|avc_sq ?_
 refine sqa (a_move_d (lq rfl) rfl) ?_
 refine sqa (a_move_row (lq rfl) rfl) ?_
 refine sqa (m_lenR (en:=eI) (l:=r1007_4) (lq rfl) S37 rfl rfl) ?_
 refine sqa (a_lss (lq rfl) rfl rfl) ?_
 refine sq_nil ?_
 refine ifM rfl hsy5 (fun _ hsy5=>?_) (fun _ hsy5=>?_)
 refine avc_skip<|avc_sq2 ?_
 obtain ⟨y6,hy6,hsy5⟩:=bE hsy5
 refine avc_tail (e:= .normal) (S2:=⟨[(2,.d (.pt (eCase.cells a0))),(6,.d (dsl eI t22)),(7,.row 1007),(9,.d (dsl eI y6)),(10,.d (di v10))],[(1007,.row 3 eI.size false (eI.all r1007_4))]⟩) ?_ ?_
 refine avc_block<|avc_sq2<|avc_sq ?_
 refine sqa (a_move_row (lq rfl) rfl) ?_
 refine sqa (a_move_d (lq rfl) rfl) ?_
 obtain ⟨t52,ht52,hy6⟩:=bE hy6
 refine sqa (m_indexR (en:=eI) (l:=r1007_4) (lq rfl) S37 rfl rfl rfl ht52) ?_
 refine sqa (m_loadER (en:=eI) (l:=r1007_4) (i:=v10) (v:=t52) (off:=0) (lq rfl) O3 rfl rfl ht52 rfl) ?_
 refine sqa (a_assign_d (lq rfl) rfl) ?_
 refine sq_nil<|avc_sq2<|avc_sq2<|avc_sq ?_
 refine sqa (a_move_d (lq rfl) rfl) ?_
 obtain ⟨t55,ht55,hy6⟩:=bE hy6
 refine sqa (a_call (lq rfl) rfl (ref01_Valid_c ht55)) ?_
 refine sqa (a_not (lq rfl) rfl) ?_
 obtain ⟨b57,hb57,hy6⟩:=bE hy6
 refine sqa ((a_move_d (lq rfl) rfl).bool (Option.some.inj hb57)) ?_
 refine sq_g (x:= .d (eCase.dv a0)) rfl rfl rfl (lq rfl) (lq rfl) rfl (fun hb=>by obtain rfl:=gF hb;exact m_loadPt (lq rfl) G45 rfl rfl) ?_
 refine sq_g (x:= .d (di t52)) rfl rfl rfl (lq rfl) (lq rfl) rfl (fun hb=>by obtain rfl:=gF hb;exact a_move_d (lq rfl) rfl) ?_
 refine sq_g (x:= .d (dsl eI [t52])) rfl rfl rfl (lq rfl) (lq rfl) rfl (fun hb=>by obtain rfl:=gF hb;exact a_lit (lq rfl) S37 rfl rfl rfl rfl (by decide) rfl) ?_
 obtain ⟨t61,ht61,hy6⟩:=bE hy6
 refine sq_g (x:= .d (dsl eI t61)) rfl rfl rfl (lq rfl) (lq rfl) rfl (fun hb=>by obtain rfl:=gF hb;exact a_call (lq rfl) rfl (ref38_Fold_c ht61)) ?_
 refine sq_g (x:= .d (dsl eI t22)) rfl rfl rfl (lq rfl) (lq rfl) rfl (fun hb=>by obtain rfl:=gF hb;exact a_move_d (lq rfl) rfl) ?_
 obtain ⟨t63,ht63,hy6⟩:=bE hy6
 refine sq_g (x:= .d (db t63)) rfl rfl rfl (lq rfl) (lq rfl) rfl (fun hb=>by obtain rfl:=gF hb;exact a_call (lq rfl) rfl (ref01_Equal_c ht63)) ?_
 refine sq_g (x:= .d (db (!t63))) rfl rfl rfl (lq rfl) (lq rfl) rfl (fun hb=>by obtain rfl:=gF hb;exact a_not (lq rfl) rfl) ?_
 refine sqa (a_pick_or (lq rfl) rfl rfl) ?_
 refine sq_nil ?_
 refine ifM rfl hy6 (fun _ hy6=>?_) (fun _ hy6=>?_)
 refine avc_exit ?_
 cases hy6
 exact out_mk (weak_cov ⟨rfl,rfl,rfl,rfl,rfl,trivial⟩ ⟨rfl,trivial⟩)
 refine avc_skip<|avc_sq2<|avc_sq ?_
 refine sqa (a_assign_d (lq rfl) rfl) ?_
 refine sq_nil<|avc_sq2<|avc_block ?_
 obtain ⟨y7,hy7,hy6⟩:=bE hy6
 refine avc_tail (e:=(.exit 4)) (S2:=⟨[(2,.d (.pt (eCase.cells a0))),(6,.d (dsl eI t22)),(7,.row 1007),(9,.d (dsl eI v9)),(10,.d (di v10)),(11,.d (di t52)),(12,.d (di y7))],[(1007,.row 3 eI.size false (eI.all r1007_4))]⟩) ?_ ?_
 refine avc_loopM (fun x=>⟨[(2,.d (.pt (eCase.cells a0))),(6,.d (dsl eI t22)),(7,.row 1007),(9,.d (dsl eI v9)),(10,.d (di v10)),(11,.d (di t52)),(12,.d (di x))],[(1007,.row 3 eI.size false (eI.all r1007_4))]⟩) hy7 (weak_cov ⟨rfl,rfl,rfl,rfl,rfl,rfl,rfl,trivial⟩ ⟨rfl,trivial⟩) ?_
 rintro v12 sy7 hsy7
 replace hsy7:ref38_Orbit_L2 v9 t52 v12=some sy7:=hsy7
 unfold ref38_Orbit_L2 at hsy7
 refine avc_sq2<|avc_sq2<|avc_sq ?_
 refine sqa (a_move_d (lq rfl) rfl) ?_
 refine sqa (a_move_d (lq rfl) rfl) ?_
 refine sqa (m_len (en:=eI) (l:=v9) (lq rfl) S37 rfl) ?_
 refine sqa (a_lss (lq rfl) rfl rfl) ?_
 obtain ⟨b70,hb70,hsy7⟩:=bE hsy7
 refine sqa ((a_move_d (lq rfl) rfl).bool (Option.some.inj hb70)) ?_
 refine sq_g (x:= .d (dsl eI v9)) rfl rfl rfl (lq rfl) (lq rfl) rfl (fun hb=>by obtain rfl:b70=true:=hb;exact a_move_d (lq rfl) rfl) ?_
 refine sq_g (x:= .d (di v12)) rfl rfl rfl (lq rfl) (lq rfl) rfl (fun hb=>by obtain rfl:b70=true:=hb;exact a_move_d (lq rfl) rfl) ?_
 obtain ⟨t73,ht73,hsy7⟩:=bE hsy7
 refine sq_g (x:= .ip (eI.all v9) (v12.toNat*eI.size)) rfl rfl rfl (lq rfl) (lq rfl) rfl (fun hb=>by obtain rfl:b70=true:=hb;exact m_index (en:=eI) (lq rfl) S37 rfl rfl ht73) ?_
 refine sq_g (x:= .d (di t73)) rfl rfl rfl (lq rfl) (lq rfl) rfl (fun hb=>by obtain rfl:b70=true:=hb;exact m_loadE (en:=eI) (l:=v9) (i:=v12) (v:=t73) (off:=0) (lq rfl) O3 rfl ht73 rfl) ?_
 refine sq_g (x:= .d (di t52)) rfl rfl rfl (lq rfl) (lq rfl) rfl (fun hb=>by obtain rfl:b70=true:=hb;exact a_move_d (lq rfl) rfl) ?_
 refine sq_g (x:= .d (db (decide (t73 < t52)))) rfl rfl rfl (lq rfl) (lq rfl) rfl (fun hb=>by obtain rfl:b70=true:=hb;exact a_lss (lq rfl) rfl rfl) ?_
 refine sqa (a_pick_and (lq rfl) rfl rfl) ?_
 refine sq_nil ?_
 refine ifM rfl hsy7 (fun _ hsy7=>?_) (fun _ hsy7=>?_)
 refine avc_skip<|avc_block<|avc_sq ?_
 refine sqa (a_move_d (lq rfl) rfl) ?_
 refine sqa (m_add (lq rfl) rfl rfl) ?_
 refine sqa (a_assign_d (lq rfl) rfl) ?_
 refine sq_nil ?_
 cases hsy7
 exact weak_cov ⟨rfl,rfl,rfl,rfl,rfl,rfl,rfl,trivial⟩ ⟨rfl,trivial⟩
 refine avc_exit ?_
 cases hsy7
 intro q;cases q
 exact out_mk (weak_cov ⟨rfl,rfl,rfl,rfl,rfl,rfl,rfl,trivial⟩ ⟨rfl,trivial⟩)
 refine avc_sq2<|avc_sq2<|avc_sq ?_
 refine sqa (a_move_d (lq rfl) rfl) ?_
 refine sqa (a_move_d (lq rfl) rfl) ?_
 refine sqa (m_len (en:=eI) (l:=v9) (lq rfl) S37 rfl) ?_
 refine sqa (a_lss (lq rfl) rfl rfl) ?_
 obtain ⟨b84,hb84,hy6⟩:=bE hy6
 refine sqa ((a_move_d (lq rfl) rfl).bool (Option.some.inj hb84)) ?_
 refine sq_g (x:= .d (dsl eI v9)) rfl rfl rfl (lq rfl) (lq rfl) rfl (fun hb=>by obtain rfl:b84=true:=hb;exact a_move_d (lq rfl) rfl) ?_
 refine sq_g (x:= .d (di y7)) rfl rfl rfl (lq rfl) (lq rfl) rfl (fun hb=>by obtain rfl:b84=true:=hb;exact a_move_d (lq rfl) rfl) ?_
 obtain ⟨t87,ht87,hy6⟩:=bE hy6
 refine sq_g (x:= .ip (eI.all v9) (y7.toNat*eI.size)) rfl rfl rfl (lq rfl) (lq rfl) rfl (fun hb=>by obtain rfl:b84=true:=hb;exact m_index (en:=eI) (lq rfl) S37 rfl rfl ht87) ?_
 refine sq_g (x:= .d (di t87)) rfl rfl rfl (lq rfl) (lq rfl) rfl (fun hb=>by obtain rfl:b84=true:=hb;exact m_loadE (en:=eI) (l:=v9) (i:=y7) (v:=t87) (off:=0) (lq rfl) O3 rfl ht87 rfl) ?_
 refine sq_g (x:= .d (di t52)) rfl rfl rfl (lq rfl) (lq rfl) rfl (fun hb=>by obtain rfl:b84=true:=hb;exact a_move_d (lq rfl) rfl) ?_
 refine sq_g (x:= .d (db (decide (t87=t52)))) rfl rfl rfl (lq rfl) (lq rfl) rfl (fun hb=>by obtain rfl:b84=true:=hb;exact a_eql (lq rfl) rfl rfl) ?_
 refine sqa (a_pick_and (lq rfl) rfl rfl) ?_
 refine sq_nil ?_
 refine ifM rfl hy6 (fun _ hy6=>?_) (fun _ hy6=>?_)
 refine avc_exit ?_
 cases hy6
 exact out_mk (weak_cov ⟨rfl,rfl,rfl,rfl,rfl,trivial⟩ ⟨rfl,trivial⟩)
 refine avc_skip<|avc_sq2<|avc_sq ?_
 refine sqa (a_assign_d (lq rfl) rfl) ?_
 refine sq_nil ?_
 refine avc_weak (weak_nil (t:=13) 1013 3 eI.size (lq rfl) (lq rfl) rfl rfl) ?_
 refine avc_sq2<|avc_sq ?_
 refine sqa (a_move_row (lq rfl) rfl) ?_
 refine sqa (a_move_d (lq rfl) rfl) ?_
 refine sqa (a_move_d (lq rfl) rfl) ?_
 obtain ⟨t95,ht95,hy6⟩:=bE hy6
 refine sqa (m_sliceH (en:=eI) (lq rfl) S37 rfl rfl ht95) ?_
 obtain ⟨r1013_8,hr1013_8,hy6⟩:=bE hy6
 refine sq_b rfl (m_append (en:=eI) (l:=[]) (m:=t95) (lq rfl) S37 rfl rfl rfl hr1013_8 (by decide) (by decide) rfl rfl) ?_
 refine sqa (a_assign_row (lq rfl) rfl) ?_
 refine sq_nil<|avc_sq2<|avc_sq ?_
 refine sqa (a_move_row (lq rfl) rfl) ?_
 refine sqa (a_move_d (lq rfl) rfl) ?_
 refine sqa (a_lit (lq rfl) S37 rfl rfl rfl rfl (by decide) rfl) ?_
 obtain ⟨r1013_9,hr1013_9,hy6⟩:=bE hy6
 refine sq_b rfl (m_append (en:=eI) (l:=r1013_8) (m:=[t52]) (lq rfl) S37 rfl rfl rfl hr1013_9 (by decide) (by decide) rfl rfl) ?_
 refine sqa (a_assign_row (lq rfl) rfl) ?_
 refine sq_nil<|avc_sq2<|avc_sq ?_
 refine sqa (a_move_row (lq rfl) rfl) ?_
 refine sqa (a_move_d (lq rfl) rfl) ?_
 refine sqa (a_move_d (lq rfl) rfl) ?_
 obtain ⟨t104,ht104,hy6⟩:=bE hy6
 refine sqa (m_sliceL (en:=eI) (lq rfl) S37 rfl rfl ht104) ?_
 obtain ⟨r1013_10,hr1013_10,hy6⟩:=bE hy6
 refine sq_b rfl (m_append (en:=eI) (l:=r1013_9) (m:=t104) (lq rfl) S37 rfl rfl rfl hr1013_10 (by decide) (by decide) rfl rfl) ?_
 refine sqa (a_assign_row (lq rfl) rfl) ?_
 refine sq_nil<|avc_sq ?_
 refine sqa (a_move_row (lq rfl) rfl) ?_
 refine sq_weak (weak_row_d (t:=106) (lq rfl) rfl rfl) ?_ (by simp)
 refine sqa (a_assign_d (lq rfl) rfl) ?_
 refine sq_nil ?_
 cases hy6
 exact out_mk (weak_cov ⟨rfl,rfl,rfl,rfl,rfl,trivial⟩ ⟨rfl,trivial⟩)
 refine avc_sq ?_
 refine sqa (a_move_d (lq rfl) rfl) ?_
 refine sqa (m_add (lq rfl) rfl rfl) ?_
 refine sqa (a_assign_d (lq rfl) rfl) ?_
 refine sq_nil ?_
 cases hsy5
 exact weak_cov ⟨rfl,rfl,rfl,rfl,rfl,trivial⟩ ⟨rfl,trivial⟩
 refine avc_exit ?_
 cases hsy5
 intro q;cases q
 exact out_mk (weak_cov ⟨rfl,trivial⟩ trivial)
 refine avc_sq2<|avc_sq ?_
 refine sqa (a_move_d (lq rfl) rfl) ?_
 refine sqa (a_assign_d (lq rfl) rfl) ?_
 refine sq_nil ?_
 cases h
 refine avc_ret ?_
 exact ret_1 rfl
set_option maxRecDepth 40000 in
theorem law38_CasefoldOrbits_c {a0} {a1} {r} (h:law38_CasefoldOrbits a0 a1=some r):Contract Tryz.prog 5 [(eCase.dv a0),(di a1)] [(db r)]:=by
 refine contract_of Tryz.func5 (by kernel_rfl) rfl (lq rfl) (lq rfl) fun w0 I0 hI0 hG0=>?_
 unfold law38_CasefoldOrbits at h
 refine avc_sq2<|avc_sq ?_
 refine sqa (m_box (size:=6) (lq rfl) rfl rfl) ?_
 refine sqa (a_assign_d (lq rfl) rfl) ?_
 refine sq_nil<|avc_sq2<|avc_sq2<|avc_sq ?_
 refine sqa (m_loadPt (lq rfl) G45 rfl rfl) ?_
 obtain ⟨t9,ht9,h⟩:=bE h
 refine sqa (a_call (lq rfl) rfl (con_nil (law38_few_c ht9) (nlE (nlN (nlN nl0))))) ?_
 refine sqa (a_not (lq rfl) rfl) ?_
 refine sq_nil ?_
 refine ifM rfl h (fun _ h=>?_) (fun _ h=>?_)
 refine avc_sq2<|avc_sq ?_
 obtain ⟨t11,ht11,h⟩:=bE h
 refine sqa (a_call (lq rfl) rfl (law38_awake_c ht11)) ?_
 refine sqa (a_assign_d (lq rfl) rfl) ?_
 refine sq_nil ?_
 cases h
 refine avc_ret ?_
 exact ret_1 rfl
 refine avc_skip<|avc_sq2<|avc_sq ?_
 refine sqa (m_loadPt (lq rfl) G45 rfl rfl) ?_
 refine sqa (a_move_d (lq rfl) rfl) ?_
 obtain ⟨t14,ht14,h⟩:=bE h
 refine sqa (a_call (lq rfl) rfl (casefold_Orbit_c ht14)) ?_
 refine sqa (a_assign_d (lq rfl) rfl) ?_
 refine sq_nil<|avc_sq2<|avc_sq2<|avc_sq ?_
 refine sqa (a_move_d (lq rfl) rfl) ?_
 refine sqa (m_loadPt (lq rfl) G45 rfl rfl) ?_
 refine sqa (a_move_d (lq rfl) rfl) ?_
 obtain ⟨t18,ht18,h⟩:=bE h
 refine sqa (a_call (lq rfl) rfl (ref38_Orbit_c ht18)) ?_
 obtain ⟨t19,ht19,h⟩:=bE h
 refine sqa (a_call (lq rfl) rfl (ref01_Equal_c ht19)) ?_
 refine sqa (a_not (lq rfl) rfl) ?_
 refine sq_nil ?_
 refine ifM rfl h (fun _ h=>?_) (fun _ h=>?_)
 refine avc_sq2<|avc_sq ?_
 refine sqa (a_assign_d (lq rfl) rfl) ?_
 refine sq_nil ?_
 cases h
 refine avc_ret ?_
 exact ret_1 rfl
 refine avc_skip<|avc_sq2<|avc_sq ?_
 refine sqa (a_move_d (lq rfl) rfl) ?_
 obtain ⟨t22,ht22,h⟩:=bE h
 refine sqa (a_call (lq rfl) rfl (ref01_Valid_c ht22)) ?_
 refine sqa (a_not (lq rfl) rfl) ?_
 refine sqa (a_assign_d (lq rfl) rfl) ?_
 refine sq_nil<|avc_sq2<|avc_sq2<|avc_sq ?_
 refine sqa (a_assign_d (lq rfl) rfl) ?_
 refine sq_nil<|avc_block ?_
 obtain ⟨y1,hy1,h⟩:=bE h
 refine avc_tail2 y1 (.exit 0) (fun y1=>⟨[(6,.d (db y1))],[]⟩) .ret (fun y1=>⟨[(4,.d (db y1))],[]⟩) ?_ ?_ ?_
 refine avc_loopM (fun x=>⟨[(1,.d (di a1)),(2,.d (.pt (eCase.cells a0))),(5,.d (dsl eI t14)),(6,.d (db x.1)),(7,.d (di x.2))],[]⟩) hy1 (weak_cov ⟨rfl,rfl,rfl,rfl,rfl,trivial⟩ trivial) ?_
 rintro ⟨v6,v7⟩ sy1 hsy1
 replace hsy1:law38_CasefoldOrbits_L0 t14 a0 a1 v6 v7=some sy1:=hsy1
 unfold law38_CasefoldOrbits_L0 at hsy1
 refine avc_sq2<|avc_sq2<|avc_sq ?_
 refine sqa (a_move_d (lq rfl) rfl) ?_
 refine sqa (a_move_d (lq rfl) rfl) ?_
 refine sqa (m_len (en:=eI) (l:=t14) (lq rfl) S37 rfl) ?_
 refine sqa (a_lss (lq rfl) rfl rfl) ?_
 refine sq_nil ?_
 refine ifM rfl hsy1 (fun _ hsy1=>?_) (fun _ hsy1=>?_)
 refine avc_skip<|avc_sq2<|avc_block<|avc_sq2<|avc_sq ?_
 refine sqa (a_move_d (lq rfl) rfl) ?_
 obtain ⟨b31,hb31,hsy1⟩:=bE hsy1
 refine sqa ((a_move_d (lq rfl) rfl).bool (Option.some.inj hb31)) ?_
 refine sq_g (x:= .d (dsl eI t14)) rfl rfl rfl (lq rfl) (lq rfl) rfl (fun hb=>by obtain rfl:=gF hb;exact a_move_d (lq rfl) rfl) ?_
 refine sq_g (x:= .d (di v7)) rfl rfl rfl (lq rfl) (lq rfl) rfl (fun hb=>by obtain rfl:=gF hb;exact a_move_d (lq rfl) rfl) ?_
 obtain ⟨t34,ht34,hsy1⟩:=bE hsy1
 refine sq_g (x:= .ip (eI.all t14) (v7.toNat*eI.size)) rfl rfl rfl (lq rfl) (lq rfl) rfl (fun hb=>by obtain rfl:=gF hb;exact m_index (en:=eI) (lq rfl) S37 rfl rfl ht34) ?_
 refine sq_g (x:= .d (di t34)) rfl rfl rfl (lq rfl) (lq rfl) rfl (fun hb=>by obtain rfl:=gF hb;exact m_loadE (en:=eI) (l:=t14) (i:=v7) (v:=t34) (off:=0) (lq rfl) O3 rfl ht34 rfl) ?_
 refine sq_g (x:= .d (di a1)) rfl rfl rfl (lq rfl) (lq rfl) rfl (fun hb=>by obtain rfl:=gF hb;exact a_move_d (lq rfl) rfl) ?_
 refine sq_g (x:= .d (db (decide (t34=a1)))) rfl rfl rfl (lq rfl) (lq rfl) rfl (fun hb=>by obtain rfl:=gF hb;exact a_eql (lq rfl) rfl rfl) ?_
 refine sqa (a_pick_or (lq rfl) rfl rfl) ?_
 refine sqa (a_assign_d (lq rfl) rfl) ?_
 refine sq_nil<|avc_sq2 ?_
 refine avc_drawA MX rfl ?_
 refine daa (m_loadPt (lq rfl) G45 rfl rfl) ?_
 refine daa (a_move_d (lq rfl) rfl) ?_
 refine daa (a_move_d (lq rfl) rfl) ?_
 obtain ⟨t42,ht42,hsy1⟩:=bE hsy1
 refine daa (m_index (en:=eI) (lq rfl) S37 rfl rfl ht42) ?_
 refine daa (m_loadE (en:=eI) (l:=t14) (i:=v7) (v:=t42) (off:=0) (lq rfl) O3 rfl ht42 rfl) ?_
 obtain ⟨t44,ht44,hsy1⟩:=bE hsy1
 refine daa (a_call (lq rfl) rfl (casefold_Orbit_c ht44)) ?_
 refine daa (a_move_d (lq rfl) rfl) ?_
 obtain ⟨t46,ht46,hsy1⟩:=bE hsy1
 refine daa (a_call (lq rfl) rfl (ref01_Equal_c ht46)) ?_
 refine daa (a_not (lq rfl) rfl) ?_
 refine da_nil ?_
 refine ifM rfl hsy1 (fun _ hsy1=>?_) (fun _ hsy1=>?_)
 refine avc_sq2<|avc_sq ?_
 refine sqa (a_assign_d (lq rfl) rfl) ?_
 refine sq_nil ?_
 refine avc_ret ?_
 cases hsy1
 intro q;cases q
 exact ⟨rfl,weak_cov ⟨rfl,trivial⟩ trivial⟩
 refine avc_skip<|avc_sq ?_
 refine sqa (a_move_d (lq rfl) rfl) ?_
 refine sqa (m_add (lq rfl) rfl rfl) ?_
 refine sqa (a_assign_d (lq rfl) rfl) ?_
 refine sq_nil ?_
 cases hsy1
 exact weak_cov ⟨rfl,rfl,rfl,rfl,rfl,trivial⟩ trivial
 refine avc_exit ?_
 cases hsy1
 intro q;cases q
 exact ⟨rfl,weak_cov ⟨rfl,trivial⟩ trivial⟩
 rintro y1 rfl
 replace h:=eL h
 refine avc_sq2<|avc_sq ?_
 refine sqa (a_move_d (lq rfl) rfl) ?_
 obtain ⟨b49,hb49,h⟩:=bE h
 refine sqa ((a_move_d (lq rfl) rfl).bool (Option.some.inj hb49)) ?_
 obtain ⟨t50,ht50,h⟩:=bE h
 refine sq_g (x:= .d (db t50)) rfl rfl rfl (lq rfl) (lq rfl) rfl (fun hb=>by obtain rfl:b49=true:=hb;exact a_call (lq rfl) rfl (law38_awake_c ht50)) ?_
 refine sqa (a_pick_and (lq rfl) rfl rfl) ?_
 refine sqa (a_assign_d (lq rfl) rfl) ?_
 refine sq_nil ?_
 cases h
 refine avc_ret ?_
 exact ret_1 rfl
 rintro y1 rfl
 replace h:=eR h
 cases h
 exact ret_1 rfl
theorem ref11_Get_c {a0} {a1} {a2} {r} (h:ref11_Get a0 a1 a2=some r):Contract Tryz.prog 47 [(dsl eMapping a0),(di a1),(ds a2)] [(dsl eI r.1),(db r.2)]:=by
 refine contract_of Tryz.func47 (by kernel_rfl) rfl (lq rfl) (lq rfl) fun w0 I0 hI0 hG0=>?_
 unfold ref11_Get at h
 refine avc_sq2<|avc_sq ?_
 refine sqa (a_assign_d (lq rfl) rfl) ?_
 refine sqa (a_assign_d (lq rfl) rfl) ?_
 refine sq_nil<|avc_sq2<|avc_sq ?_
 refine sqa (a_move_d (lq rfl) rfl) ?_
 obtain ⟨t9,ht9,h⟩:=bE h
 refine sqa (a_call (lq rfl) rfl (ref11_valid_c ht9)) ?_
 refine sqa (a_move_d (lq rfl) rfl) ?_
 refine sqa (a_move_d (lq rfl) rfl) ?_
 obtain ⟨t12,ht12,h⟩:=bE h
 refine sqa (a_call (lq rfl) rfl (ref11_find_c ht12)) ?_
 refine sqa (a_extract (lq rfl) rfl rfl) ?_
 refine sqa (a_extract (lq rfl) rfl rfl) ?_
 refine sqa (a_assign_d (lq rfl) rfl) ?_
 refine sqa (a_assign_d (lq rfl) rfl) ?_
 refine sq_nil ?_
 cases h
 refine avc_ret ?_
 exact ret_two rfl rfl
theorem ref38_Closed_c {a0} {r} (h:ref38_Closed a0=some r):Contract Tryz.prog 23 [(eCase.dv a0)] [(db r)]:=by
 refine contract_of Tryz.func23 (by kernel_rfl) rfl (lq rfl) (lq rfl) fun w0 I0 hI0 hG0=>?_
 unfold ref38_Closed at h
 refine avc_sq2<|avc_sq ?_
 refine sqa (m_box (size:=6) (lq rfl) rfl rfl) ?_
 refine sqa (a_assign_d (lq rfl) rfl) ?_
 refine sq_nil<|avc_sq2<|avc_sq ?_
 refine sqa (m_loadPt (lq rfl) G45 rfl rfl) ?_
 obtain ⟨t9,ht9,h⟩:=bE h
 refine sqa (a_call (lq rfl) rfl (ref38_Data_c ht9)) ?_
 refine sqa (a_assign_d (lq rfl) rfl) ?_
 refine sq_nil<|avc_sq2<|avc_sq2<|avc_sq ?_
 refine sqa (a_assign_d (lq rfl) rfl) ?_
 refine sq_nil<|avc_block ?_
 obtain ⟨y1,hy1,h⟩:=bE h
 refine avc_tail2 y1 (.exit 0) (fun y1=>⟨[],[]⟩) .ret (fun y1=>⟨[(2,.d (db y1))],[]⟩) ?_ ?_ ?_
 refine avc_loopM (fun x=>⟨[(3,.d (dsl eMapping t9)),(4,.d (di x))],[]⟩) hy1 (weak_cov ⟨rfl,rfl,trivial⟩ trivial) ?_
 rintro v4 sy1 hsy1
 replace hsy1:ref38_Closed_L0 t9 v4=some sy1:=hsy1
 unfold ref38_Closed_L0 at hsy1
 refine avc_sq2<|avc_sq2<|avc_sq ?_
 refine sqa (a_move_d (lq rfl) rfl) ?_
 refine sqa (a_move_d (lq rfl) rfl) ?_
 refine sqa (m_len (en:=eMapping) (l:=t9) (lq rfl) S23 rfl) ?_
 refine sqa (a_lss (lq rfl) rfl rfl) ?_
 refine sq_nil ?_
 refine ifM rfl hsy1 (fun _ hsy1=>?_) (fun _ hsy1=>?_)
 refine avc_skip<|avc_sq2<|avc_block<|avc_sq2<|avc_sq ?_
 refine sqa (a_assign_d (lq rfl) rfl) ?_
 refine sq_nil<|avc_block ?_
 obtain ⟨y2,hy2,hsy1⟩:=bE hsy1
 refine avc_tail2 y2 (.exit 2) (fun y2=>⟨[(3,.d (dsl eMapping t9)),(4,.d (di v4))],[]⟩) .ret (fun y2=>⟨[(2,.d (db y2))],[]⟩) ?_ ?_ ?_
 refine avc_loopM (fun x=>⟨[(3,.d (dsl eMapping t9)),(4,.d (di v4)),(5,.d (di x))],[]⟩) hy2 (weak_cov ⟨rfl,rfl,rfl,trivial⟩ trivial) ?_
 rintro v5 sy2 hsy2
 replace hsy2:ref38_Closed_L1 t9 v4 v5=some sy2:=hsy2
 unfold ref38_Closed_L1 at hsy2
 refine avc_sq2<|avc_sq2<|avc_sq ?_
 refine sqa (a_move_d (lq rfl) rfl) ?_
 refine sqa (a_move_d (lq rfl) rfl) ?_
 obtain ⟨t18,ht18,hsy2⟩:=bE hsy2
 refine sqa (m_index (en:=eMapping) (lq rfl) S23 rfl rfl ht18) ?_
 refine sqa (a_fieldAddr_ip (lq rfl) L72_2 rfl) ?_
 refine sqa (m_loadE (en:=eMapping) (l:=t9) (i:=v4) (v:=t18) (off:=2) (lq rfl) O9 rfl ht18 rfl) ?_
 refine sqa (m_seql (a:=t18.Tag) (b:=[]) (lq rfl) rfl rfl) ?_
 obtain ⟨b22,hb22,hsy2⟩:=bE hsy2
 refine sqa ((a_move_d (lq rfl) rfl).bool (Option.some.inj hb22)) ?_
 refine sq_g (x:= .d (di v5)) rfl rfl rfl (lq rfl) (lq rfl) rfl (fun hb=>by obtain rfl:b22=true:=hb;exact a_move_d (lq rfl) rfl) ?_
 refine sq_g (x:= .d (dsl eMapping t9)) rfl rfl rfl (lq rfl) (lq rfl) rfl (fun hb=>by obtain rfl:b22=true:=hb;exact a_move_d (lq rfl) rfl) ?_
 refine sq_g (x:= .d (di v4)) rfl rfl rfl (lq rfl) (lq rfl) rfl (fun hb=>by obtain rfl:b22=true:=hb;exact a_move_d (lq rfl) rfl) ?_
 obtain ⟨t26,ht26,hsy2⟩:=bE hsy2
 refine sq_g (x:= .ip (eMapping.all t9) (v4.toNat*eMapping.size)) rfl rfl rfl (lq rfl) (lq rfl) rfl (fun hb=>by obtain rfl:b22=true:=hb;exact m_index (en:=eMapping) (lq rfl) S23 rfl rfl ht26) ?_
 refine sq_g (x:= .ip (eMapping.all t9) (v4.toNat*eMapping.size+1)) rfl rfl rfl (lq rfl) (lq rfl) rfl (fun hb=>by obtain rfl:b22=true:=hb;exact a_fieldAddr_ip (lq rfl) L72_1 rfl) ?_
 refine sq_g (x:= .d (dsl eI t26.To)) rfl rfl rfl (lq rfl) (lq rfl) rfl (fun hb=>by obtain rfl:b22=true:=hb;exact m_loadE (en:=eMapping) (l:=t9) (i:=v4) (v:=t26) (off:=1) (lq rfl) O37 rfl ht26 rfl) ?_
 refine sq_g (x:= .d (di (t26.To.length:Int))) rfl rfl rfl (lq rfl) (lq rfl) rfl (fun hb=>by obtain rfl:b22=true:=hb;exact m_len (en:=eI) (l:=t26.To) (lq rfl) S37 rfl) ?_
 refine sq_g (x:= .d (db (decide (v5 < (t26.To.length:Int))))) rfl rfl rfl (lq rfl) (lq rfl) rfl (fun hb=>by obtain rfl:b22=true:=hb;exact a_lss (lq rfl) rfl rfl) ?_
 refine sqa (a_pick_and (lq rfl) rfl rfl) ?_
 refine sq_nil ?_
 refine ifM rfl hsy2 (fun _ hsy2=>?_) (fun _ hsy2=>?_)
 refine avc_skip<|avc_sq2<|avc_block<|avc_sq2<|avc_sq ?_
 refine sqa (a_move_d (lq rfl) rfl) ?_
 refine sqa (a_move_d (lq rfl) rfl) ?_
 refine sqa (a_move_d (lq rfl) rfl) ?_
 obtain ⟨t38,ht38,hsy2⟩:=bE hsy2
 refine sqa (m_index (en:=eMapping) (lq rfl) S23 rfl rfl ht38) ?_
 refine sqa (a_fieldAddr_ip (lq rfl) L72_1 rfl) ?_
 refine sqa (m_loadE (en:=eMapping) (l:=t9) (i:=v4) (v:=t38) (off:=1) (lq rfl) O37 rfl ht38 rfl) ?_
 refine sqa (a_move_d (lq rfl) rfl) ?_
 obtain ⟨t42,ht42,hsy2⟩:=bE hsy2
 refine sqa (m_index (en:=eI) (lq rfl) S37 rfl rfl ht42) ?_
 refine sqa (m_loadE (en:=eI) (l:=t38.To) (i:=v5) (v:=t42) (off:=0) (lq rfl) O3 rfl ht42 rfl) ?_
 obtain ⟨t44,ht44,hsy2⟩:=bE hsy2
 refine sqa (a_call (lq rfl) rfl (ref11_Get_c ht44)) ?_
 refine sqa (a_move_tup (lq rfl) rfl) ?_
 refine sqa (a_extract (lq rfl) rfl rfl) ?_
 refine sqa (a_extract (lq rfl) rfl rfl) ?_
 refine sqa (a_assign_d (lq rfl) rfl) ?_
 refine sqa (a_assign_d (lq rfl) rfl) ?_
 refine sq_nil<|avc_sq2<|avc_sq ?_
 refine sqa (a_move_d (lq rfl) rfl) ?_
 refine sq_nil ?_
 refine ifM rfl hsy2 (fun _ hsy2=>?_) (fun _ hsy2=>?_)
 refine avc_sq2<|avc_sq ?_
 refine sqa (a_assign_d (lq rfl) rfl) ?_
 refine sq_nil ?_
 refine avc_ret ?_
 cases hsy2
 intro q;cases q
 exact ⟨rfl,weak_cov ⟨rfl,trivial⟩ trivial⟩
 refine avc_skip<|avc_sq ?_
 refine sqa (a_move_d (lq rfl) rfl) ?_
 refine sqa (m_add (lq rfl) rfl rfl) ?_
 refine sqa (a_assign_d (lq rfl) rfl) ?_
 refine sq_nil ?_
 cases hsy2
 exact weak_cov ⟨rfl,rfl,rfl,trivial⟩ trivial
 refine avc_exit ?_
 cases hsy2
 intro q;cases q
 exact ⟨rfl,weak_cov ⟨rfl,rfl,trivial⟩ trivial⟩
 rintro y2 rfl
 replace hsy1:=eL hsy1
 refine avc_sq ?_
 refine sqa (a_move_d (lq rfl) rfl) ?_
 refine sqa (m_add (lq rfl) rfl rfl) ?_
 refine sqa (a_assign_d (lq rfl) rfl) ?_
 refine sq_nil ?_
 cases hsy1
 exact weak_cov ⟨rfl,rfl,trivial⟩ trivial
 rintro y2 rfl
 replace hsy1:=eR hsy1
 cases hsy1
 intro q;cases q
 exact ⟨rfl,weak_cov ⟨rfl,trivial⟩ trivial⟩
 refine avc_exit ?_
 cases hsy1
 intro q;cases q
 exact ⟨rfl,weak_cov trivial trivial⟩
 rintro y1 rfl
 replace h:=eL h
 refine avc_sq2<|avc_sq ?_
 refine sqa (a_assign_d (lq rfl) rfl) ?_
 refine sq_nil ?_
 cases h
 refine avc_ret ?_
 exact ret_1 rfl
 rintro y1 rfl
 replace h:=eR h
 cases h
 exact ret_1 rfl
set_option maxRecDepth 40000 in
theorem law38_CasefoldClosed_c {a0} {a1} {r} (h:law38_CasefoldClosed a0 a1=some r):Contract Tryz.prog 6 [(eCase.dv a0),(dsl eI a1)] [(db r)]:=by
 refine contract_of Tryz.func6 (by kernel_rfl) rfl (lq rfl) (lq rfl) fun w0 I0 hI0 hG0=>?_
 unfold law38_CasefoldClosed at h
 refine avc_sq2<|avc_sq ?_
 refine sqa (m_box (size:=6) (lq rfl) rfl rfl) ?_
 refine sqa (a_assign_d (lq rfl) rfl) ?_
 refine sq_nil<|avc_sq2<|avc_sq2<|avc_sq ?_
 refine sqa (m_loadPt (lq rfl) G45 rfl rfl) ?_
 refine sqa (a_move_d (lq rfl) rfl) ?_
 obtain ⟨t9,ht9,h⟩:=bE h
 refine sqa (a_call (lq rfl) rfl (con_nil (law38_few_c ht9) (nlE (nlE (nlN nl0))))) ?_
 refine sqa (a_not (lq rfl) rfl) ?_
 refine sq_nil ?_
 refine ifM rfl h (fun _ h=>?_) (fun _ h=>?_)
 refine avc_sq2<|avc_sq ?_
 obtain ⟨t11,ht11,h⟩:=bE h
 refine sqa (a_call (lq rfl) rfl (law38_awake_c ht11)) ?_
 refine sqa (a_assign_d (lq rfl) rfl) ?_
 refine sq_nil ?_
 cases h
 refine avc_ret ?_
 exact ret_1 rfl
 refine avc_skip<|avc_sq2<|avc_sq ?_
 refine sqa (m_loadPt (lq rfl) G45 rfl rfl) ?_
 obtain ⟨t13,ht13,h⟩:=bE h
 refine sqa (a_call (lq rfl) rfl (casefold_Closed_c ht13)) ?_
 refine sqa (a_assign_d (lq rfl) rfl) ?_
 refine sq_nil<|avc_sq2<|avc_sq ?_
 refine sqa (m_loadPt (lq rfl) G45 rfl rfl) ?_
 refine sqa (a_move_d (lq rfl) rfl) ?_
 obtain ⟨t16,ht16,h⟩:=bE h
 refine sqa (a_call (lq rfl) rfl (casefold_Fold_c ht16)) ?_
 refine sqa (a_assign_d (lq rfl) rfl) ?_
 refine sq_nil<|avc_sq2<|avc_sq ?_
 refine sqa (a_move_d (lq rfl) rfl) ?_
 refine sqa (m_loadPt (lq rfl) G45 rfl rfl) ?_
 obtain ⟨t19,ht19,h⟩:=bE h
 refine sqa (a_call (lq rfl) rfl (ref38_Closed_c ht19)) ?_
 refine sqa (a_beql (lq rfl) Tryz.underlying4 rfl rfl) ?_
 obtain ⟨b21,hb21,h⟩:=bE h
 refine sqa ((a_move_d (lq rfl) rfl).bool (Option.some.inj hb21)) ?_
 refine sq_g (x:= .d (db t13)) rfl rfl rfl (lq rfl) (lq rfl) rfl (fun hb=>by obtain rfl:b21=true:=hb;exact a_move_d (lq rfl) rfl) ?_
 refine sq_g (x:= .d (db (!t13))) rfl rfl rfl (lq rfl) (lq rfl) rfl (fun hb=>by obtain rfl:b21=true:=hb;exact a_not (lq rfl) rfl) ?_
 obtain ⟨b24,hb24,h⟩:=bE h
 refine sq_g (x:= .d (db b24)) rfl rfl rfl (lq rfl) (lq rfl) rfl (fun hb=>by obtain rfl:b21=true:=hb;exact (a_move_d (lq rfl) rfl).bool (Option.some.inj hb24)) ?_
 refine sq_g2 (x:= .d (eCase.dv a0)) rfl rfl rfl (lq rfl) (lq rfl) rfl (fun hb=>by obtain ⟨hb,hb1⟩:=and_split hb;obtain rfl:b21=true:=hb;obtain rfl:=gF hb1;exact m_loadPt (lq rfl) G45 rfl rfl) ?_
 refine sq_g2 (x:= .d (dsl eI t16)) rfl rfl rfl (lq rfl) (lq rfl) rfl (fun hb=>by obtain ⟨hb,hb1⟩:=and_split hb;obtain rfl:b21=true:=hb;obtain rfl:=gF hb1;exact a_move_d (lq rfl) rfl) ?_
 obtain ⟨t27,ht27,h⟩:=bE h
 refine sq_g2 (x:= .d (dsl eI t27)) rfl rfl rfl (lq rfl) (lq rfl) rfl (fun hb=>by obtain ⟨hb,hb1⟩:=and_split hb;obtain rfl:b21=true:=hb;obtain rfl:=gF hb1;exact a_call (lq rfl) rfl (casefold_Fold_c ht27)) ?_
 refine sq_g2 (x:= .d (dsl eI t16)) rfl rfl rfl (lq rfl) (lq rfl) rfl (fun hb=>by obtain ⟨hb,hb1⟩:=and_split hb;obtain rfl:b21=true:=hb;obtain rfl:=gF hb1;exact a_move_d (lq rfl) rfl) ?_
 obtain ⟨t29,ht29,h⟩:=bE h
 refine sq_g2 (x:= .d (db t29)) rfl rfl rfl (lq rfl) (lq rfl) rfl (fun hb=>by obtain ⟨hb,hb1⟩:=and_split hb;obtain rfl:b21=true:=hb;obtain rfl:=gF hb1;exact a_call (lq rfl) rfl (ref01_Equal_c ht29)) ?_
 refine sq_g (x:= .d (db (b24 ||t29))) rfl rfl rfl (lq rfl) (lq rfl) rfl (fun hb=>by obtain rfl:b21=true:=hb;exact a_pick_or (lq rfl) rfl rfl) ?_
 refine sqa (a_pick_and (lq rfl) rfl rfl) ?_
 obtain ⟨b32,hb32,h⟩:=bE h
 refine sqa ((a_move_d (lq rfl) rfl).bool (Option.some.inj hb32)) ?_
 obtain ⟨t33,ht33,h⟩:=bE h
 refine sq_g (x:= .d (db t33)) rfl rfl rfl (lq rfl) (lq rfl) rfl (fun hb=>by obtain rfl:b32=true:=hb;exact a_call (lq rfl) rfl (law38_awake_c ht33)) ?_
 refine sqa (a_pick_and (lq rfl) rfl rfl) ?_
 refine sqa (a_assign_d (lq rfl) rfl) ?_
 refine sq_nil ?_
 cases h
 refine avc_ret ?_
 exact ret_1 rfl
set_option maxRecDepth 40000 in
theorem law38_CasefoldDivides_c {a0} {a1} {a2} {r} (h:law38_CasefoldDivides a0 a1 a2=some r):Contract Tryz.prog 7 [(eCase.dv a0),(di a1),(di a2)] [(db r)]:=by
 refine contract_of Tryz.func7 (by kernel_rfl) rfl (lq rfl) (lq rfl) fun w0 I0 hI0 hG0=>?_
 unfold law38_CasefoldDivides at h
 refine avc_sq2<|avc_sq ?_
 refine sqa (m_box (size:=6) (lq rfl) rfl rfl) ?_
 refine sqa (a_assign_d (lq rfl) rfl) ?_
 refine sq_nil<|avc_sq2<|avc_sq2<|avc_sq ?_
 refine sqa (m_loadPt (lq rfl) G45 rfl rfl) ?_
 obtain ⟨t13,ht13,h⟩:=bE h
 refine sqa (a_call (lq rfl) rfl (con_nil (law38_few_c ht13) (nlE (nlN (nlN nl0))))) ?_
 refine sqa (a_not (lq rfl) rfl) ?_
 obtain ⟨b15,hb15,h⟩:=bE h
 refine sqa ((a_move_d (lq rfl) rfl).bool (Option.some.inj hb15)) ?_
 refine sq_g (x:= .d (di a1)) rfl rfl rfl (lq rfl) (lq rfl) rfl (fun hb=>by obtain rfl:=gF hb;exact a_move_d (lq rfl) rfl) ?_
 obtain ⟨t17,ht17,h⟩:=bE h
 refine sq_g (x:= .d (db t17)) rfl rfl rfl (lq rfl) (lq rfl) rfl (fun hb=>by obtain rfl:=gF hb;exact a_call (lq rfl) rfl (ref01_Valid_c ht17)) ?_
 refine sq_g (x:= .d (db (!t17))) rfl rfl rfl (lq rfl) (lq rfl) rfl (fun hb=>by obtain rfl:=gF hb;exact a_not (lq rfl) rfl) ?_
 refine sqa (a_pick_or (lq rfl) rfl rfl) ?_
 obtain ⟨b20,hb20,h⟩:=bE h
 refine sqa ((a_move_d (lq rfl) rfl).bool (Option.some.inj hb20)) ?_
 refine sq_g (x:= .d (di a2)) rfl rfl rfl (lq rfl) (lq rfl) rfl (fun hb=>by obtain rfl:=gF hb;exact a_move_d (lq rfl) rfl) ?_
 obtain ⟨t22,ht22,h⟩:=bE h
 refine sq_g (x:= .d (db t22)) rfl rfl rfl (lq rfl) (lq rfl) rfl (fun hb=>by obtain rfl:=gF hb;exact a_call (lq rfl) rfl (ref01_Valid_c ht22)) ?_
 refine sq_g (x:= .d (db (!t22))) rfl rfl rfl (lq rfl) (lq rfl) rfl (fun hb=>by obtain rfl:=gF hb;exact a_not (lq rfl) rfl) ?_
 refine sqa (a_pick_or (lq rfl) rfl rfl) ?_
 refine sq_nil ?_
 refine ifM rfl h (fun _ h=>?_) (fun _ h=>?_)
 refine avc_sq2<|avc_sq ?_
 obtain ⟨t25,ht25,h⟩:=bE h
 refine sqa (a_call (lq rfl) rfl (law38_awake_c ht25)) ?_
 refine sqa (a_assign_d (lq rfl) rfl) ?_
 refine sq_nil ?_
 cases h
 refine avc_ret ?_
 exact ret_1 rfl
 refine avc_skip<|avc_sq2 ?_
 refine avc_drawA MX rfl ?_
 refine daa (m_loadPt (lq rfl) G45 rfl rfl) ?_
 refine daa (a_move_d (lq rfl) rfl) ?_
 obtain ⟨t28,ht28,h⟩:=bE h
 refine daa (a_call (lq rfl) rfl (casefold_Orbit_c ht28)) ?_
 refine daa (m_loadPt (lq rfl) G45 rfl rfl) ?_
 refine daa (a_move_d (lq rfl) rfl) ?_
 obtain ⟨t31,ht31,h⟩:=bE h
 refine daa (a_call (lq rfl) rfl (casefold_Orbit_c ht31)) ?_
 refine daa (a_assign_d (lq rfl) rfl) ?_
 refine daa (a_assign_d (lq rfl) rfl) ?_
 refine da_nil ?_
 refine avc_sq2<|avc_sq ?_
 refine sqa (a_move_d (lq rfl) rfl) ?_
 refine sqa (a_move_d (lq rfl) rfl) ?_
 obtain ⟨t34,ht34,h⟩:=bE h
 refine sqa (a_call (lq rfl) rfl (ref01_Equal_c ht34)) ?_
 refine sqa (a_assign_d (lq rfl) rfl) ?_
 refine sq_nil<|avc_sq2<|avc_sq2<|avc_sq ?_
 refine sqa (a_assign_d (lq rfl) rfl) ?_
 refine sq_nil<|avc_block ?_
 obtain ⟨y1,hy1,h⟩:=bE h
 refine avc_tail2 y1 (.exit 0) (fun y1=>⟨[(1,.d (di a1)),(2,.d (di a2)),(3,.d (.pt (eCase.cells a0))),(9,.d (db t34))],[]⟩) .ret (fun y1=>⟨[(6,.d (db y1))],[]⟩) ?_ ?_ ?_
 refine avc_loopM (fun x=>⟨[(1,.d (di a1)),(2,.d (di a2)),(3,.d (.pt (eCase.cells a0))),(7,.d (dsl eI t28)),(8,.d (dsl eI t31)),(9,.d (db t34)),(10,.d (di x))],[]⟩) hy1 (weak_cov ⟨rfl,rfl,rfl,rfl,rfl,rfl,rfl,trivial⟩ trivial) ?_
 rintro v10 sy1 hsy1
 replace hsy1:law38_CasefoldDivides_L0 t28 t31 t34 v10=some sy1:=hsy1
 unfold law38_CasefoldDivides_L0 at hsy1
 refine avc_sq2<|avc_sq2<|avc_sq ?_
 refine sqa (a_move_d (lq rfl) rfl) ?_
 refine sqa (a_move_d (lq rfl) rfl) ?_
 refine sqa (m_len (en:=eI) (l:=t28) (lq rfl) S37 rfl) ?_
 refine sqa (a_lss (lq rfl) rfl rfl) ?_
 refine sq_nil ?_
 refine ifM rfl hsy1 (fun _ hsy1=>?_) (fun _ hsy1=>?_)
 refine avc_skip<|avc_sq2<|avc_block<|avc_sq2<|avc_sq ?_
 refine sqa (a_assign_d (lq rfl) rfl) ?_
 refine sq_nil<|avc_block ?_
 obtain ⟨y2,hy2,hsy1⟩:=bE hsy1
 refine avc_tail2 y2 (.exit 2) (fun y2=>⟨[(1,.d (di a1)),(2,.d (di a2)),(3,.d (.pt (eCase.cells a0))),(7,.d (dsl eI t28)),(8,.d (dsl eI t31)),(9,.d (db t34)),(10,.d (di v10))],[]⟩) .ret (fun y2=>⟨[(6,.d (db y2))],[]⟩) ?_ ?_ ?_
 refine avc_loopM (fun x=>⟨[(1,.d (di a1)),(2,.d (di a2)),(3,.d (.pt (eCase.cells a0))),(7,.d (dsl eI t28)),(8,.d (dsl eI t31)),(9,.d (db t34)),(10,.d (di v10)),(11,.d (di x))],[]⟩) hy2 (weak_cov ⟨rfl,rfl,rfl,rfl,rfl,rfl,rfl,rfl,trivial⟩ trivial) ?_
 rintro v11 sy2 hsy2
 replace hsy2:law38_CasefoldDivides_L1 t31 t28 v10 t34 v11=some sy2:=hsy2
 unfold law38_CasefoldDivides_L1 at hsy2
 refine avc_sq2<|avc_sq2<|avc_sq ?_
 refine sqa (a_move_d (lq rfl) rfl) ?_
 refine sqa (a_move_d (lq rfl) rfl) ?_
 refine sqa (m_len (en:=eI) (l:=t31) (lq rfl) S37 rfl) ?_
 refine sqa (a_lss (lq rfl) rfl rfl) ?_
 refine sq_nil ?_
 refine ifM rfl hsy2 (fun _ hsy2=>?_) (fun _ hsy2=>?_)
 refine avc_skip<|avc_sq2<|avc_block<|avc_sq2 ?_
 refine avc_drawA MX rfl ?_
 refine daa (a_move_d (lq rfl) rfl) ?_
 refine daa (a_move_d (lq rfl) rfl) ?_
 obtain ⟨t49,ht49,hsy2⟩:=bE hsy2
 refine daa (m_index (en:=eI) (lq rfl) S37 rfl rfl ht49) ?_
 refine daa (m_loadE (en:=eI) (l:=t28) (i:=v10) (v:=t49) (off:=0) (lq rfl) O3 rfl ht49 rfl) ?_
 refine daa (a_move_d (lq rfl) rfl) ?_
 refine daa (a_move_d (lq rfl) rfl) ?_
 obtain ⟨t53,ht53,hsy2⟩:=bE hsy2
 refine daa (m_index (en:=eI) (lq rfl) S37 rfl rfl ht53) ?_
 refine daa (m_loadE (en:=eI) (l:=t31) (i:=v11) (v:=t53) (off:=0) (lq rfl) O3 rfl ht53 rfl) ?_
 refine daa (a_eql (lq rfl) rfl rfl) ?_
 obtain ⟨b56,hb56,hsy2⟩:=bE hsy2
 refine daa ((a_move_d (lq rfl) rfl).bool (Option.some.inj hb56)) ?_
 refine da_g (x:= .d (db t34)) rfl rfl rfl (lq rfl) (lq rfl) rfl (fun hb=>by obtain rfl:b56=true:=hb;exact a_move_d (lq rfl) rfl) ?_
 refine da_g (x:= .d (db (!t34))) rfl rfl rfl (lq rfl) (lq rfl) rfl (fun hb=>by obtain rfl:b56=true:=hb;exact a_not (lq rfl) rfl) ?_
 refine daa (a_pick_and (lq rfl) rfl rfl) ?_
 refine da_nil ?_
 refine ifM rfl hsy2 (fun _ hsy2=>?_) (fun _ hsy2=>?_)
 refine avc_sq2<|avc_sq ?_
 refine sqa (a_assign_d (lq rfl) rfl) ?_
 refine sq_nil ?_
 refine avc_ret ?_
 cases hsy2
 intro q;cases q
 exact ⟨rfl,weak_cov ⟨rfl,trivial⟩ trivial⟩
 refine avc_skip<|avc_sq ?_
 refine sqa (a_move_d (lq rfl) rfl) ?_
 refine sqa (m_add (lq rfl) rfl rfl) ?_
 refine sqa (a_assign_d (lq rfl) rfl) ?_
 refine sq_nil ?_
 cases hsy2
 exact weak_cov ⟨rfl,rfl,rfl,rfl,rfl,rfl,rfl,rfl,trivial⟩ trivial
 refine avc_exit ?_
 cases hsy2
 intro q;cases q
 exact ⟨rfl,weak_cov ⟨rfl,rfl,rfl,rfl,rfl,rfl,rfl,trivial⟩ trivial⟩
 rintro y2 rfl
 replace hsy1:=eL hsy1
 refine avc_sq ?_
 refine sqa (a_move_d (lq rfl) rfl) ?_
 refine sqa (m_add (lq rfl) rfl rfl) ?_
 refine sqa (a_assign_d (lq rfl) rfl) ?_
 refine sq_nil ?_
 cases hsy1
 exact weak_cov ⟨rfl,rfl,rfl,rfl,rfl,rfl,rfl,trivial⟩ trivial
 rintro y2 rfl
 replace hsy1:=eR hsy1
 cases hsy1
 intro q;cases q
 exact ⟨rfl,weak_cov ⟨rfl,trivial⟩ trivial⟩
 refine avc_exit ?_
 cases hsy1
 intro q;cases q
 exact ⟨rfl,weak_cov ⟨rfl,rfl,rfl,rfl,trivial⟩ trivial⟩
 rintro y1 rfl
 replace h:=eL h
 refine avc_sq2<|avc_sq ?_
 refine sqa (a_move_d (lq rfl) rfl) ?_
 refine sqa ((m_build (lq rfl) B28 rfl rfl).nils (bs:=eNorm.cells ({Classes:=[],Decomp:=[],Excluded:=(({Ranges:=[]}):Set)}:Norm)) (nlN (nlN (nlN nl0)))) ?_
 refine sqa (m_loadPt (lq rfl) G45 rfl rfl) ?_
 refine sqa (a_move_d (lq rfl) rfl) ?_
 refine sqa (a_lit (lq rfl) S37 rfl rfl rfl rfl (by decide) rfl) ?_
 refine sqa (a_move_d (lq rfl) rfl) ?_
 refine sqa (a_lit (lq rfl) S37 rfl rfl rfl rfl (by decide) rfl) ?_
 obtain ⟨t67,ht67,h⟩:=bE h
 refine sqa (a_call (lq rfl) rfl (casefold_Match_c ht67)) ?_
 refine sqa (a_beql (lq rfl) Tryz.underlying4 rfl rfl) ?_
 obtain ⟨b69,hb69,h⟩:=bE h
 refine sqa ((a_move_d (lq rfl) rfl).bool (Option.some.inj hb69)) ?_
 obtain ⟨t70,ht70,h⟩:=bE h
 refine sq_g (x:= .d (db t70)) rfl rfl rfl (lq rfl) (lq rfl) rfl (fun hb=>by obtain rfl:b69=true:=hb;exact a_call (lq rfl) rfl (law38_awake_c ht70)) ?_
 refine sqa (a_pick_and (lq rfl) rfl rfl) ?_
 refine sqa (a_assign_d (lq rfl) rfl) ?_
 refine sq_nil ?_
 cases h
 refine avc_ret ?_
 exact ret_1 rfl
 rintro y1 rfl
 replace h:=eR h
 cases h
 exact ret_1 rfl
end Go.Proofs.YtlcjeomefjmhgaaGreatDoor.Walk


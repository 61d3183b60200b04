/- Each function of the program answers as its plain counterpart does, where that answers. Conditions: none. -/
import Derived.Test.YtgeimamfoblkjaaGreatDoorMir
import Derived.Test.YtgeimamfoblkjaaGreatDoorLa3
import Derived.Test.YtgeimamfoblkjaaGreatDoorProg
import Derived.Maps.AppendAt
import Derived.Test.YtgeimamfoblkjaaGreatDoorSh1
import Derived.Shelf.Sort.Plain
import Derived.Shelf.Slices.In.SortNone
import Derived.Shelf.Strconv.AppendIntPublic10
import Derived.Lib.Slices
import Derived.Lib.Hide
import Derived.Laws.IdiomStrings
import Derived.Laws.BytesArg
import Derived.OwnWalk
import Derived.BigCall
import Derived.Test.YtgeimamfoblkjaaGreatDoorWk3
set_option linter.unusedSimpArgs false
set_option linter.unusedVariables false
set_option linter.unnecessarySimpa false
namespace Go.Proofs.YtgeimamfoblkjaaGreatDoor.Walk
open Go.AV Go.M Go.RowKit Go.Proofs
set_option maxRecDepth 40000 in
theorem law41_ConfusablePlain_c {a0} {a1} {a2} {r} (h:zAU a0 a1 a2=some r):zV Tryz.prog 9 [(eUnicodetextlaw41_Data.dv a0),(yH eI a1),(yH eI a2)] [(db r)]:=by
 refine zO Tryz.func9 (by kernel_rfl) rfl (lq rfl) (lq rfl) fun w0 I0 hI0 hG0=>?_;unfold zAU at h;refine zB<|zE ?_;refine zG (xH (size:=4) (lq rfl) rfl rfl) ?_;refine zG (zC (lq rfl) rfl) ?_;refine zD<|zB<|zB<|zE ?_;refine zG (yY (lq rfl) G30 rfl rfl) ?_;obtain⟨t9,ht9,h⟩:=bE h;refine zG (zU (lq rfl) rfl (zHD ht9)) ?_;refine zG (xP (lq rfl) rfl) ?_;obtain⟨b11,hb11,h⟩:=bE h;refine zG ((zA (lq rfl) rfl).bool (Option.some.inj hb11)) ?_;refine zQ (x:= .d (yH eI a1)) rfl rfl rfl (lq rfl) (lq rfl) rfl (fun hb=>by obtain rfl:=gF hb;exact zA (lq rfl) rfl) ?_
 refine zQ (x:= .d (di (a1.length:Int))) rfl rfl rfl (lq rfl) (lq rfl) rfl (fun hb=>by obtain rfl:=gF hb;exact yR (en:=eI) (l:=a1) (lq rfl) jO rfl) ?_
 refine zQ (x:= .d (db (decide (12<(a1.length:Int))))) rfl rfl rfl (lq rfl) (lq rfl) rfl (fun hb=>by obtain rfl:=gF hb;exact xY (lq rfl) rfl rfl) ?_
 refine zG (yO (lq rfl) rfl rfl) ?_;obtain⟨b16,hb16,h⟩:=bE h;refine zG ((zA (lq rfl) rfl).bool (Option.some.inj hb16)) ?_;refine zQ (x:= .d (yH eI a2)) rfl rfl rfl (lq rfl) (lq rfl) rfl (fun hb=>by obtain rfl:=gF hb;exact zA (lq rfl) rfl) ?_
 refine zQ (x:= .d (di (a2.length:Int))) rfl rfl rfl (lq rfl) (lq rfl) rfl (fun hb=>by obtain rfl:=gF hb;exact yR (en:=eI) (l:=a2) (lq rfl) jO rfl) ?_
 refine zQ (x:= .d (db (decide (12<(a2.length:Int))))) rfl rfl rfl (lq rfl) (lq rfl) rfl (fun hb=>by obtain rfl:=gF hb;exact xY (lq rfl) rfl rfl) ?_
 refine zG (yO (lq rfl) rfl rfl) ?_;obtain⟨b21,hb21,h⟩:=bE h;refine zG ((zA (lq rfl) rfl).bool (Option.some.inj hb21)) ?_;refine zQ (x:= .d (eUnicodetextlaw41_Data.dv a0)) rfl rfl rfl (lq rfl) (lq rfl) rfl (fun hb=>by obtain rfl:=gF hb;exact yY (lq rfl) G30 rfl rfl) ?_
 refine zQ (x:= .d (yH eI a1)) rfl rfl rfl (lq rfl) (lq rfl) rfl (fun hb=>by obtain rfl:=gF hb;exact zA (lq rfl) rfl) ?_
 refine zQ (x:= .d (yH eI a2)) rfl rfl rfl (lq rfl) (lq rfl) rfl (fun hb=>by obtain rfl:=gF hb;exact zA (lq rfl) rfl) ?_
 refine zQ (x:= .d (yH (eL eI) [a1,a2])) rfl rfl rfl (lq rfl) (lq rfl) rfl (fun hb=>by obtain rfl:=gF hb;exact uK (lq rfl) S47 rfl rfl rfl rfl (by decide) rfl) ?_
 obtain⟨t26,ht26,h⟩:=bE h;refine zQ (x:= .d (db t26)) rfl rfl rfl (lq rfl) (lq rfl) rfl (fun hb=>by obtain rfl:=gF hb;exact zU (lq rfl) rfl (zE3 ht26)) ?_
 refine zQ (x:= .d (db (!t26))) rfl rfl rfl (lq rfl) (lq rfl) rfl (fun hb=>by obtain rfl:=gF hb;exact xP (lq rfl) rfl) ?_
 refine zG (yO (lq rfl) rfl rfl) ?_;refine zD ?_;refine kV rfl h (fun _ h=>?_) (fun _ h=>?_);refine zB<|zE ?_;obtain⟨t29,ht29,h⟩:=bE h;refine zG (zU (lq rfl) rfl (u9 ht29)) ?_;refine zG (zC (lq rfl) rfl) ?_;refine zD ?_;cases h;refine zK ?_;exact z8 rfl;refine zI<|zB ?_;refine kG MX rfl ?_;refine yF (zL (lq rfl) zEF rfl) ?_;refine yF (j6 (lq rfl) G28 rfl rfl rfl) ?_;refine yF (zA (lq rfl) rfl) ?_;obtain⟨t33,ht33,h⟩:=bE h;refine yF (zU (lq rfl) rfl (zCC ht33)) ?_;refine yF (zL (lq rfl) zEF rfl) ?_;refine yF (j6 (lq rfl) G28 rfl rfl rfl) ?_;refine yF (zA (lq rfl) rfl) ?_;obtain⟨t37,ht37,h⟩:=bE h;refine yF (zU (lq rfl) rfl (zCC ht37)) ?_;obtain⟨t38,ht38,h⟩:=bE h;refine yF (zU (lq rfl) rfl (zDW ht38)) ?_;refine yF (zC (lq rfl) rfl) ?_;refine xB ?_;refine zB<|zB<|zE ?_;refine zG (zL (lq rfl) zEF rfl) ?_;refine zG (j6 (lq rfl) G28 rfl rfl rfl) ?_;refine zG (zA (lq rfl) rfl) ?_;refine zG (zA (lq rfl) rfl) ?_;obtain⟨t43,ht43,h⟩:=bE h;refine zG (zU (lq rfl) rfl (zWY (j7 ht43) (nlE (nlN (nlE (nlE nl0)))))) ?_;refine zG (zA (lq rfl) rfl) ?_;refine zG (z62 (lq rfl) Tryz.underlying4 rfl rfl) ?_;refine zD ?_;refine kV rfl h (fun _ h=>?_) (fun _ h=>?_);refine zB<|zE ?_;refine zG (zC (lq rfl) rfl) ?_;refine zD ?_;cases h;refine zK ?_;exact z8 rfl;refine zI<|zB<|zE ?_;refine zG (zL (lq rfl) zFX rfl) ?_;refine zG (zN (lq rfl) O23 rfl rfl) ?_;obtain⟨t48,ht48,h⟩:=bE h;refine zG (zU (lq rfl) rfl (zHO ht48)) ?_;refine zG (vM (lq rfl) rfl rfl) ?_;obtain⟨b50,hb50,h⟩:=bE h;refine zG ((zA (lq rfl) rfl).bool (Option.some.inj hb50)) ?_;refine zQ (x:= .ip (eUnicodetextlaw41_Data.cells a0) (0+0)) rfl rfl rfl (lq rfl) (lq rfl) rfl (fun hb=>by obtain rfl:=gF hb;exact zL (lq rfl) zEF rfl) ?_
 refine zQ (x:= .d (eNorm.dv a0.Norm)) rfl rfl rfl (lq rfl) (lq rfl) rfl (fun hb=>by obtain rfl:=gF hb;exact j6 (lq rfl) G28 rfl rfl rfl) ?_
 refine zQ (x:= .ip (eUnicodetextlaw41_Data.cells a0) (0+3)) rfl rfl rfl (lq rfl) (lq rfl) rfl (fun hb=>by obtain rfl:=gF hb;exact zL (lq rfl) zFX rfl) ?_
 refine zQ (x:= .d (yH eMapping a0.Map)) rfl rfl rfl (lq rfl) (lq rfl) rfl (fun hb=>by obtain rfl:=gF hb;exact zN (lq rfl) O23 rfl rfl) ?_
 refine zQ (x:= .d (yH eI a1)) rfl rfl rfl (lq rfl) (lq rfl) rfl (fun hb=>by obtain rfl:=gF hb;exact zA (lq rfl) rfl) ?_
 refine zQ (x:= .d (yH eI a2)) rfl rfl rfl (lq rfl) (lq rfl) rfl (fun hb=>by obtain rfl:=gF hb;exact zA (lq rfl) rfl) ?_
 obtain⟨t57,ht57,h⟩:=bE h;refine zQ (x:= .d (db t57)) rfl rfl rfl (lq rfl) (lq rfl) rfl (fun hb=>by obtain rfl:=gF hb;exact zU (lq rfl) rfl (j7 ht57)) ?_
 refine zQ (x:= .d (db t38)) rfl rfl rfl (lq rfl) (lq rfl) rfl (fun hb=>by obtain rfl:=gF hb;exact zA (lq rfl) rfl) ?_
 refine zQ (x:= .d (db (t57==t38))) rfl rfl rfl (lq rfl) (lq rfl) rfl (fun hb=>by obtain rfl:=gF hb;exact zVY (lq rfl) Tryz.underlying4 rfl rfl) ?_
 refine zG (yO (lq rfl) rfl rfl) ?_;obtain⟨b61,hb61,h⟩:=bE h;refine zG ((zA (lq rfl) rfl).bool (Option.some.inj hb61)) ?_;obtain⟨t62,ht62,h⟩:=bE h;refine zQ (x:= .d (db t62)) rfl rfl rfl (lq rfl) (lq rfl) rfl (fun hb=>by obtain rfl:b61=true:=hb;exact zU (lq rfl) rfl (u9 ht62)) ?_
 refine zG (zW (lq rfl) rfl rfl) ?_;refine zG (zC (lq rfl) rfl) ?_;refine zD ?_;cases h;refine zK ?_;exact z8 rfl
end Go.Proofs.YtgeimamfoblkjaaGreatDoor.Walk


/- What the plain counterparts answer. Conditions: none. -/
import Derived.Test.YtjnpmmedmedokaaGreatDoorPu2
set_option linter.unusedSimpArgs false
set_option linter.unusedVariables false
set_option linter.unnecessarySimpa false
namespace Go.M
open Go.AV
theorem ySL (v:Int) (f g:Bool) (e:aP):col 0 (tr1 v f e)=col 0 (tr1 v g e):=by unfold tr1 zMY;by_cases D:v=1;simp[D];by_cases k:e.aD=true\/e.aT≠0;simp[D,k];have H:e.aT=0:=Classical.byContradiction λh=>k (.inr h);have K:¬e.aD=true:=λh=>k (.inl h);cases f<;>cases g<;>simp[D,H,K,col]
theorem yBD (v:Int):∀(l:List aP) (f g:Bool),row 0 (trL v f l)=row 0 (trL v g l)
 | [],_,_=>rfl
 | e::l,f,g=>by
  show nz (col 0 (tr1 v f e))++row 0 (trL v (zMY f e) l)=nz (col 0 (tr1 v g e))++row 0 (trL v (zMY g e) l);rw[ySL v f g,yBD v l (zMY f e) (zMY g e)]
theorem z57 (v:Int):∀(a b:List aP) (f g:Bool),row 0 (trL v f (a++b))=row 0 (trL v f a)++row 0 (trL v g b)
 | [],b,f,g=>yBD v b f g
 | e::a,b,f,g=>by
  show nz (col 0 (tr1 v f e))++row 0 (trL v (zMY f e) (a++b))=(nz (col 0 (tr1 v f e))++row 0 (trL v (zMY f e) a))++row 0 (trL v g b);rw[z57 v a b (zMY f e) g,c9]
def r0 (o:Options) (l:List aP):List Int:=row 0 (trL (wH o).aD false l)
theorem z84 (o:Options) (a b:List aP):r0 o (a++b)=r0 o a++r0 o b:=z57 _ a b false false
theorem yI9 (o:Options) (l:List aP):(r0 o l).length<=l.length:=by have:=zVE 0 (trL (wH o).aD false l);rw[zSB] at this;exact this
theorem yJA (l:List aP) (o:Options):yD (wts l (wH o)) (0:Int)=some (r0 o l):=by have hb:=yIP (zQQ o);unfold wts;obtain⟨k,h⟩:∃k,(wH o).aJ.toNat=k+1:=⟨(wH o).aJ.toNat-1,by omega⟩;rw[h];rfl
def fL (o:Options) (all:List aP) (k:Nat):List Int:=(List.range (all.length+1)).map λi=>if i<=k then ((r0 o (all.take i)).length:Int) else 0
theorem yJB (o:Options) (all:List aP) (k:Nat):(fL o all k).length=all.length+1:=by simp[fL]
theorem z85 (o:Options) (all:List aP) {k i:Nat} (h:i<=all.length) (hi:i<=k):yD (fL o all k) (i:Int)=some ((r0 o (all.take i)).length:Int):=by
 rw[zU (by rw[yJB];omega)]
 simp[fL,hi]
theorem yQI (o:Options) (all:List aP) {k:Nat}:(fL o all k).set (k+1) ((r0 o (all.take (k+1))).length:Int)=fL o all (k+1):=by apply ia;simp[fL];intro i D H;rw[List.getElem_set];by_cases e:k+1=i;subst e;simp[fL];rw[dN e];simp only[fL,List.getElem_map,List.getElem_range];by_cases h:i<=k;rw[dG h,dG (by omega)];rw[dN h,dN (by omega)]
theorem yUP (o:Options) (all:List aP):List.replicate (all.length+1) (0:Int)=fL o all 0:=by
 apply ia;simp[fL];intro i k D;simp only[fL,List.getElem_map,List.getElem_range,List.getElem_replicate];split;rename_i h;have:i=0:=by omega
 subst this;rfl;rfl
theorem nf0 (o:Options) {all:List aP} (Z:all.length<=18000):∀(m k:Nat),k+m=all.length->
  zF (λ(x:Int×(List Int))=>vV all o x.1 x.2) ((k:Int),fL o all k)=some (fL o all all.length)
 | 0,k,h=>by
  have:k=all.length:=by omega
  subst this;exact zL (by simp only[vV,kH (dC _),cN])
 | m+1,k,h=>by
  have Y:k<all.length:=by omega
  have T:wi ((k:Int)+1)=((k+1:Nat):Int):=zJ (by omega);have hd:((all.take (k+1)).drop k).length<=18000:=by simp;omega
  have D:r0 o (all.take (k+1))=r0 o (all.take k)++r0 o ((all.take (k+1)).drop k):=by
   rw[<-z84];congr 1;have:=(ey k (all.take (k+1))).symm
   rwa [List.take_take,gX (by omega)] at this
  have K:wi (((r0 o (all.take k)).length:Int)+((r0 o ((all.take (k+1)).drop k)).length:Int))=((r0 o (all.take (k+1))).length:Int):=by
   have O:=yI9 o (all.take (k+1));rw[D] at O ⊢;rw[cX] at O ⊢;rw[dZ] at O;rw[xN (by omega) (by omega)];omega
  have H:(k+1)<(fL o all k).length:=by rw[yJB];omega
  rw[zM (x':=(((k+1:Nat):Int),fL o all (k+1))) (by
   simp only[vV,yS Y,cO,z85 o all (show k<=all.length by omega) (dC k),zA,T,zS7 (l:=all) (a:=k) (b:=k+1) (by omega) (by omega),zMZ (show ((all.take (k+1)).drop k).length<=4000000000 by omega),yJA,K,zIJ H,yQI,zU H])]
  exact nf0 o Z m (k+1) (by omega)
section
variable (n:Norm) (c:Collation) (t:List Int)
noncomputable def hdB (x:Int):Bool:=decide ((eLm n c (t.take x.toNat)).length<=(eLm n c t).length)&&decide (eLm n c (t.take x.toNat)=(eLm n c t).take (eLm n c (t.take x.toNat)).length)
noncomputable def tlB (x:Int):Bool:=decide ((eLm n c (t.drop x.toNat)).length<=(eLm n c t).length)&&decide (eLm n c (t.drop x.toNat)=(eLm n c t).drop ((eLm n c t).length-(eLm n c (t.drop x.toNat)).length))
noncomputable def hdV (x:Int):Int:=if hdB n c t x=true then ((eLm n c (t.take x.toNat)).length:Int) else -1
noncomputable def tlV (x:Int):Int:=if tlB n c t x=true then ((eLm n c (t.drop x.toNat)).length:Int) else -1
def z86 (m:List (Int×Int)) (b:Bool) (x v:Int):List (Int×Int):=cond b (vD (vD m x (-1)) x v) (vD m x (-1))
end
theorem z58 (m:List (Int×Int)) (b:Bool) (x v y:Int):mgetD (z86 m b x v) y 0=if y=x then (if b=true then v else -1) else mgetD m y 0:=by
 unfold z86;cases b with
 | true=>simp only[cO,zQJ];by_cases h:y=x<;>simp[h]
 | false=>simp only[cN,zQJ];by_cases h:y=x<;>simp[h]
section
variable {n:Norm} {c:Collation} (hn:NSm n) (hok:wO n) (hs:Sm c) (hg:∀g∈c.aF,g.bT.length<=MX)
include hn hok hs hg
theorem nf1 {t places:List Int} (D:t.length<=12) (ac:places.length<=1000) (hp:∀x∈places,0<=x/\x<=(t.length:Int)):∀(m k:Nat) (H T:List (Int×Int)),k+m=places.length->
  ∃O Y,zF (λ(x:Int×(List (Int×Int))×(List (Int×Int)))=>vW places t n c (eLm n c t) x.1 x.2.1 x.2.2) ((k:Int),H,T)=some (O,Y)/\
   ∀x,(mgetD O x 0=if x∈places.drop k then hdV n c t x else mgetD H x 0)/\(mgetD Y x 0=if x∈places.drop k then tlV n c t x else mgetD T x 0)
 | 0,k,H,T,h=>by
  have:k=places.length:=by omega
  subst this;refine⟨H,T,zL (by simp only[vW,kH (dC _),cN]),λx=>?_⟩;rw[gB];exact⟨by simp,by simp⟩
 | m+1,k,H,T,h=>by
  have hk:k<places.length:=by omega
  obtain⟨h0,h1⟩:=hp _ (eF hk);have lA:=zNI (c:=c) hs (tk0 hn hok D);have lh:=zNI (c:=c) hs (tk1 hn hok D places[k].toNat);have lt:=zNI (c:=c) hs (tk2 hn hok D places[k].toNat);have s1:slc t 0 places[k]=some (t.take places[k].toNat):=by unfold slc;rw[dG (by omega)];simp
  have s2:slc t places[k] (t.length:Int)=some (t.drop places[k].toNat):=by unfold slc;rw[dG (by omega)];simp
  have Z:wi ((k:Int)+1)=((k+1:Nat):Int):=zJ (by omega);obtain⟨O,Y,hl,hq⟩:=nf1 D ac hp m (k+1) (z86 H (hdB n c t places[k]) places[k] ((eLm n c (t.take places[k].toNat)).length:Int)) (z86 T (tlB n c t places[k]) places[k] ((eLm n c (t.drop places[k].toNat)).length:Int)) (by omega);refine⟨O,Y,?_,λx=>?_⟩
  ·rw[zM (x':=(((k+1:Nat):Int),z86 H (hdB n c t places[k]) places[k] ((eLm n c (t.take places[k].toNat)).length:Int),z86 T (tlB n c t places[k]) places[k] ((eLm n c (t.drop places[k].toNat)).length:Int)))]
   ·exact hl
   ·simp only[vW,yS hk,cO,zU hk,zA,s1,s2,z2E hn hok hs hg (tk1 hn hok D _),z2E hn hok hs hg (tk2 hn hok D _)]
    unfold hdB tlB z86;rw[zK];generalize eLm n c t=A at*;generalize eLm n c (t.take places[k].toNat)=U at*;generalize eLm n c (t.drop places[k].toNat)=V at*;by_cases K:U.length<=A.length<;>by_cases hv:V.length<=A.length
    all_goals
     have ad:decide ((U.length:Int)<=(A.length:Int))=decide (U.length<=A.length):=by congr 1;exact propext ⟨λh=>by omega,λh=>by omega⟩
     have ag:decide ((V.length:Int)<=(A.length:Int))=decide (V.length<=A.length):=by congr 1;exact propext ⟨λh=>by omega,λh=>by omega⟩
     rw[ad,ag]
    ·have hw:wi ((A.length:Int)-(V.length:Int))=((A.length-V.length:Nat):Int):=by rw[xN (by omega) (by omega)];omega
     simp only[K,hv,dA,xB,hw,zFI K,zIK (l:=A) (a:=A.length-V.length) (by omega),zA,zK,zTK (show U.length<=1000000000 by omega),zTK (show V.length<=1000000000 by omega),dK,Z];generalize decide (U=A.take U.length)=a;generalize decide (V=A.drop (A.length-V.length))=b;cases a<;>cases b<;>rfl
    ·simp only[K,hv,dA,dF,xB,vB,zFI K,zA,zK,zTK (show U.length<=1000000000 by omega),dK,dP,cN,Z]
     generalize decide (U=A.take U.length)=a;cases a<;>rfl
    ·have hw:wi ((A.length:Int)-(V.length:Int))=((A.length-V.length:Nat):Int):=by rw[xN (by omega) (by omega)];omega
     simp only[K,hv,dA,dF,xB,vB,hw,zIK (l:=A) (a:=A.length-V.length) (by omega),zA,zK,zTK (show V.length<=1000000000 by omega),dK,dP,cN,Z];generalize decide (V=A.drop (A.length-V.length))=b;cases b<;>rfl
    ·simp only[K,hv,dF,vB,zA,zK,dP,cN,Z]
  ·rw[(hq x).1,(hq x).2,cW hk,z58,z58]
   simp only[dM];by_cases hx:x=places[k]
   ·subst hx
    simp only[true_or,dH];exact⟨by split<;>rfl,by split<;>rfl⟩
   ·simp only[hx,false_or,cY]
    exact⟨trivial,trivial⟩
structure FOk (n:Norm) (c:Collation) (o:Options) (p t places:List Int) (F:bQ):Prop where
 no:F.norm=n
 co:F.b0=c
 op:F.cD=o
 te:F.text=t
 wa:F.wanted=wT n c o p
 el:F.bX=eLm n c t
 fi:F.b8=fL o (eLm n c t) (eLm n c t).length
 he:∀x∈places,mgetD F.cg x 0=hdV n c t x
 ta:∀x∈places,mgetD F.b6 x 0=tlV n c t x
theorem ySO (o:Options) {p t places:List Int} (h:TOk n p) (D:t.length<=12) (k:places.length<=1000) (hp:∀x∈places,0<=x/\x<=(t.length:Int)):
  ∃F,zCX n c o p t places=some (if zKH (wT n c o p)=true then some F else none)/\FOk n c o p t places F:=by
 have lp:=zNI (c:=c) hs h;have lA:=zNI (c:=c) hs (tk0 hn hok D);have l4:=zVH n c o p;obtain⟨H,T,Y,Z⟩:=nf1 hn hok hs hg D k hp places.length 0 [] [] (by omega);have O:=nf0 o lA (eLm n c t).length 0 (by omega);rw[show ((0:Nat):Int)=0 from rfl] at O Y;have hm:mkM (0:Int) (wi (((eLm n c t).length:Int)+1))=some (fL o (eLm n c t) 0):=by
  rw[zJ (by omega),z1M (by omega),yUP]
 refine⟨{norm:=n,b0:=c,cD:=o,text:=t,wanted:=wT n c o p,bX:=eLm n c t,b8:=fL o (eLm n c t) (eLm n c t).length,cg:=H,b6:=T},?_,⟨rfl,rfl,rfl,rfl,rfl,rfl,rfl,λx K=>?_,λx K=>?_⟩⟩
 ·unfold zCX
  rw[z2E hn hok hs hg h,zA,zMZ (by omega),zA];show ((jN (wT n c o p) (λx0=>zBH x0)).bind _)=_;rw[cfr (f:=λx0=>zBH x0) (by omega) (λr=>decide (0<(r.length:Int))) (λx=>rfl),zA];show (cond (!zKH (wT n c o p)) _ _)=_;cases zKH (wT n c o p) with
  | false=>rfl
  | true=>
   rw[dD,cN,z2E hn hok hs hg (tk0 hn hok D),zA,hm,zA,O,zA,Y,zA];rfl
 ·have:=(Z x).1
  rw[d8,dG K] at this;exact this
 ·have:=(Z x).2
  rw[d8,dG K] at this;exact this
theorem ySP (o:Options) {p t places:List Int} (be:TOk n p) (ht:t.length<=12) {F:bQ} (D:FOk n c o p t places F) {lo hi:Int} (hl:lo∈places) (hh:hi∈places) (h1:0<=lo) (h2:lo<=hi) (h3:hi<=(t.length:Int)):
  xX F (mkR lo hi)=some (mB n c o p t lo hi):=by
 have e1:mgetD F.cg (mkR lo hi).Lo 0=hdV n c t lo:=D.he lo hl;have e2:mgetD F.b6 (mkR lo hi).Hi 0=tlV n c t hi:=D.ta hi hh;have lA:=zNI (c:=c) hs (tk0 hn hok ht);have lU:=zNI (c:=c) hs (tk1 hn hok ht lo.toNat);have lV:=zNI (c:=c) hs (tk2 hn hok ht hi.toNat);have lM:=zNI (c:=c) hs (tk3 hn hok ht lo hi);have ai:=z2E hn hok hs hg (tk3 hn hok ht lo hi);have al:slc t (mkR lo hi).Lo (mkR lo hi).Hi=some (sl t lo hi):=by show slc t lo hi=_;unfold slc;rw[dG (by omega)];rfl
 have aa:=yJA (eLm n c p) o;have am:=zVH n c o p;unfold xX;rw[D.no,D.co,D.op,D.te,D.wa,D.el,D.fi,e1,e2,al];unfold hdV tlV hdB tlB mB whB;have an:wT n c o (sl t lo hi)=wts (eLm n c (sl t lo hi)) (wH o):=rfl;rw[an];have ao:wT n c o p=wts (eLm n c p) (wH o):=rfl;rw[ao] at am ⊢;simp only[zA,ai];generalize eLm n c t=A at*;generalize eLm n c (t.take lo.toNat)=U at*;generalize eLm n c (t.drop hi.toNat)=V at*;generalize eLm n c (sl t lo hi)=M at*;by_cases hu:U.length<=A.length/\U=A.take U.length
 ·by_cases hv:V.length<=A.length/\V=A.drop (A.length-V.length)
  ·have q1:(decide (U.length<=A.length)&&decide (U=A.take U.length))=true:=by simp only[dL,cZ];exact hu
   have q2:(decide (V.length<=A.length)&&decide (V=A.drop (A.length-V.length)))=true:=by simp only[dL,cZ];exact hv
   have hw:wi ((A.length:Int)-(V.length:Int))=((A.length-V.length:Nat):Int):=by rw[xN (by omega) (by omega)];omega
   have n1:decide (((U.length:Nat):Int)<0)=false:=by simp
   have n2:decide (((V.length:Nat):Int)<0)=false:=by simp
   simp only[q1,q2,dH,hw,zK,n1,n2,iK,eY];by_cases bd:U.length+V.length<=A.length
   ·have n3:decide (((A.length-V.length:Nat):Int)<(U.length:Int))=false:=by simp;omega
    obtain⟨N,hN⟩:∃N,N=(A.take (A.length-V.length)).drop U.length:=⟨_,rfl⟩;have K:A.take (A.length-V.length)=U++N:=by
     rw[hN];have:=(ey U.length (A.take (A.length-V.length))).symm
     rwa [List.take_take,gX (by omega),<-hu.2] at this
    have hA:A=U++N++V:=by
     rw[<-K];have:=(ey (A.length-V.length) A).symm
     rwa [<-hv.2] at this
    have Y:(U++M++V=A)↔N=M:=by
     constructor
     ·intro h
      rw[hA] at h;exact(List.append_cancel_left (List.append_cancel_right h)).symm
     ·intro h
      rw[<-h,<-hA]
    have ba:N.length<=18000:=by
     have:=congrArg List.length hA;simp only[cX] at this;omega
    have f1:=z85 o A (k:=A.length) (i:=A.length-V.length) (by omega) (by omega);have f2:=z85 o A (k:=A.length) (i:=U.length) (by omega) (by omega);have hr:=yI9 o (A.take (A.length-V.length));rw[K,z84,cX,cX] at hr;rw[K,z84,cX] at f1;rw[<-hu.2] at f2;have aj:wi ((((r0 o U).length+(r0 o N).length:Nat):Int)-((r0 o U).length:Int))=((r0 o N).length:Int):=by rw[xN (by omega) (by omega)];omega
    have ak:slc A (U.length:Int) ((A.length-V.length:Nat):Int)=some N:=by rw[zS7 (by omega) (by omega),hN]
    simp only[n3,dS,xB,f1,f2,aa,zA,aj,eY,ak,zMZ (show N.length<=4000000000 by omega),yQD (a:=wts N (wH o)) (b:=wts (eLm n c p) (wH o)) (by have:=zVF N (wH o);omega) (λx hx=>by have:=zW6 hx;omega),zTK (a:=N) (b:=M) (by omega)]
    have T:wts N (wH o)=wts (eLm n c p) (wH o)->(r0 o N).length=(r0 o (eLm n c p)).length:=λh=>by
     have k1:=yJA N o;rw[h,aa,fC] at k1;rw[k1]
    by_cases Z:wts N (wH o)=wts (eLm n c p) (wH o)
    ·have g2:decide (((r0 o N).length:Int)=((r0 o (eLm n c p)).length:Int))=true:=by rw[cZ,T Z]
     rw[g2,fX Z];simp only[dD,cN];by_cases H:N=M
     ·rw[fX H,fX (Y.2 H),<-H,fX Z]
      rfl
     ·rw[gw H,gw (λh=>H (Y.1 h)),fG]
    ·have O:(decide (wts M (wH o)=wts (eLm n c p) (wH o))&&decide (U++M++V=A))=false:=by
      by_cases H:N=M
      ·rw[<-H,gw Z,dP]
      ·rw[gw (λh=>H (Y.1 h)),fG]
     rw[O,gw Z];cases decide (((r0 o N).length:Int)=((r0 o (eLm n c p)).length:Int))<;>rfl
   ·have n3:decide (((A.length-V.length:Nat):Int)<(U.length:Int))=true:=by simp;omega
    have O:decide (U++M++V=A)=false:=gw λh=>by
     have:=congrArg List.length h;simp only[cX] at this;omega
    simp only[n3,dD,vB,zA,ic,cO,O,fG]
  ·have q2:(decide (V.length<=A.length)&&decide (V=A.drop (A.length-V.length)))=false:=by
    cases h:(decide (V.length<=A.length)&&decide (V=A.drop (A.length-V.length))) with
    | false=>rfl
    | true=>simp only[dL,cZ] at h;exact absurd h hv
   have O:decide (U++M++V=A)=false:=gw λh=>hv (by
    rw[<-h];refine⟨by simp only[cX];omega,?_⟩
    rw[cX,Nat.add_sub_cancel,List.drop_left])
   have n1:decide ((-1:Int)<0)=true:=by decide
   simp only[q2,dQ,cY,zK,n1,Bool.or_true,ic,dD,vB,zA,cO,O,fG]
 ·have q1:(decide (U.length<=A.length)&&decide (U=A.take U.length))=false:=by
   cases h:(decide (U.length<=A.length)&&decide (U=A.take U.length)) with
   | false=>rfl
   | true=>simp only[dL,cZ] at h;exact absurd h hu
  have O:decide (U++M++V=A)=false:=gw λh=>hu (by
   rw[<-h,c9];refine⟨by simp,?_⟩;rw[gQ])
  have n1:decide ((-1:Int)<0)=true:=by decide
  simp only[q1,dQ,cY,zK,n1,ic,dD,vB,zA,cO,O,fG]
end
open Go.AV
theorem ca0 {rest:List Int} {lo:Int} (hl:rest.length<=1000) {H:Bool} {D:Nat} (hc:D<=rest.length) (hs:H=true->1<=D) (hn:H=false->D=rest.length):
  ∀(m k:Nat),k+m=D->(H=true->1<=m)->∃y,zF (λ(x:Int×Nat)=>xI rest (lo::rest) ((rest.map (mkR lo)).take D) H x.1 x.2) ((k:Int),k)=some y/\(y= .inl D\/y= .inr D)
 | 0,k,h,h1=>by
  have aa:H=false:=by cases H with | false=>rfl | true=>exact absurd (h1 rfl) (by omega)
  have:k=rest.length:=by have:=hn aa;omega
  subst this;exact⟨.inl D,zL (by simp only[xI,kH (dC _),cN];rw[show rest.length=D by omega]),.inl rfl⟩
 | m+1,k,h,h1=>by
  have T:k<rest.length:=by omega
  have hy:yM ((rest.map (mkR lo)).take D) k (mkR lo rest[k])=some ():=by
   unfold yM;rw[dG];rw[d6,dG (by omega),dW,cS T];rfl
  have O:((rest.map (mkR lo)).take D).length=D:=by rw[dZ,e7];omega
  have Y:yM ((rest.map (mkR lo)).take D) k ({Lo:=lo,Hi:=rest[k]}:Range)=some ():=hy;have i0:yD (lo::rest) (0:Int)=some lo:=rfl;cases K:goB H D k with
  | true=>
   have hm:H=true->1<=m:=λZ=>by
    rcases Nat.eq_zero_or_pos m with h3 | h3
    ·subst h3 Z
     have:k+1=D:=by omega
     unfold goB at K;rw[this] at K;simp at K
    ·exact h3
   obtain⟨y,ab,ac⟩:=ca0 hl hc hs hn m (k+1) (by omega) hm;refine⟨y,?_,ac⟩;rw[zM (x':=(((k+1:Nat):Int),k+1)) (by simp only[xI,yS T,cO,zU T,i0,zA,Y,O,K,dD,cN,zJ (k:=k) (by omega)])];exact ab
  | false=>
   have Z:k+1=D:=by
    unfold goB at K;simp only[Bool.not_eq_false',dL] at K;exact iB K.2
   refine⟨.inr D,zL ?_,.inr rfl⟩;simp only[xI,yS T,cO,zU T,i0,zA,Y,O,K,dS];rw[Z]
theorem yMY {rest:List Int} {lo:Int} (Y:rest.length<=1000) {k:Bool} {h:Nat} (O:h<=rest.length) (D:k=true->1<=h) (Z:k=false->h=rest.length):zAS ((rest.map (mkR lo)).take h) k (lo::rest)=some ():=by
 unfold zAS;have K:slc (lo::rest) 1 (((lo::rest).length:Nat):Int)=some rest:=by
  have:=zIK (l:=lo::rest) (a:=1) (by simp);exact this
 obtain⟨y,H,hq⟩:=ca0 (lo:=lo) Y O D Z h 0 (by omega) D;rw[show ((0:Nat):Int)=0 from rfl] at H;rw[K,zA,H,zA];have T:zV9 ((rest.map (mkR lo)).take h) h=some ():=by
  unfold zV9;rw[dG];rw[dZ,e7];omega
 rcases hq with rfl | rfl<;>exact T
theorem z59 {F:bQ} {m:Int->Bool} {lo:Int} {acc:List Range} (Y:acc.length<=1000):∀(rest:List Int),(∀hi∈rest,xX F (mkR lo hi)=some (m hi))->
  ∃D k,zML (λ(s:List Range) (x:Range)=>xC F s x) acc (rest.map (mkR lo))=some (D,!k,acc++(match rest.find? m with
   | some hi=>[mkR lo hi]
   | none=>[]))/\D<=rest.length/\(k=true->1<=D)/\(k=false->D=rest.length)
 | [],_=>⟨0,false,by simp[zML],dC _,(λh=>by cases h),(λ_=>rfl)⟩
 | hi::rest,h=>by
  have H:=h hi (by simp);rw[eA,ir];cases K:m hi with
  | true=>
   refine⟨1,true,?_,by simp,λ_=>dC _,λh=>by cases h⟩;rw[K] at H;unfold zML;have:xC F acc (mkR lo hi)=some (false,acc++ [mkR lo hi]):=by
    unfold xC;rw[H,zA,cO,jY (by simp;omega),zA]
   rw[this];rfl
  | false=>
   rw[K] at H;obtain⟨D,k,O,h2,h3,T⟩:=z59 (m:=m) Y rest (λx hx=>h x (by simp[hx]));refine⟨D+1,k,?_,by simp;omega,λ_=>by omega,λZ=>by simp[T Z]⟩
   unfold zML;have:xC F acc (mkR lo hi)=some (true,acc):=by
    unfold xC;rw[H,zA,cN]
   rw[this];simp only[O,e6]
section
variable {n:Norm} {c:Collation} (hn:NSm n) (hok:wO n) (hs:Sm c) (hg:∀g∈c.aF,g.bT.length<=MX)
include hn hok hs hg
omit hn hok hs hg in
theorem sa0 {F:bQ} {m:Int->Int->Bool} {P:List Int} (hl:P.length<=1000) (T:∀(i j:Nat) (O:j<P.length) (ah:i<j),xX F (mkR (P[i]'(by omega)) P[j])=some (m (P[i]'(by omega)) P[j])):
  ∀(q k:Nat) (acc:List Range),k+q=P.length->acc.length<=k->zF (λ(x:Int×(List Range))=>zCG P F x.1 x.2) ((k:Int),acc)=some (acc++z81 mkR m (P.drop k))
 | 0,k,acc,h,_=>by
  have:k=P.length:=by omega
  subst this;rw[gB,z81,et];exact zL (by simp only[zCG,kH (dC _),cN])
 | q+1,k,acc,h,ha=>by
  have K:k<P.length:=by omega
  rw[cW K,z81];obtain⟨Y,H,Z,h2,h3,h4⟩:=z59 (F:=F) (m:=m P[k]) (lo:=P[k]) (acc:=acc) (by omega) (P.drop (k+1)) (λhi hx=>by
   obtain⟨j,O,rfl⟩:=fc hx;rw[List.getElem_drop];rw[eH] at O;exact T k (k+1+j) (by omega) (by omega))
  have hc:=yMY (rest:=P.drop (k+1)) (lo:=P[k]) (by rw[eH];omega) h2 h3 h4
  have hd:slc P (k:Int) (P.length:Int)=some (P[k]::P.drop (k+1)):=by rw[zIK (by omega),cW K]
  have D:zCG P F (k:Int) acc=some (.next (((k+1:Nat):Int),acc++(match (P.drop (k+1)).find? (m P[k]) with
   | some hi=>[mkR P[k] hi]
   | none=>[]))):=by
   unfold zCG;have hr:∀(z:List Range),z=(P.drop (k+1)).map (mkR P[k])->zWB (λa b=>({Lo:=a,Hi:=b}:Range)) (P[k]::P.drop (k+1))=z:=λz hz=>hz▸rfl;rw[yS K,cO,hd,zA,hr _ rfl,Z,zA];simp only[Bool.not_not,hc,zA];rw[zJ (by omega)];cases H<;>rfl
  rw[zM (x':=(((k+1:Nat):Int),acc++(match (P.drop (k+1)).find? (m P[k]) with
   | some hi=>[mkR P[k] hi]
   | none=>[]))) D]
  rw[sa0 hl T q (k+1) _ (by omega) (by
   rw[cX];cases (P.drop (k+1)).find? (m P[k])<;>simp<;>omega),c9]
  rfl
omit hn hok hs hg in
theorem z2I {cuts:List Int} {N:Nat} {x:Int}:x∈zOP cuts N↔x∈cuts/\0<=x/\x<=(N:Int):=by
 unfold zOP;simp only[fb,eM,fO,cZ];constructor
 rintro⟨⟨k,K,rfl⟩,h⟩
 exact⟨h,by omega,by omega⟩
 rintro⟨h,D,H⟩
 exact⟨⟨x.toNat,by omega,by omega⟩,h⟩
omit hn hok hs hg in
theorem yQJ (cuts:List Int) (N:Nat):(zOP cuts N).Pairwise (· < ·):=by
 unfold zOP;refine List.Pairwise.filter _ ?_;rw[List.pairwise_map];exact List.pairwise_lt_range.imp λh=>by omega
omit hn hok hs hg in
theorem yMZ (cuts:List Int) (N:Nat):(zOP cuts N).length<=N+1:=by unfold zOP;refine d9 (g9 ..) ?_;simp
theorem zW9 (o:Options) {p t cuts:List Int} (O:TOk n p) (T:t.length<=12) (Z:cuts.length<=1000):zBI n c o p t cuts=some (aM n c o p t cuts):=by
 unfold zBI;have aa:=yMZ cuts t.length;obtain⟨F,Y,k⟩:=ySO hn hok hs hg o (p:=p) (t:=t) (places:=zOP cuts t.length) O T (by omega) (λx hx=>(z2I.1 hx).2);rw[z2G Z,zA,Y,zA];unfold aM;cases zKH (wT n c o p) with
 | false=>rfl
 | true=>
  rw[dG rfl,dG rfl];have H:=hY.1 (yQJ cuts t.length);have h:=sa0 (F:=F) (m:=mB n c o p t) (P:=zOP cuts t.length) (by omega) (λi j K D=>by
   have mi:=z2I.1 (eF (l:=zOP cuts t.length) (show i<_ by omega));have mj:=z2I.1 (eF (l:=zOP cuts t.length) K);exact ySP hn hok hs hg o O T k (eF _) (eF _) mi.2.1 (Int.le_of_lt (H i j (by omega) K D)) mj.2.2) (zOP cuts t.length).length 0 [] (by omega) (by simp)
  rw[show ((0:Nat):Int)=0 from rfl,d8,dO,yI0] at h;show (zF _ (0,[])).bind _=_;rw[h];rfl
theorem zZ9 (o:Options) {p t cuts:List Int} (k:TOk n p) (D:t.length<=12) (h:cuts.length<=1000):xV n c o p t cuts=zHE n c o p t cuts:=by unfold xV zHE;rw[zW9 hn hok hs hg o k D h,yBC hn hok hs hg o k D h];rfl
theorem z2J (o:Options) {p t h cuts:List Int} (D:TOk n p) (H:t.length<=12) (k:cuts.length<=1000):u5 n c o p t h cuts=zFG n c o p t h cuts:=by unfold u5 zFG;rw[zZ9 hn hok hs hg o D H k];rfl
end
open Go.AV
structure MtOk (m:Int->Int->Bool) (cuts:List Int) (size k:Nat) (r:Range):Prop where
 lo:(k:Int)<=r.Lo
 hi:r.Lo<r.Hi
 le:r.Hi<=(size:Int)
 cl:r.Lo∈cuts
 ch:r.Hi∈cuts
 mt:m r.Lo r.Hi=true
 sh:∀q:Int,r.Lo<q->q<r.Hi->¬(q∈cuts/\m r.Lo q=true)
theorem MtOk.mono {m:Int->Int->Bool} {cuts:List Int} {size k j:Nat} {r:Range} (D:j<=k) (h:MtOk m cuts size k r):MtOk m cuts size j r:=⟨by have:=h.lo;omega,h.hi,h.le,h.cl,h.ch,h.mt,h.sh⟩
theorem zQR {p:Nat->Bool}:∀(n k q:Nat),(List.range' k n).find? p=some q->k<=q/\q<k+n/\p q=true/\∀j,k<=j->j<q->p j=false
 | 0,k,q,h=>by simp at h
 | n+1,k,q,h=>by
  rw[ie,ir] at h;cases D:p k with
  | true=>
   rw[D] at h;simp only[fC] at h;subst h;exact⟨dC _,by omega,D,λj H K=>by omega⟩
  | false=>
   rw[D] at h;obtain⟨H,K,O,T⟩:=zQR n (k+1) q h;refine⟨by omega,by omega,O,λj h5 Y=>?_⟩;rcases Nat.eq_or_lt_of_le h5 with rfl | h5
   exact D;exact T j h5 Y
theorem yBE {m:Int->Int->Bool} {cuts:List Int} {size:Nat}:∀(n k:Nat),k+n=size->(∀r∈zLI mkR m cuts size k n,MtOk m cuts size k r)/\(zLI mkR m cuts size k n).Pairwise (λa b=>a.Lo<b.Lo)/\(zLI mkR m cuts size k n).length<=n
 | 0,k,_=>⟨λr D=>by simp[zLI] at D,by simp[zLI],by simp[zLI]⟩
 | n+1,k,h=>by
  obtain⟨i1,i2,i3⟩:=yBE (m:=m) (cuts:=cuts) (size:=size) n (k+1) (by omega);have e:zLI mkR m cuts size k (n+1)=(if decide ((k:Int)∈cuts)=true then
   match ((List.range' (k+1) (size-k)).find? λ(q:Nat)=>decide ((q:Int)∈cuts)&&m (k:Int) (q:Int)) with
   | some q=>[mkR (k:Int) (q:Int)]
   | none=>[]
   else [])++zLI mkR m cuts size (k+1) n:=by
   unfold zLI;rw[ie,d5];rfl
  rw[e];by_cases O:(k:Int)∈cuts;rw[dG (fX O)];cases hf:(List.range' (k+1) (size-k)).find? (λ(q:Nat)=>decide ((q:Int)∈cuts)&&m (k:Int) (q:Int)) with
  | none=>exact⟨λr D=>MtOk.mono (k:=k+1) (by omega) (i1 r (by simpa using D)),i2,d9 i3 (by omega)⟩
  | some q=>
   obtain⟨h1,h2,K,h4⟩:=zQR _ _ _ hf;simp only[dL,cZ] at K;refine⟨λr D=>?_,?_,?_⟩;simp only[fH,dO,dM] at D;rcases D with rfl | D;refine⟨fT _,by show (k:Int)<(q:Int);omega,by show (q:Int)<=(size:Int);omega,O,K.1,K.2,λz T Y=>?_⟩
   have z1:(k:Int)<z:=T;have z2:z<(q:Int):=Y;have:=h4 z.toNat (by omega) (by omega);rw[show ((z.toNat:Nat):Int)=z by omega] at this
   rintro⟨Z,g2⟩
   have H:m (k:Int) z=true:=g2;rw[H,fX Z] at this;cases this;exact MtOk.mono (k:=k+1) (by omega) (i1 r D);rw[fH,dO,eZ];refine⟨λr D=>?_,i2⟩;have:=(i1 r D).lo;show (k:Int)<r.Lo;omega;simp only[fH,dO,dR];omega
  rw[dN (by simp[O]),dO];exact⟨λr D=>MtOk.mono (k:=k+1) (by omega) (i1 r D),i2,d9 i3 (by omega)⟩
theorem z6A (n:Norm) (c:Collation) (o:Options) (p t cuts:List Int):(∀r∈aM n c o p t cuts,MtOk (mB n c o p t) cuts t.length 0 r)/\(aM n c o p t cuts).Pairwise (λa b=>a.Lo<b.Lo)/\(aM n c o p t cuts).length<=t.length:=by unfold aM;split;exact yBE t.length 0 (by omega);exact⟨(λr h=>by cases h),List.Pairwise.nil,(by simp)⟩
def zE1:Int->List Range->List Range
 | _,[]=>[]
 | e,r::l=>if e<=r.Lo then r::zE1 r.Hi l else zE1 e l
theorem zM1:∀(l:List Range) (e:Int),(zE1 e l).Sublist l
 | [],_=>List.Sublist.slnil
 | r::l,e=>by
  unfold zE1;split;exact(zM1 l r.Hi).cons_cons r;exact(zM1 l e).cons r
theorem z0A:∀(l:List Range) (e:Int) (r:Range) (t:List Range),zE1 e l=r::t->e<=r.Lo
 | [],_,_,_,h=>by cases h
 | x::l,e,r,t,h=>by
  unfold zE1 at h;split at h;rename_i k;rw[g8] at h;rw[<-h.1];exact k;exact z0A l e r t h
theorem fd0 {A:List Range} (K:A.length<=1000):∀(m k:Nat) (e:Int) (acc:List Range),k+m=A.length->acc.length<=k->
  zF (λ(x:Int×Int×(List Range))=>zFF A x.1 x.2.1 x.2.2) (e,(k:Int),acc)=some (acc++zE1 e (A.drop k))
 | 0,k,e,acc,h,_=>by
  have:k=A.length:=by omega
  subst this;rw[gB,zE1,et];exact zL (by simp only[zFF,kH (dC _),cN])
 | m+1,k,e,acc,h,O=>by
  have D:k<A.length:=by omega
  rw[cW D,zE1];by_cases H:e<=A[k].Lo
  ·rw[zM (x':=(A[k].Hi,((k+1:Nat):Int),acc++ [A[k]])) (by simp only[zFF,yS D,cO,zU D,zA,H,dA,jY (l:=acc) (m:=[A[k]]) (by simp;omega),zJ (k:=k) (by omega)])]
   rw[fd0 K m (k+1) _ _ (by omega) (by simp;omega),dG H]
   simp
  ·rw[zM (x':=(e,((k+1:Nat):Int),acc)) (by simp only[zFF,yS D,cO,zU D,zA,H,dF,cN,zJ (k:=k) (by omega)])]
   rw[fd0 K m (k+1) _ _ (by omega) (by omega),dN H]
noncomputable def fM (n:Norm) (c:Collation) (o:Options) (p t cuts:List Int):List Range:=zE1 0 (aM n c o p t cuts)
def yM0 (t w:List Int):Int->List Int->List Range->List Int
 | e,acc,[]=>acc++t.drop e.toNat
 | e,acc,r::l=>yM0 t w r.Hi (acc++sl t e r.Lo++w) l
def flw (size:Int):Int->List Range->Prop
 | _,[]=>True
 | e,r::l=>e<=r.Lo/\r.Lo<=r.Hi/\r.Hi<=size/\flw size r.Hi l
theorem zQS {size:Int}:∀(l:List Range) (e:Int),(∀r∈l,r.Lo<r.Hi/\r.Hi<=size)->flw size e (zE1 e l)
 | [],_,_=>trivial
 | r::l,e,h=>by
  unfold zE1;split;rename_i k;have:=h r (by simp);exact⟨k,Int.le_of_lt this.1,this.2,zQS l r.Hi λx k=>h x (by simp[k])⟩;exact zQS l e λx k=>h x (by simp[k])
theorem rp0 {A:List Range} {t w:List Int} (hA:A.length<=1000) (ht:t.length<=1000) (hw:w.length<=1000):∀(m k:Nat) (e:Int) (acc:List Int),k+m=A.length->acc.length<=2000*k->0<=e->e<=(t.length:Int)->flw (t.length:Int) e (A.drop k)->
  ∃y,zF (λ(x:Int×Int×(List Int))=>zEW A t w x.1 x.2.1 x.2.2) (e,(k:Int),acc)=some y/\0<=y.1/\y.1<=(t.length:Int)/\y.2.length<=2000*A.length/\y.2++t.drop y.1.toNat=yM0 t w e acc (A.drop k)
 | 0,k,e,acc,h,O,H,K,_=>by
  have:k=A.length:=by omega
  subst this;rw[gB,yM0];exact⟨(e,acc),zL (by simp only[zEW,kH (dC _),cN]),H,K,O,rfl⟩
 | m+1,k,e,acc,h,O,H,K,T=>by
  have D:k<A.length:=by omega
  rw[cW D] at T ⊢;obtain⟨f1,f2,Y,Z⟩:=T;have s2:slc t e A[k].Lo=some (sl t e A[k].Lo):=by unfold slc;rw[dG (by omega)];rfl
  have l2:(sl t e A[k].Lo).length<=t.length:=by unfold sl;rw[eH,dZ];omega
  obtain⟨y,g1,g2,g3,g4,g5⟩:=rp0 hA ht hw m (k+1) A[k].Hi (acc++sl t e A[k].Lo++w) (by omega) (by simp only[cX];omega) (by omega) Y Z
  refine⟨y,?_,g2,g3,g4,g5⟩;rw[zM (x':=(A[k].Hi,((k+1:Nat):Int),acc++sl t e A[k].Lo++w)) (by simp only[zEW,yS D,cO,zU D,zA,s2,jY (l:=acc) (m:=sl t e A[k].Lo) (by omega),jY (l:=acc++sl t e A[k].Lo) (m:=w) (by simp only[cX];omega),zJ (k:=k) (by omega)])]
  exact g1
section
variable {n:Norm} {c:Collation} (hn:NSm n) (hok:wO n) (hs:Sm c) (hg:∀g∈c.aF,g.bT.length<=MX)
include hn hok hs hg
theorem zOQ (o:Options) {p t cuts:List Int} (D:TOk n p) (H:t.length<=12) (k:cuts.length<=1000):xV n c o p t cuts=some (fM n c o p t cuts)/\zHE n c o p t cuts=some (fM n c o p t cuts):=by
 have K:=(z6A n c o p t cuts).2.2;have h:=fd0 (A:=aM n c o p t cuts) (by omega) _ 0 0 [] (em _) (by simp);rw[show ((0:Nat):Int)=0 from rfl,d8,dO] at h;have:zHE n c o p t cuts=some (fM n c o p t cuts):=by
  unfold zHE;rw[yBC hn hok hs hg o D H k,zA,h];rfl
 exact⟨(zZ9 hn hok hs hg o D H k).trans this,this⟩
theorem z87 (o:Options) {p t w cuts:List Int} (T:TOk n p) (Y:t.length<=12) (hw:w.length<=1000) (O:cuts.length<=1000):∃h,u5 n c o p t w cuts=some h/\zFG n c o p t w cuts=some h/\h.length<=1000000/\h=yM0 t w 0 [] (fM n c o p t cuts):=by
 obtain⟨a1,a2,a3⟩:=z6A n c o p t cuts;have hl:=(zM1 (aM n c o p t cuts) 0).length_le;have D:=zQS (size:=(t.length:Int)) (aM n c o p t cuts) 0 λr k=>⟨(a1 r k).hi,(a1 r k).le⟩;have Z:(fM n c o p t cuts).length<=12:=by unfold fM;omega
 obtain⟨y,H,g2,g3,g4,K⟩:=rp0 (A:=fM n c o p t cuts) (t:=t) (w:=w) (by omega) (by omega) hw _ 0 0 [] (em _) (by simp) (fT 0) (by omega) (by rw[d8];exact D)
 rw[show ((0:Nat):Int)=0 from rfl] at H;rw[d8] at K;have s3:slc t y.1 (t.length:Int)=some (t.drop y.1.toNat):=by unfold slc;rw[dG (by omega)];simp
 have hd:(t.drop y.1.toNat).length<=t.length:=by rw[eH];omega
 have k:zFG n c o p t w cuts=some (y.2++t.drop y.1.toNat):=by
  unfold zFG;rw[(zOQ hn hok hs hg o T Y O).2,zA,H,zA,s3,zA,jY (by omega),zA]
 refine⟨_,(z2J hn hok hs hg o T Y O).trans k,k,?_,K⟩;rw[cX];omega
end
open Go.AV
def cA:Collation:={aB:=[{aY:=[65],aV:=[{aT:=5,aL:=32,aO:=8,aD:=false}]},{aY:=[97],aV:=[{aT:=5,aL:=32,aO:=2,aD:=false}]},{aY:=[769],aV:=[{aT:=0,aL:=40,aO:=2,aD:=false}]}],aF:=[],bL:=64448,bF:=32,bK:=2}
def oA:Options:={aJ:=1,aD:=1,aQ:=false,aU:=false}
theorem z88:Sm cA:=⟨by decide,by decide,by decide,by decide⟩
theorem z89:∀g∈cA.aF,g.bT.length<=MX:=λg h=>by cases h
theorem ySQ (t:List Int) (h:∀x∈t,syl x=false):zGW nZ false t=t:=by unfold zGW;rw[yIW];refine z12 λe k=>?_;have D:=h e k;unfold fu exF;show hdE e= [e];unfold hdE;rw[D];rfl
theorem yBF:∀(t:List Int),rsE (clE []) t []=t
 | []=>rfl
 | x::t=>by
  have h:clE [] x=0:=rfl;unfold rsE;rw[dG h,yBF t];rfl
theorem yM1 (t:List Int):csE (clE []) t=t:=by rw[z10 (key:=clE []) (λx=>fT 0),yBF]
theorem elZ (t:List Int) (h:∀x∈t,syl x=false):eLm nZ cA t=(wk cA [] t).1:=by unfold eLm zDE;rw[ySQ t h,yIW,ySD];show (wk cA [] (csE (clE []) t)).1=_;rw[yM1]
noncomputable def stZ (t:List Int):List aP:=(wk cA [] t).1
noncomputable def wZ (t:List Int):List (List Int):=wts (stZ t) oA
noncomputable def mZ (p t:List Int) (lo hi:Int):Bool:=decide (wZ (sl t lo hi)=wZ p)&&decide (stZ (t.take lo.toNat)++stZ (sl t lo hi)++stZ (t.drop hi.toNat)=stZ t)
noncomputable def aZ (p t cuts:List Int):List Range:=if zKH (wZ p)=true then zLI mkR (mZ p t) cuts t.length 0 t.length else []
theorem noS {t:List Int} (h:t.all (λx=>!syl x)=true):∀x∈t,syl x=false:=λx k=>by simpa using eC.1 h x k
theorem wTZ {t:List Int} (h:∀x∈t,syl x=false):wT nZ cA oA t=wZ t:=by unfold wT wZ stZ;rw[elZ t h,show wH oA=oA from yNZ rfl]
theorem mBZ {p t:List Int} (H:∀x∈p,syl x=false) (k:∀x∈t,syl x=false) (lo hi:Int):mB nZ cA oA p t lo hi=mZ p t lo hi:=by have D:∀x∈sl t lo hi,syl x=false:=λx h=>k x (eD (eP h));unfold mB mZ whB;rw[wTZ D,wTZ H,elZ _ D,elZ t k,elZ (t.take lo.toNat) (λx h=>k x (eD h)),elZ (t.drop hi.toNat) (λx h=>k x (eP h))];rfl
theorem aMZ {p t:List Int} (h:∀x∈p,syl x=false) (k:∀x∈t,syl x=false) (cuts:List Int):aM nZ cA oA p t cuts=aZ p t cuts:=by unfold aM aZ;rw[wTZ h,show mB nZ cA oA p t=mZ p t from funext λlo=>funext λhi=>mBZ h k lo hi]
theorem a1:aZ [65] [97,769,98,65] [0,2,3,4]= [mkR 0 2,mkR 3 4]:=by decide
theorem a2:aZ [65] [97,769,98,65] [0,1,2,3,4]= [mkR 0 1,mkR 3 4]:=by decide
theorem a3:aZ [769] [97,769,98,65] [1,2]= []:=by decide
theorem w1:zKH (wZ [97])=true/\wZ [97]=wZ [65]:=by decide
theorem w2:zKH (wZ [])=false:=by decide
open Go.AV
theorem tZ (t:List Int) (h:t.length<=12):TOk nZ t:=tk0 z52 zT6 h
theorem fZ {p t cuts:List Int} (h:p.length<=12) (k:t.length<=12) (H:cuts.length<=12) (D:p.all (λx=>!syl x)=true) (st:t.all (λx=>!syl x)=true):xV nZ cA oA p t cuts=some (zE1 0 (aZ p t cuts)):=by rw[(zOQ z52 zT6 z88 z89 oA (tZ p h) k (by omega)).1];unfold fM;rw[aMZ (noS D) (noS st)]
theorem zSD:wV=some true:=by
 have O:xV nZ cA oA [65] [97,769,98,65] [0,2,3,4]=some [mkR 0 2,mkR 3 4]:=by
  rw[fZ (by simp) (by simp) (by simp) (by decide) (by decide),a1];rfl
 have T:zBI nZ cA oA [65] [97,769,98,65] [0,1,2,3,4]=some [mkR 0 1,mkR 3 4]:=by
  rw[zW9 z52 zT6 z88 z89 oA (tZ [65] (by simp)) (by simp) (by simp),aMZ (noS (by decide)) (noS (by decide)),a2]
 have Y:u5 nZ cA oA [65] [97,769,98,65] [120] [0,2,3,4]=some [120,98,120]:=by
  obtain⟨ah,h1,_,_,k⟩:=z87 z52 zT6 z88 z89 oA (p:=[65]) (t:=[97,769,98,65]) (w:=[120]) (cuts:=[0,2,3,4]) (tZ [65] (by simp)) (by simp) (by simp) (by simp);unfold fM at k;rw[aMZ (noS (by decide)) (noS (by decide)),a1] at k;rw[h1,k];rfl
 have Z:w7 nZ cA oA [97] [65]=some true:=by
  rw[zPC z52 zT6 z88 z89 oA (tZ [97] (by simp)) (tZ [65] (by simp)),wTZ (noS (by decide)),wTZ (noS (by decide)),w1.1,fX w1.2];rfl
 have f5:w7 nZ cA oA [] []=some false:=by
  rw[zPC z52 zT6 z88 z89 oA (tZ [] (by simp)) (tZ [] (by simp)),wTZ (noS (by decide)),w2];rfl
 have f6:w8 nZ cA [97,769,98,65] (mkR 1 2)=some true:=by
  rw[zW8 z52 zT6 z88 z89 (by simp)];unfold whB;rw[elZ _ (noS (by decide)),elZ _ (noS (by decide)),elZ _ (noS (by decide)),elZ _ (noS (by decide))];exact congrArg some (show (_&&_)=true by decide)
 have f7:w8 nZ cA [97,769,98,65] (mkR 2 1)=some false:=by
  rw[zW8 z52 zT6 z88 z89 (by simp)];rw[gw (by rintro⟨_,h,_⟩;have:(2:Int)<=1:=h;omega)]
  rfl
 have f8:xV nZ cA oA [769] [97,769,98,65] [1,2]=some []:=by
  rw[fZ (by simp) (by simp) (by simp) (by decide) (by decide),a3];rfl
 have D:zBJ [mkR 0 2,mkR 3 4] [mkR 0 2,mkR 3 4]=some true:=by rw[z82 (by simp)];simp
 have H:zBJ [mkR 0 1,mkR 3 4] [mkR 0 1,mkR 3 4]=some true:=by rw[z82 (by simp)];simp
 have K:uA [120,98,120] [120,98,120]=some true:=by rw[zWS (by simp)];simp
 unfold wV zHN;rw[zA];show ((xV nZ cA oA [65] [97,769,98,65] [0,2,3,4]).bind _)=_;rw[O,zA];show ((zBI nZ cA oA [65] [97,769,98,65] [0,1,2,3,4]).bind _)=_;rw[T,zA];show ((u5 nZ cA oA [65] [97,769,98,65] [120] [0,2,3,4]).bind _)=_;rw[Y,zA];show ((zBJ [mkR 0 2,mkR 3 4] [mkR 0 2,mkR 3 4]).bind _)=_;rw[D,zA,zK];show ((zBJ [mkR 0 1,mkR 3 4] [mkR 0 1,mkR 3 4]).bind _)=_;rw[H,zA];show ((uA [120,98,120] [120,98,120]).bind _)=_;rw[K,zA];show ((w7 nZ cA oA [97] [65]).bind _)=_;rw[Z,zA];show ((w7 nZ cA oA [] []).bind _)=_;rw[f5,zA];show ((w8 nZ cA [97,769,98,65] (mkR 1 2)).bind _)=_;rw[f6,zA];rw[zK];show ((gM true (w8 nZ cA [97,769,98,65] (mkR 2 1))).bind _)=_;rw[xB,f7,zA];show ((xV nZ cA oA [769] [97,769,98,65] [1,2]).bind _)=_;rw[f8,zA];rfl
theorem z6B (j:a8):∃b,zER j=some b/\(b=true->NSm j.Norm/\Sm j.Collation/\j.aX.length<=4/\j.bU.length<=8/\j.bZ.length<=8):=by
 obtain⟨b,hb,H⟩:=yL2 j.Norm;unfold zER;rw[hb,zA,zK];cases b with
 | false=>exact⟨false,rfl,λh=>by cases h⟩
 | true=>
  simp only[xB,yG7,zA,zK,dK];cases K:smB j.Collation with
  | false=>exact⟨false,rfl,λh=>by cases h⟩
  | true=>
   simp only[xB,zA,dK,zJD];by_cases k:(j.aX.length:Int)<=4;by_cases D:(j.bU.length:Int)<=8;simp only[k,D,dA,xB,zA,dK];exact⟨_,rfl,λh=>⟨H rfl,yPB K,by omega,by omega,by have:=of_decide_eq_true h;omega⟩⟩
   simp only[k,D,dA,dF,xB,vB,zA,dK,dP];exact⟨false,rfl,λh=>by cases h⟩;simp only[k,dF,vB,zA,dP];exact⟨false,rfl,λh=>by cases h⟩
theorem law49_SearchMatches_true (j:a8) (ok:k5 j):zCK j=some true:=by
 unfold zCK;obtain⟨f,K,O⟩:=z6B j;rw[K,zA,zSD];cases f with
 | false=>rfl
 | true=>
 obtain⟨h,D,T,Y,Z⟩:=O rfl;have H:=zRY ok.2.1;have k:=tk0 h ok.1 (t:=j.aX) (by omega);have hb:=tk0 h ok.1 (t:=j.bU) (by omega);rw[dD,cN,zPC h ok.1 D H _ k hb,zA,yD0 h ok.1 D H _ k hb,zA];simp only[BEq.rfl,zK,xB,zA,fA]
theorem yJC (n:Norm) (c:Collation) (o:Options) (p t cuts:List Int):(fM n c o p t cuts).length<=t.length:=by have:=(zM1 (aM n c o p t cuts) 0).length_le;have:=(z6A n c o p t cuts).2.2;unfold fM;omega
theorem law49_SearchEquivalent_true (j:a8) (ok:k5 j):zAV j=some true:=by
 unfold zAV;obtain⟨f,Y,hp⟩:=z6B j;rw[Y,zA,zSD];cases f with
 | false=>rfl
 | true=>
 obtain⟨h,H,l1,l2,l3⟩:=hp rfl;have K:=zRY ok.2.1;have k:=tk0 h ok.1 (t:=j.aX) (by omega);have D:(zDE j.Norm false j.aX).length<=900:=by rw[zL7];exact k.2
 have hb:TOk j.Norm (zDE j.Norm false j.aX):=⟨by omega,by rw[zZ0 h ok.1];exact D⟩
 have hl:=yJC j.Norm j.Collation j.Options j.aX j.bU j.bZ;obtain⟨q1,_⟩:=zOQ h ok.1 H K j.Options k (t:=j.bU) (cuts:=j.bZ) (by omega) (by omega);obtain⟨q2,_⟩:=zOQ h ok.1 H K j.Options hb (t:=j.bU) (cuts:=j.bZ) (by omega) (by omega);have T:fM j.Norm j.Collation j.Options (zDE j.Norm false j.aX) j.bU j.bZ=fM j.Norm j.Collation j.Options j.aX j.bU j.bZ:=by
  have O:wT j.Norm j.Collation j.Options (zDE j.Norm false j.aX)=wT j.Norm j.Collation j.Options j.aX:=by
   unfold wT eLm;rw[yDQ h ok.1]
  have Z:mB j.Norm j.Collation j.Options (zDE j.Norm false j.aX) j.bU=mB j.Norm j.Collation j.Options j.aX j.bU:=by
   funext lo hi;unfold mB;rw[O]
  unfold fM aM;rw[O,Z]
 rw[dD,cN,z8U h ok.1 k.1 k.2,zA,q1,zA,q2,zA,T,z82 (by omega)];simp only[dA,zK,xB,zA,fA]
theorem yQK (n:Norm) (c:Collation):eLm n c []= []:=rfl
theorem yJD {n:Norm} {c:Collation} {o:Options} {t:List Int} (O:t≠[]) (hw:zKH (wT n c o t)=true):aM n c o t t [0,(t.length:Int)]= [mkR 0 (t.length:Int)]:=by
 have hN:0<t.length:=eU.2 O;have hm:mB n c o t t 0 (t.length:Int)=true:=by
  unfold mB whB sl;simp[yQK]
 unfold aM zLI;rw[dG hw];obtain⟨M,hM⟩:∃M,t.length=M+1:=⟨t.length-1,by omega⟩;have D:(List.range' (0+1) (t.length-0)).find? (λ(q:Nat)=>decide ((q:Int)∈([0,(t.length:Int)]:List Int))&&mB n c o t t ((0:Nat):Int) (q:Int))=some t.length:=by
  cases k:(List.range' (0+1) (t.length-0)).find? (λ(q:Nat)=>decide ((q:Int)∈([0,(t.length:Int)]:List Int))&&mB n c o t t ((0:Nat):Int) (q:Int)) with
  | none=>
   rw[iq] at k;have:=k t.length (by rw[List.mem_range'_1];omega)
   have H:mB n c o t t ((0:Nat):Int) (t.length:Int)=true:=hm;rw[H] at this;simp at this
  | some q=>
   obtain⟨h1,K,T,h4⟩:=zQR _ _ _ k;simp only[dL,cZ,dM,iG,or_false] at T;congr 1;omega
 have h:(List.range' 1 M).flatMap (λ(f:Nat)=>if decide ((f:Int)∈([0,(t.length:Int)]:List Int))=true then
   match ((List.range' (f+1) (t.length-f)).find? λ(q:Nat)=>decide ((q:Int)∈([0,(t.length:Int)]:List Int))&&mB n c o t t (f:Int) (q:Int)) with
   | some q=>[mkR (f:Int) (q:Int)]
   | none=>[]
   else [])= []:=by
  rw[List.flatMap_eq_nil_iff];intro f k;rw[List.mem_range'_1] at k;rw[dN];simp only[cZ,dM,iG,or_false];omega
 rw[show List.range' 0 t.length=0::List.range' 1 M by rw[hM,ie],d5];have K:∀(A B:List Range),A= [mkR 0 (t.length:Int)]->B= []->A++B= [mkR 0 (t.length:Int)]:=λA B Y Z=>by rw[Y,Z];rfl
 refine K _ _ ?_ h;rw[dG (by simp),D];rfl
theorem law49_SearchSelf_true (j:a8) (ok:k5 j):zEX j=some true:=by
 unfold zEX;obtain⟨f,hf,hp⟩:=z6B j;rw[hf,zA,zK,zK,zSD];cases f with
 | false=>rfl
 | true=>
 obtain⟨D,H,l1,l2,l3⟩:=hp rfl;have K:=zRY ok.2.1;have k:=tk0 D ok.1 (t:=j.aX) (by omega);by_cases h:j.aX= [];rw[h];rfl;have O:=eU.2 h;have T:decide ((j.aX.length:Int)=0)=false:=by simp;omega
 rw[T,dD,iK,dS,xB,zPC D ok.1 H K _ k k,zA,eY];simp only[dA,iJ];cases hw:zKH (wT j.Norm j.Collation j.Options j.aX) with
 | false=>rfl
 | true=>
  rw[dD,cN,zW9 D ok.1 H K _ k (by omega) (by simp),zA,yJD h hw,zK];have i0:yD [mkR 0 (j.aX.length:Int)] (0:Int)=some (mkR 0 (j.aX.length:Int)):=rfl;have Y:decide ((([mkR 0 (j.aX.length:Int)]:List Range).length:Int)=1)=true:=rfl;have Z:decide (mkR 0 (j.aX.length:Int)=({Lo:=0,Hi:=(j.aX.length:Int)}:Range))=true:=fX rfl;rw[Y,xB,i0,zA,Z];rfl
open Go.AV
theorem sh1 {j:a8} (T:NSm j.Norm) (H:wO j.Norm) (Y:Sm j.Collation) (hg:∀g∈j.Collation.aF,g.bT.length<=MX) (hp:TOk j.Norm j.aX) (Z:j.bU.length<=12) (hc:j.bZ.length<=1000) {r:Range}
  (O:MtOk (mB j.Norm j.Collation j.Options j.aX j.bU) j.bZ j.bU.length 0 r):∀(m:Nat) (k:Int),k+(m:Int)=r.Hi+1->r.Lo<k->
  zF (λ(x:Int)=>xA r j (kS j.Norm j.Collation j.Options j.aX) x) k=some (.inl ())
 | 0,k,h,_=>by
  have e:decide (k<=r.Hi)=false:=by simp;omega
  exact zL (by simp only[xA,e,cN])
 | m+1,k,h,hk=>by
  have h0:=O.lo;have h1:=O.le;have e:decide (k<=r.Hi)=true:=by simp;omega
  have s2:slc j.bU r.Lo k=some (sl j.bU r.Lo k):=by unfold slc;rw[dG (by omega)];rfl
  have ih:=sh1 T H Y hg hp Z hc O m (k+1) (by omega) (by omega);have ac:wi (k+1)=k+1:=xN (by omega) (by omega);have hw:=zW8 T H Y hg Z ({Lo:=r.Lo,Hi:=k}:Range);have K:decide (0<=({Lo:=r.Lo,Hi:=k}:Range).Lo/\({Lo:=r.Lo,Hi:=k}:Range).Lo<=({Lo:=r.Lo,Hi:=k}:Range).Hi/\({Lo:=r.Lo,Hi:=k}:Range).Hi<=(j.bU.length:Int))=true:=by simp;omega
  rw[K,dK] at hw;have ab:w8 j.Norm j.Collation j.bU ({Lo:=r.Lo,Hi:=k}:Range)=some (whB j.Norm j.Collation j.bU r.Lo k):=hw;have D:xA r j (kS j.Norm j.Collation j.Options j.aX) k=cond (!((decide (k∈j.bZ)&&mB j.Norm j.Collation j.Options j.aX j.bU r.Lo k)==decide (k=r.Hi))) (some (.done (.inr false))) (some (.next (k+1))):=by
   unfold xA;rw[e,cO,s2,zA,z2H T H Y hg _ (tk3 T H Z _ _),zA,yI1 (by omega),zA,zK,yI6 Y _ (tk3 T H Z _ _),ac];unfold mB;by_cases q1:k∈j.bZ
   ·by_cases q2:wT j.Norm j.Collation j.Options (sl j.bU r.Lo k)=wT j.Norm j.Collation j.Options j.aX
    ·simp only[q1,q2,dA,xB,zA,zK,dK,ab]
    ·simp only[q1,q2,dA,dF,xB,vB,zA,zK,dK,dP]
   ·simp only[q1,dF,vB,zA,zK,dP]
  have hv:((decide (k∈j.bZ)&&mB j.Norm j.Collation j.Options j.aX j.bU r.Lo k)==decide (k=r.Hi))=true:=by
   by_cases q:k=r.Hi
   ·rw[q,fX O.ch,O.mt,fX rfl];rfl
   ·have:=O.sh k hk (by omega)
    have h3:(decide (k∈j.bZ)&&mB j.Norm j.Collation j.Options j.aX j.bU r.Lo k)=false:=by
     cases hq:(decide (k∈j.bZ)&&mB j.Norm j.Collation j.Options j.aX j.bU r.Lo k) with
     | false=>rfl
     | true=>simp only[dL,cZ] at hq;exact absurd hq this
    rw[h3,gw q];rfl
  rw[hv] at D;rw[zM (x':=k+1) D];exact ih
theorem sh0 {j:a8} (hn:NSm j.Norm) (T:wO j.Norm) (hs:Sm j.Collation) (hg:∀g∈j.Collation.aF,g.bT.length<=MX) (hp:TOk j.Norm j.aX) (ht:j.bU.length<=12) (hc:j.bZ.length<=1000) {A:List Range} (hA:A.length<=1000)
  (hr:∀r∈A,MtOk (mB j.Norm j.Collation j.Options j.aX j.bU) j.bZ j.bU.length 0 r):∀(m k:Nat) (D:Int),k+m=A.length->(∀r∈A.drop k,D<r.Lo)->(A.drop k).Pairwise (λa b=>a.Lo<b.Lo)->
  zF (λ(x:Int×Int)=>wD A j (kS j.Norm j.Collation j.Options j.aX) x.1 x.2) (D,(k:Int))=some (.inl ())
 | 0,k,D,h,_,_=>zL (by simp only[wD,kH (show A.length<=k by omega),cN])
 | m+1,k,D,h,O,H=>by
  have Y:k<A.length:=by omega
  rw[cW Y] at O H;rw[eZ] at H;have K:=hr _ (eF Y);have h2:=O A[k] List.mem_cons_self;have ih:=sh0 hn T hs hg hp ht hc hA hr m (k+1) A[k].Lo (by omega) H.1 H.2;have b1:decide (A[k].Lo<=D)=false:=by simp;omega
  have b2:decide (A[k].Hi<=A[k].Lo)=false:=by have:=K.hi;simp;omega
  have b3:decide ((j.bU.length:Int)<A[k].Hi)=false:=by have:=K.le;simp;omega
  have ao:=K.lo;have am:=K.hi;have an:=K.le;have aa:wi (A[k].Lo+1)=A[k].Lo+1:=xN (by omega) (by omega);have Z:=sh1 hn T hs hg hp ht hc K (A[k].Hi-A[k].Lo).toNat (A[k].Lo+1) (by omega) (by omega);rw[zM (x':=(A[k].Lo,((k+1:Nat):Int))) (by
   simp only[wD,yS Y,cO,zU Y,zA,zK,b1,b2,b3,iK,dS,xB,yI1 (show j.bZ.length<=1000000000 by omega),fX K.cl,dD,cN,aa,Z,eJ,zJ (k:=k) (by omega)])]
  exact ih
theorem law49_SearchShortest_true (j:a8) (ok:k5 j):zB8 j=some true:=by
 unfold zB8;obtain⟨f,O,T⟩:=z6B j;rw[O,zA,zSD];cases f with
 | false=>rfl
 | true=>
 obtain⟨h,D,Z,l2,l3⟩:=T rfl;have H:=zRY ok.2.1;have k:=tk0 h ok.1 (t:=j.aX) (by omega);obtain⟨a1,a2,a3⟩:=z6A j.Norm j.Collation j.Options j.aX j.bU j.bZ;have K:=sh0 h ok.1 D H k (by omega) (by omega) (by omega) a1 _ 0 (-1) (em _) (λr Y=>by have:=(a1 r (by simpa using Y)).lo;omega) (by simpa using a2)
 rw[dD,cN,z2H h ok.1 D H _ k,zA,zW9 h ok.1 D H _ k (by omega) (by omega),zA];rw[show ((0:Nat):Int)=0 from rfl] at K;rw[K];rfl
theorem dj0 {A G:List Range} (hA:A.length<=1000) (hG:G.length<=1000):∀(m v k:Nat) (e:Int),v+m=A.length->k<=G.length->G.drop k=zE1 e (A.drop v)->(A.drop v).Pairwise (λa b=>a.Lo<b.Lo)->
  zF (λ(x:Int×Int×Int)=>jO A G x.1 x.2.1 x.2.2) ((k:Int),e,(v:Int))=some (.inl (G.length:Int))
 | 0,v,k,e,h,hk,H,_=>by
  have:v=A.length:=by omega
  subst this;rw[gB,zE1,List.drop_eq_nil_iff] at H;have:k=G.length:=by omega
  subst this;exact zL (by simp only[jO,kH (dC _),cN])
 | m+1,v,k,e,h,hk,H,K=>by
  have O:v<A.length:=by omega
  rw[cW O] at H K;rw[eZ] at K;rw[zE1] at H;have T:wi ((v:Int)+1)=((v+1:Nat):Int):=zJ (by omega);have ab:wi ((k:Int)+1)=((k+1:Nat):Int):=zJ (by omega);by_cases Z:e<=A[v].Lo
  ·rw[dG Z] at H
   have D:k<G.length:=by
    rcases fF k G.length with h1 | h1
    ·exact h1
    ·rw[List.drop_eq_nil_iff.2 h1] at H;cases H
   rw[cW D,g8] at H;have Y:=dj0 hA hG m (v+1) (k+1) A[v].Hi (by omega) (by omega) H.2 K.2;have b1:decide (A[v].Lo<e)=false:=by simp;omega
   rw[zM (x':=(((k+1:Nat):Int),A[v].Hi,((v+1:Nat):Int))) (by
    simp only[jO,yS O,cO,zU O,zA,zK,yS D,xB,zU D,H.1,dA,fA,b1,cN,eJ,T,ab])]
   exact Y
  ·rw[dN Z] at H
   have Y:=dj0 hA hG m (v+1) k e (by omega) hk H K.2;have b2:decide (e<=A[v].Lo)=false:=by simp;omega
   by_cases D:k<G.length
   ·have aa:¬G[k]=A[v]:=λhq=>by
     rw[cW D] at H;have:=z0A _ _ _ _ H.symm;rw[hq] at this;exact Z this
    rw[zM (x':=((k:Int),e,((v+1:Nat):Int))) (by
     simp only[jO,yS O,cO,zU O,zA,zK,yS D,xB,zU D,aa,dF,fG,b2,cN,eJ,T])]
    exact Y
   ·rw[zM (x':=((k:Int),e,((v+1:Nat):Int))) (by
     simp only[jO,yS O,cO,zU O,zA,zK,kH (show G.length<=k by omega),vB,dP,b2,cN,eJ,T])]
    exact Y
theorem law49_SearchDisjoint_true (j:a8) (ok:k5 j):zB9 j=some true:=by
 unfold zB9;obtain⟨f,O,T⟩:=z6B j;rw[O,zA,zSD];cases f with
 | false=>rfl
 | true=>
 obtain⟨h,H,Z,l2,l3⟩:=T rfl;have K:=zRY ok.2.1;have D:=tk0 h ok.1 (t:=j.aX) (by omega);obtain⟨a1,a2,a3⟩:=z6A j.Norm j.Collation j.Options j.aX j.bU j.bZ;have Y:=yJC j.Norm j.Collation j.Options j.aX j.bU j.bZ;have k:=dj0 (A:=aM j.Norm j.Collation j.Options j.aX j.bU j.bZ) (G:=fM j.Norm j.Collation j.Options j.aX j.bU j.bZ) (by omega) (by omega) _ 0 0 0 (em _) (by omega) rfl (by simpa using a2);rw[show ((0:Nat):Int)=0 from rfl] at k;rw[dD,cN,zW9 h ok.1 H K _ D (by omega) (by omega),zA,(zOQ h ok.1 H K j.Options D (t:=j.bU) (cuts:=j.bZ) (by omega) (by omega)).1,zA,k,zA];simp only[eJ,dA,zK,xB,zA,fA]
end Go.M


/- What the plain counterparts answer. Conditions: none. -/
import Derived.Test.YtjnpmmedmedokaaGreatDoorPu2
set_option linter.unusedSimpArgs false
set_option linter.unusedVariables false
set_option linter.unnecessarySimpa false
namespace Go.M
open Go.AV
theorem ySU (v:Int) (f g:Bool) (e:aP):col 0 (tr1 v f e)=col 0 (tr1 v g e):=by unfold tr1 zMT;by_cases D:v=1;simp[D];by_cases k:e.aD=true\/e.aS≠0;simp[D,k];have G:e.aS=0:=Classical.byContradiction λh=>k (.inr h);have H:¬e.aD=true:=λh=>k (.inl h);cases f<;>cases g<;>simp[D,G,H,col]
theorem yBC (v:Int):∀(l:List aP) (f g:Bool),row 0 (trL v f l)=row 0 (trL v g l)
 | [],_,_=>rfl
 | e::l,f,g=>by
  show nz (col 0 (tr1 v f e))++row 0 (trL v (zMT f e) l)=nz (col 0 (tr1 v g e))++row 0 (trL v (zMT g e) l);rw[ySU v f g,yBC v l (zMT f e) (zMT g e)]
theorem z56 (v:Int):∀(a b:List aP) (f g:Bool),row 0 (trL v f (a++b))=row 0 (trL v f a)++row 0 (trL v g b)
 | [],b,f,g=>yBC v b f g
 | e::a,b,f,g=>by
  show nz (col 0 (tr1 v f e))++row 0 (trL v (zMT f e) (a++b))=(nz (col 0 (tr1 v f e))++row 0 (trL v (zMT f e) a))++row 0 (trL v g b);rw[z56 v a b (zMT f e) g,c8]
def r0 (o:Options) (l:List aP):List Int:=row 0 (trL (wD o).aD false l)
theorem z84 (o:Options) (a b:List aP):r0 o (a++b)=r0 o a++r0 o b:=z56 _ a b false false
theorem yI9 (o:Options) (l:List aP):(r0 o l).length<=l.length:=by have:=zU6 0 (trL (wD o).aD false l);rw[zRY] at this;exact this
theorem yJA (l:List aP) (o:Options):yD (wts l (wD o)) (0:Int)=some (r0 o l):=by have hb:=yIR (zQI o);unfold wts;obtain⟨k,h⟩:∃k,(wD o).aJ.toNat=k+1:=⟨(wD o).aJ.toNat-1,by omega⟩;rw[h];rfl
def fL (o:Options) (all:List aP) (k:Nat):List Int:=(List.range (all.length+1)).map λi=>if i<=k then ((r0 o (all.take i)).length:Int) else 0
theorem yJB (o:Options) (all:List aP) (k:Nat):(fL o all k).length=all.length+1:=by simp[fL]
theorem z85 (o:Options) (all:List aP) {k i:Nat} (h:i<=all.length) (hi:i<=k):yD (fL o all k) (i:Int)=some ((r0 o (all.take i)).length:Int):=by
 rw[zV (by rw[yJB];omega)]
 simp[fL,hi]
theorem yQN (o:Options) (all:List aP) {k:Nat}:(fL o all k).set (k+1) ((r0 o (all.take (k+1))).length:Int)=fL o all (k+1):=by apply fU;simp[fL];intro i D G;rw[List.getElem_set];by_cases e:k+1=i;subst e;simp[fL];rw[dK e];simp only[fL,List.getElem_map,List.getElem_range];by_cases h:i<=k;rw[dI h,dI (by omega)];rw[dK h,dK (by omega)]
theorem yUX (o:Options) (all:List aP):List.replicate (all.length+1) (0:Int)=fL o all 0:=by
 apply fU;simp[fL];intro i k D;simp only[fL,List.getElem_map,List.getElem_range,List.getElem_replicate];split;rename_i h;have:i=0:=by omega
 subst this;rfl;rfl
theorem nf0 (o:Options) {all:List aP} (Y:all.length<=18000):∀(m k:Nat),k+m=all.length->
  zE (λ(x:Int×(List Int))=>vQ all o x.1 x.2) ((k:Int),fL o all k)=some (fL o all all.length)
 | 0,k,h=>by
  have:k=all.length:=by omega
  subst this;exact zL (by simp only[vQ,kJ (dA _),cM])
 | m+1,k,h=>by
  have T:k<all.length:=by omega
  have O:wi ((k:Int)+1)=((k+1:Nat):Int):=zK (by omega);have Z:((all.take (k+1)).drop k).length<=18000:=by simp;omega
  have D:r0 o (all.take (k+1))=r0 o (all.take k)++r0 o ((all.take (k+1)).drop k):=by
   rw[<-z84];congr 1;have:=(et k (all.take (k+1))).symm
   rwa [List.take_take,hF (by omega)] at this
  have H:wi (((r0 o (all.take k)).length:Int)+((r0 o ((all.take (k+1)).drop k)).length:Int))=((r0 o (all.take (k+1))).length:Int):=by
   have K:=yI9 o (all.take (k+1));rw[D] at K ⊢;rw[cU] at K ⊢;rw[dZ] at K;rw[xY (by omega) (by omega)];omega
  have G:(k+1)<(fL o all k).length:=by rw[yJB];omega
  rw[zN (x':=(((k+1:Nat):Int),fL o all (k+1))) (by
   simp only[vQ,yU T,cN,z85 o all (show k<=all.length by omega) (dA k),zA,O,zSR (l:=all) (a:=k) (b:=k+1) (by omega) (by omega),zMU (show ((all.take (k+1)).drop k).length<=4000000000 by omega),yJA,H,zID G,yQN,zV G])]
  exact nf0 o Y m (k+1) (by omega)
section
variable (n:Norm) (c:Collation) (t:List Int)
noncomputable def hdB (x:Int):Bool:=decide ((eLm n c (t.take x.toNat)).length<=(eLm n c t).length)&&decide (eLm n c (t.take x.toNat)=(eLm n c t).take (eLm n c (t.take x.toNat)).length)
noncomputable def tlB (x:Int):Bool:=decide ((eLm n c (t.drop x.toNat)).length<=(eLm n c t).length)&&decide (eLm n c (t.drop x.toNat)=(eLm n c t).drop ((eLm n c t).length-(eLm n c (t.drop x.toNat)).length))
noncomputable def hdV (x:Int):Int:=if hdB n c t x=true then ((eLm n c (t.take x.toNat)).length:Int) else -1
noncomputable def tlV (x:Int):Int:=if tlB n c t x=true then ((eLm n c (t.drop x.toNat)).length:Int) else -1
def z86 (m:List (Int×Int)) (b:Bool) (x v:Int):List (Int×Int):=cond b (wX (wX m x (-1)) x v) (wX m x (-1))
end
theorem z57 (m:List (Int×Int)) (b:Bool) (x v y:Int):mgetD (z86 m b x v) y 0=if y=x then (if b=true then v else -1) else mgetD m y 0:=by
 unfold z86;cases b with
 | true=>simp only[cN,zQB];by_cases h:y=x<;>simp[h]
 | false=>simp only[cM,zQB];by_cases h:y=x<;>simp[h]
section
variable {n:Norm} {c:Collation} (hn:NSm n) (hok:vZ n) (hs:Sm c) (hg:∀g∈c.aF,g.bS.length<=MX)
include hn hok hs hg
theorem nf1 {t places:List Int} (D:t.length<=12) (ab:places.length<=1000) (hp:∀x∈places,0<=x/\x<=(t.length:Int)):∀(m k:Nat) (H T:List (Int×Int)),k+m=places.length->
  ∃K O,zE (λ(x:Int×(List (Int×Int))×(List (Int×Int)))=>vR places t n c (eLm n c t) x.1 x.2.1 x.2.2) ((k:Int),H,T)=some (K,O)/\
   ∀x,(mgetD K x 0=if x∈places.drop k then hdV n c t x else mgetD H x 0)/\(mgetD O x 0=if x∈places.drop k then tlV n c t x else mgetD T x 0)
 | 0,k,H,T,h=>by
  have:k=places.length:=by omega
  subst this;refine⟨H,T,zL (by simp only[vR,kJ (dA _),cM]),λx=>?_⟩;rw[gX];exact⟨by simp,by simp⟩
 | m+1,k,H,T,h=>by
  have Z:k<places.length:=by omega
  obtain⟨h0,h1⟩:=hp _ (eJ Z);have lA:=zNH (c:=c) hs (tk0 hn hok D);have lh:=zNH (c:=c) hs (tk1 hn hok D places[k].toNat);have lt:=zNH (c:=c) hs (tk2 hn hok D places[k].toNat);have s1:slc t 0 places[k]=some (t.take places[k].toNat):=by unfold slc;rw[dI (by omega)];simp
  have s2:slc t places[k] (t.length:Int)=some (t.drop places[k].toNat):=by unfold slc;rw[dI (by omega)];simp
  have Y:wi ((k:Int)+1)=((k+1:Nat):Int):=zK (by omega);obtain⟨K,O,hl,hq⟩:=nf1 D ab hp m (k+1) (z86 H (hdB n c t places[k]) places[k] ((eLm n c (t.take places[k].toNat)).length:Int)) (z86 T (tlB n c t places[k]) places[k] ((eLm n c (t.drop places[k].toNat)).length:Int)) (by omega);refine⟨K,O,?_,λx=>?_⟩
  ·rw[zN (x':=(((k+1:Nat):Int),z86 H (hdB n c t places[k]) places[k] ((eLm n c (t.take places[k].toNat)).length:Int),z86 T (tlB n c t places[k]) places[k] ((eLm n c (t.drop places[k].toNat)).length:Int)))]
   ·exact hl
   ·simp only[vR,yU Z,cN,zV Z,zA,s1,s2,z2F hn hok hs hg (tk1 hn hok D _),z2F hn hok hs hg (tk2 hn hok D _)]
    unfold hdB tlB z86;rw[zO];generalize eLm n c t=A at*;generalize eLm n c (t.take places[k].toNat)=U at*;generalize eLm n c (t.drop places[k].toNat)=V at*;by_cases G:U.length<=A.length<;>by_cases hv:V.length<=A.length
    all_goals
     have ac:decide ((U.length:Int)<=(A.length:Int))=decide (U.length<=A.length):=by congr 1;exact propext ⟨λh=>by omega,λh=>by omega⟩
     have ad:decide ((V.length:Int)<=(A.length:Int))=decide (V.length<=A.length):=by congr 1;exact propext ⟨λh=>by omega,λh=>by omega⟩
     rw[ac,ad]
    ·have hw:wi ((A.length:Int)-(V.length:Int))=((A.length-V.length:Nat):Int):=by rw[xY (by omega) (by omega)];omega
     simp only[G,hv,dB,xS,hw,zFE G,zIE (l:=A) (a:=A.length-V.length) (by omega),zA,zO,zS5 (show U.length<=1000000000 by omega),zS5 (show V.length<=1000000000 by omega),dM,Y];generalize decide (U=A.take U.length)=a;generalize decide (V=A.drop (A.length-V.length))=b;cases a<;>cases b<;>rfl
    ·simp only[G,hv,dB,dH,xS,vF,zFE G,zA,zO,zS5 (show U.length<=1000000000 by omega),dM,dR,cM,Y]
     generalize decide (U=A.take U.length)=a;cases a<;>rfl
    ·have hw:wi ((A.length:Int)-(V.length:Int))=((A.length-V.length:Nat):Int):=by rw[xY (by omega) (by omega)];omega
     simp only[G,hv,dB,dH,xS,vF,hw,zIE (l:=A) (a:=A.length-V.length) (by omega),zA,zO,zS5 (show V.length<=1000000000 by omega),dM,dR,cM,Y];generalize decide (V=A.drop (A.length-V.length))=b;cases b<;>rfl
    ·simp only[G,hv,dH,vF,zA,zO,dR,cM,Y]
  ·rw[(hq x).1,(hq x).2,cY Z,z57,z57]
   simp only[dL];by_cases hx:x=places[k]
   ·subst hx
    simp only[true_or,dG];exact⟨by split<;>rfl,by split<;>rfl⟩
   ·simp only[hx,false_or,cV]
    exact⟨trivial,trivial⟩
structure FOk (n:Norm) (c:Collation) (o:Options) (p t places:List Int) (F:bP):Prop where
 no:F.norm=n
 co:F.bY=c
 op:F.b8=o
 te:F.text=t
 wa:F.wanted=wT n c o p
 el:F.bW=eLm n c t
 fi:F.b4=fL o (eLm n c t) (eLm n c t).length
 he:∀x∈places,mgetD F.b5 x 0=hdV n c t x
 ta:∀x∈places,mgetD F.b3 x 0=tlV n c t x
theorem ySX (o:Options) {p t places:List Int} (h:TOk n p) (D:t.length<=12) (k:places.length<=1000) (hp:∀x∈places,0<=x/\x<=(t.length:Int)):
  ∃F,zCW n c o p t places=some (if zMW (wT n c o p)=true then some F else none)/\FOk n c o p t places F:=by
 have lp:=zNH (c:=c) hs h;have lA:=zNH (c:=c) hs (tk0 hn hok D);have l4:=zU9 n c o p;obtain⟨H,T,O,Y⟩:=nf1 hn hok hs hg D k hp places.length 0 [] [] (by omega);have K:=nf0 o lA (eLm n c t).length 0 (by omega);rw[show ((0:Nat):Int)=0 from rfl] at K O;have Z:mkM (0:Int) (wi (((eLm n c t).length:Int)+1))=some (fL o (eLm n c t) 0):=by
  rw[zK (by omega),z1O (by omega),yUX]
 refine⟨{norm:=n,bY:=c,b8:=o,text:=t,wanted:=wT n c o p,bW:=eLm n c t,b4:=fL o (eLm n c t) (eLm n c t).length,b5:=H,b3:=T},?_,⟨rfl,rfl,rfl,rfl,rfl,rfl,rfl,λx G=>?_,λx G=>?_⟩⟩
 ·unfold zCW
  rw[z2F hn hok hs hg h,zA,zMU (by omega),zA];show ((jN (wT n c o p) (λx0=>zBH x0)).bind _)=_;rw[cfr (f:=λx0=>zBH x0) (by omega) (λr=>decide (0<(r.length:Int))) (λx=>rfl),zA];show (cond (!zMW (wT n c o p)) _ _)=_;cases zMW (wT n c o p) with
  | false=>rfl
  | true=>
   rw[dD,cM,z2F hn hok hs hg (tk0 hn hok D),zA,Z,zA,K,zA,O,zA];rfl
 ·have:=(Y x).1
  rw[d7,dI G] at this;exact this
 ·have:=(Y x).2
  rw[d7,dI G] at this;exact this
theorem ySY (o:Options) {p t places:List Int} (bd:TOk n p) (ht:t.length<=12) {F:bP} (D:FOk n c o p t places F) {lo hi:Int} (hl:lo∈places) (hh:hi∈places) (h1:0<=lo) (h2:lo<=hi) (h3:hi<=(t.length:Int)):
  xV F (mkR lo hi)=some (mB n c o p t lo hi):=by
 have e1:mgetD F.b5 (mkR lo hi).Lo 0=hdV n c t lo:=D.he lo hl;have e2:mgetD F.b3 (mkR lo hi).Hi 0=tlV n c t hi:=D.ta hi hh;have lA:=zNH (c:=c) hs (tk0 hn hok ht);have lU:=zNH (c:=c) hs (tk1 hn hok ht lo.toNat);have lV:=zNH (c:=c) hs (tk2 hn hok ht hi.toNat);have lM:=zNH (c:=c) hs (tk3 hn hok ht lo hi);have ah:=z2F hn hok hs hg (tk3 hn hok ht lo hi);have ak:slc t (mkR lo hi).Lo (mkR lo hi).Hi=some (sl t lo hi):=by show slc t lo hi=_;unfold slc;rw[dI (by omega)];rfl
 have Z:=yJA (eLm n c p) o;have al:=zU9 n c o p;unfold xV;rw[D.no,D.co,D.op,D.te,D.wa,D.el,D.fi,e1,e2,ak];unfold hdV tlV hdB tlB mB whB;have am:wT n c o (sl t lo hi)=wts (eLm n c (sl t lo hi)) (wD o):=rfl;rw[am];have an:wT n c o p=wts (eLm n c p) (wD o):=rfl;rw[an] at al ⊢;simp only[zA,ah];generalize eLm n c t=A at*;generalize eLm n c (t.take lo.toNat)=U at*;generalize eLm n c (t.drop hi.toNat)=V at*;generalize eLm n c (sl t lo hi)=M at*;by_cases hu:U.length<=A.length/\U=A.take U.length
 ·by_cases hv:V.length<=A.length/\V=A.drop (A.length-V.length)
  ·have q1:(decide (U.length<=A.length)&&decide (U=A.take U.length))=true:=by simp only[dE,cZ];exact hu
   have q2:(decide (V.length<=A.length)&&decide (V=A.drop (A.length-V.length)))=true:=by simp only[dE,cZ];exact hv
   have hw:wi ((A.length:Int)-(V.length:Int))=((A.length-V.length:Nat):Int):=by rw[xY (by omega) (by omega)];omega
   have n1:decide (((U.length:Nat):Int)<0)=false:=by simp
   have n2:decide (((V.length:Nat):Int)<0)=false:=by simp
   simp only[q1,q2,dG,hw,zO,n1,n2,Bool.or_self,eY];by_cases bc:U.length+V.length<=A.length
   ·have n3:decide (((A.length-V.length:Nat):Int)<(U.length:Int))=false:=by simp;omega
    obtain⟨N,hN⟩:∃N,N=(A.take (A.length-V.length)).drop U.length:=⟨_,rfl⟩;have H:A.take (A.length-V.length)=U++N:=by
     rw[hN];have:=(et U.length (A.take (A.length-V.length))).symm
     rwa [List.take_take,hF (by omega),<-hu.2] at this
    have hA:A=U++N++V:=by
     rw[<-H];have:=(et (A.length-V.length) A).symm
     rwa [<-hv.2] at this
    have T:(U++M++V=A)↔N=M:=by
     constructor
     ·intro h
      rw[hA] at h;exact(List.append_cancel_left (List.append_cancel_right h)).symm
     ·intro h
      rw[<-h,<-hA]
    have az:N.length<=18000:=by
     have:=congrArg List.length hA;simp only[cU] at this;omega
    have f1:=z85 o A (k:=A.length) (i:=A.length-V.length) (by omega) (by omega);have f2:=z85 o A (k:=A.length) (i:=U.length) (by omega) (by omega);have hr:=yI9 o (A.take (A.length-V.length));rw[H,z84,cU,cU] at hr;rw[H,z84,cU] at f1;rw[<-hu.2] at f2;have ai:wi ((((r0 o U).length+(r0 o N).length:Nat):Int)-((r0 o U).length:Int))=((r0 o N).length:Int):=by rw[xY (by omega) (by omega)];omega
    have aj:slc A (U.length:Int) ((A.length-V.length:Nat):Int)=some N:=by rw[zSR (by omega) (by omega),hN]
    simp only[n3,dQ,xS,f1,f2,Z,zA,ai,eY,aj,zMU (show N.length<=4000000000 by omega),yQH (a:=wts N (wD o)) (b:=wts (eLm n c p) (wD o)) (by have:=zU7 N (wD o);omega) (λx hx=>by have:=zWZ hx;omega),zS5 (a:=N) (b:=M) (by omega)]
    have O:wts N (wD o)=wts (eLm n c p) (wD o)->(r0 o N).length=(r0 o (eLm n c p)).length:=λh=>by
     have k1:=yJA N o;rw[h,Z,fD] at k1;rw[k1]
    by_cases Y:wts N (wD o)=wts (eLm n c p) (wD o)
    ·have g2:decide (((r0 o N).length:Int)=((r0 o (eLm n c p)).length:Int))=true:=by rw[cZ,O Y]
     rw[g2,g6 Y];simp only[dD,cM];by_cases G:N=M
     ·rw[g6 G,g6 (T.2 G),<-G,g6 Y]
      rfl
     ·rw[gz G,gz (λh=>G (T.1 h)),fR]
    ·have K:(decide (wts M (wD o)=wts (eLm n c p) (wD o))&&decide (U++M++V=A))=false:=by
      by_cases G:N=M
      ·rw[<-G,gz Y,dR]
      ·rw[gz (λh=>G (T.1 h)),fR]
     rw[K,gz Y];cases decide (((r0 o N).length:Int)=((r0 o (eLm n c p)).length:Int))<;>rfl
   ·have n3:decide (((A.length-V.length:Nat):Int)<(U.length:Int))=true:=by simp;omega
    have K:decide (U++M++V=A)=false:=gz λh=>by
     have:=congrArg List.length h;simp only[cU] at this;omega
    simp only[n3,dD,vF,zA,im,cN,K,fR]
  ·have q2:(decide (V.length<=A.length)&&decide (V=A.drop (A.length-V.length)))=false:=by
    cases h:(decide (V.length<=A.length)&&decide (V=A.drop (A.length-V.length))) with
    | false=>rfl
    | true=>simp only[dE,cZ] at h;exact absurd h hv
   have K:decide (U++M++V=A)=false:=gz λh=>hv (by
    rw[<-h];refine⟨by simp only[cU];omega,?_⟩
    rw[cU,Nat.add_sub_cancel,List.drop_left])
   have n1:decide ((-1:Int)<0)=true:=by decide
   simp only[q2,dN,cV,zO,n1,Bool.or_true,im,dD,vF,zA,cN,K,fR]
 ·have q1:(decide (U.length<=A.length)&&decide (U=A.take U.length))=false:=by
   cases h:(decide (U.length<=A.length)&&decide (U=A.take U.length)) with
   | false=>rfl
   | true=>simp only[dE,cZ] at h;exact absurd h hu
  have K:decide (U++M++V=A)=false:=gz λh=>hu (by
   rw[<-h,c8];refine⟨by simp,?_⟩;rw[gW])
  have n1:decide ((-1:Int)<0)=true:=by decide
  simp only[q1,dN,cV,zO,n1,im,dD,vF,zA,cN,K,fR]
end
open Go.AV
theorem ca0 {rest:List Int} {lo:Int} (hl:rest.length<=1000) {G:Bool} {D:Nat} (hc:D<=rest.length) (hs:G=true->1<=D) (hn:G=false->D=rest.length):
  ∀(m k:Nat),k+m=D->(G=true->1<=m)->∃y,zE (λ(x:Int×Nat)=>xG rest (lo::rest) ((rest.map (mkR lo)).take D) G x.1 x.2) ((k:Int),k)=some y/\(y= .inl D\/y= .inr D)
 | 0,k,h,h1=>by
  have Z:G=false:=by cases G with | false=>rfl | true=>exact absurd (h1 rfl) (by omega)
  have:k=rest.length:=by have:=hn Z;omega
  subst this;exact⟨.inl D,zL (by simp only[xG,kJ (dA _),cM];rw[show rest.length=D by omega]),.inl rfl⟩
 | m+1,k,h,h1=>by
  have O:k<rest.length:=by omega
  have hy:yM ((rest.map (mkR lo)).take D) k (mkR lo rest[k])=some ():=by
   unfold yM;rw[dI];rw[d5,dI (by omega),dX,cO O];rfl
  have K:((rest.map (mkR lo)).take D).length=D:=by rw[dZ,e7];omega
  have T:yM ((rest.map (mkR lo)).take D) k ({Lo:=lo,Hi:=rest[k]}:Range)=some ():=hy;have i0:yD (lo::rest) (0:Int)=some lo:=rfl;cases H:goB G D k with
  | true=>
   have hm:G=true->1<=m:=λY=>by
    rcases Nat.eq_zero_or_pos m with h3 | h3
    ·subst h3 Y
     have:k+1=D:=by omega
     unfold goB at H;rw[this] at H;simp at H
    ·exact h3
   obtain⟨y,aa,ab⟩:=ca0 hl hc hs hn m (k+1) (by omega) hm;refine⟨y,?_,ab⟩;rw[zN (x':=(((k+1:Nat):Int),k+1)) (by simp only[xG,yU O,cN,zV O,i0,zA,T,K,H,dD,cM,zK (k:=k) (by omega)])];exact aa
  | false=>
   have Y:k+1=D:=by
    unfold goB at H;simp only[Bool.not_eq_false',dE] at H;exact iE H.2
   refine⟨.inr D,zL ?_,.inr rfl⟩;simp only[xG,yU O,cN,zV O,i0,zA,T,K,H,dQ];rw[Y]
theorem yM0 {rest:List Int} {lo:Int} (T:rest.length<=1000) {k:Bool} {h:Nat} (K:h<=rest.length) (D:k=true->1<=h) (Y:k=false->h=rest.length):zAP ((rest.map (mkR lo)).take h) k (lo::rest)=some ():=by
 unfold zAP;have H:slc (lo::rest) 1 (((lo::rest).length:Nat):Int)=some rest:=by
  have:=zIE (l:=lo::rest) (a:=1) (by simp);exact this
 obtain⟨y,G,Z⟩:=ca0 (lo:=lo) T K D Y h 0 (by omega) D;rw[show ((0:Nat):Int)=0 from rfl] at G;rw[H,zA,G,zA];have O:zV1 ((rest.map (mkR lo)).take h) h=some ():=by
  unfold zV1;rw[dI];rw[dZ,e7];omega
 rcases Z with rfl | rfl<;>exact O
theorem z58 {F:bP} {m:Int->Bool} {lo:Int} {acc:List Range} (T:acc.length<=1000):∀(rest:List Int),(∀hi∈rest,xV F (mkR lo hi)=some (m hi))->
  ∃D k,zMI (λ(s:List Range) (x:Range)=>xA F s x) acc (rest.map (mkR lo))=some (D,!k,acc++(match rest.find? m with
   | some hi=>[mkR lo hi]
   | none=>[]))/\D<=rest.length/\(k=true->1<=D)/\(k=false->D=rest.length)
 | [],_=>⟨0,false,by simp[zMI],dA _,(λh=>by cases h),(λ_=>rfl)⟩
 | hi::rest,h=>by
  have G:=h hi (by simp);rw[ez,iw];cases H:m hi with
  | true=>
   refine⟨1,true,?_,by simp,λ_=>dA _,λh=>by cases h⟩;rw[H] at G;unfold zMI;have:xA F acc (mkR lo hi)=some (false,acc++ [mkR lo hi]):=by
    unfold xA;rw[G,zA,cN,jX (by simp;omega),zA]
   rw[this];rfl
  | false=>
   rw[H] at G;obtain⟨D,k,K,h2,h3,O⟩:=z58 (m:=m) T rest (λx Z=>h x (by simp[Z]));refine⟨D+1,k,?_,by simp;omega,λ_=>by omega,λY=>by simp[O Y]⟩
   unfold zMI;have:xA F acc (mkR lo hi)=some (true,acc):=by
    unfold xA;rw[G,zA,cM]
   rw[this];simp only[K,eZ]
section
variable {n:Norm} {c:Collation} (hn:NSm n) (hok:vZ n) (hs:Sm c) (hg:∀g∈c.aF,g.bS.length<=MX)
include hn hok hs hg
omit hn hok hs hg in
theorem sa0 {F:bP} {m:Int->Int->Bool} {P:List Int} (hl:P.length<=1000) (O:∀(i j:Nat) (K:j<P.length) (ag:i<j),xV F (mkR (P[i]'(by omega)) P[j])=some (m (P[i]'(by omega)) P[j])):
  ∀(q k:Nat) (acc:List Range),k+q=P.length->acc.length<=k->zE (λ(x:Int×(List Range))=>zCE P F x.1 x.2) ((k:Int),acc)=some (acc++z82 mkR m (P.drop k))
 | 0,k,acc,h,_=>by
  have:k=P.length:=by omega
  subst this;rw[gX,z82,eA];exact zL (by simp only[zCE,kJ (dA _),cM])
 | q+1,k,acc,h,ha=>by
  have H:k<P.length:=by omega
  rw[cY H,z82];obtain⟨T,G,Y,Z,h3,h4⟩:=z58 (F:=F) (m:=m P[k]) (lo:=P[k]) (acc:=acc) (by omega) (P.drop (k+1)) (λhi hx=>by
   obtain⟨j,K,rfl⟩:=fA hx;rw[List.getElem_drop];rw[eH] at K;exact O k (k+1+j) (by omega) (by omega))
  have hc:=yM0 (rest:=P.drop (k+1)) (lo:=P[k]) (by rw[eH];omega) Z h3 h4
  have hd:slc P (k:Int) (P.length:Int)=some (P[k]::P.drop (k+1)):=by rw[zIE (by omega),cY H]
  have D:zCE P F (k:Int) acc=some (.next (((k+1:Nat):Int),acc++(match (P.drop (k+1)).find? (m P[k]) with
   | some hi=>[mkR P[k] hi]
   | none=>[]))):=by
   unfold zCE;have hr:∀(z:List Range),z=(P.drop (k+1)).map (mkR P[k])->zV5 (λa b=>({Lo:=a,Hi:=b}:Range)) (P[k]::P.drop (k+1))=z:=λz hz=>hz▸rfl;rw[yU H,cN,hd,zA,hr _ rfl,Y,zA];simp only[Bool.not_not,hc,zA];rw[zK (by omega)];cases G<;>rfl
  rw[zN (x':=(((k+1:Nat):Int),acc++(match (P.drop (k+1)).find? (m P[k]) with
   | some hi=>[mkR P[k] hi]
   | none=>[]))) D]
  rw[sa0 hl O q (k+1) _ (by omega) (by
   rw[cU];cases (P.drop (k+1)).find? (m P[k])<;>simp<;>omega),c8]
  rfl
omit hn hok hs hg in
theorem z2K {cuts:List Int} {N:Nat} {x:Int}:x∈zOJ cuts N↔x∈cuts/\0<=x/\x<=(N:Int):=by
 unfold zOJ;simp only[e6,eK,fH,cZ];constructor
 rintro⟨⟨k,H,rfl⟩,h⟩
 exact⟨h,by omega,by omega⟩
 rintro⟨h,D,G⟩
 exact⟨⟨x.toNat,by omega,by omega⟩,h⟩
omit hn hok hs hg in
theorem yQO (cuts:List Int) (N:Nat):(zOJ cuts N).Pairwise (· < ·):=by
 unfold zOJ;refine List.Pairwise.filter _ ?_;rw[List.pairwise_map];exact List.pairwise_lt_range.imp λh=>by omega
omit hn hok hs hg in
theorem yM1 (cuts:List Int) (N:Nat):(zOJ cuts N).length<=N+1:=by unfold zOJ;refine d8 (hU ..) ?_;simp
theorem z87 (o:Options) {p t cuts:List Int} (K:TOk n p) (O:t.length<=12) (Y:cuts.length<=1000):zDH n c o p t cuts=some (aM n c o p t cuts):=by
 unfold zDH;have Z:=yM1 cuts t.length;obtain⟨F,T,k⟩:=ySX hn hok hs hg o (p:=p) (t:=t) (places:=zOJ cuts t.length) K O (by omega) (λx hx=>(z2K.1 hx).2);rw[z2I Y,zA,T,zA];unfold aM;cases zMW (wT n c o p) with
 | false=>rfl
 | true=>
  rw[dI rfl,dI rfl];have G:=ig.1 (yQO cuts t.length);have h:=sa0 (F:=F) (m:=mB n c o p t) (P:=zOJ cuts t.length) (by omega) (λi j H D=>by
   have mi:=z2K.1 (eJ (l:=zOJ cuts t.length) (show i<_ by omega));have mj:=z2K.1 (eJ (l:=zOJ cuts t.length) H);exact ySY hn hok hs hg o K O k (eJ _) (eJ _) mi.2.1 (Int.le_of_lt (G i j (by omega) H D)) mj.2.2) (zOJ cuts t.length).length 0 [] (by omega) (by simp)
  rw[show ((0:Nat):Int)=0 from rfl,d7,dP,yI2] at h;show (zE _ (0,[])).bind _=_;rw[h];rfl
theorem zZ9 (o:Options) {p t cuts:List Int} (k:TOk n p) (D:t.length<=12) (h:cuts.length<=1000):wQ n c o p t cuts=zDI n c o p t cuts:=by unfold wQ zDI;rw[z87 hn hok hs hg o k D h,z2J hn hok hs hg o k D h];rfl
theorem z2L (o:Options) {p t h cuts:List Int} (D:TOk n p) (G:t.length<=12) (k:cuts.length<=1000):vK n c o p t h cuts=zAX n c o p t h cuts:=by unfold vK zAX;rw[zZ9 hn hok hs hg o D G k];rfl
end
open Go.AV
structure MtOk (m:Int->Int->Bool) (cuts:List Int) (size k:Nat) (r:Range):Prop where
 lo:(k:Int)<=r.Lo
 hi:r.Lo<r.Hi
 le:r.Hi<=(size:Int)
 cl:r.Lo∈cuts
 ch:r.Hi∈cuts
 mt:m r.Lo r.Hi=true
 sh:∀q:Int,r.Lo<q->q<r.Hi->¬(q∈cuts/\m r.Lo q=true)
theorem MtOk.mono {m:Int->Int->Bool} {cuts:List Int} {size k j:Nat} {r:Range} (D:j<=k) (h:MtOk m cuts size k r):MtOk m cuts size j r:=⟨by have:=h.lo;omega,h.hi,h.le,h.cl,h.ch,h.mt,h.sh⟩
theorem zW1 {p:Nat->Bool}:∀(n k q:Nat),(List.range' k n).find? p=some q->k<=q/\q<k+n/\p q=true/\∀j,k<=j->j<q->p j=false
 | 0,k,q,h=>by simp at h
 | n+1,k,q,h=>by
  rw[iH,iw] at h;cases D:p k with
  | true=>
   rw[D] at h;simp only[fD] at h;subst h;exact⟨dA _,by omega,D,λj G H=>by omega⟩
  | false=>
   rw[D] at h;obtain⟨G,H,K,O⟩:=zW1 n (k+1) q h;refine⟨by omega,by omega,K,λj h5 T=>?_⟩;rcases Nat.eq_or_lt_of_le h5 with rfl | h5
   exact D;exact O j h5 T
theorem yBD {m:Int->Int->Bool} {cuts:List Int} {size:Nat}:∀(n k:Nat),k+n=size->(∀r∈zL4 mkR m cuts size k n,MtOk m cuts size k r)/\(zL4 mkR m cuts size k n).Pairwise (λa b=>a.Lo<b.Lo)/\(zL4 mkR m cuts size k n).length<=n
 | 0,k,_=>⟨λr D=>by simp[zL4] at D,by simp[zL4],by simp[zL4]⟩
 | n+1,k,h=>by
  obtain⟨i1,i2,i3⟩:=yBD (m:=m) (cuts:=cuts) (size:=size) n (k+1) (by omega);have e:zL4 mkR m cuts size k (n+1)=(if decide ((k:Int)∈cuts)=true then
   match ((List.range' (k+1) (size-k)).find? λ(q:Nat)=>decide ((q:Int)∈cuts)&&m (k:Int) (q:Int)) with
   | some q=>[mkR (k:Int) (q:Int)]
   | none=>[]
   else [])++zL4 mkR m cuts size (k+1) n:=by
   unfold zL4;rw[iH,d9];rfl
  rw[e];by_cases K:(k:Int)∈cuts;rw[dI (g6 K)];cases hf:(List.range' (k+1) (size-k)).find? (λ(q:Nat)=>decide ((q:Int)∈cuts)&&m (k:Int) (q:Int)) with
  | none=>exact⟨λr D=>MtOk.mono (k:=k+1) (by omega) (i1 r (by simpa using D)),i2,d8 i3 (by omega)⟩
  | some q=>
   obtain⟨h1,h2,H,h4⟩:=zW1 _ _ _ hf;simp only[dE,cZ] at H;refine⟨λr D=>?_,?_,?_⟩;simp only[fN,dP,dL] at D;rcases D with rfl | D;refine⟨fY _,by show (k:Int)<(q:Int);omega,by show (q:Int)<=(size:Int);omega,K,H.1,H.2,λz O T=>?_⟩
   have z1:(k:Int)<z:=O;have z2:z<(q:Int):=T;have:=h4 z.toNat (by omega) (by omega);rw[show ((z.toNat:Nat):Int)=z by omega] at this
   rintro⟨Y,Z⟩
   have G:m (k:Int) z=true:=Z;rw[G,g6 Y] at this;cases this;exact MtOk.mono (k:=k+1) (by omega) (i1 r D);rw[fN,dP,fE];refine⟨λr D=>?_,i2⟩;have:=(i1 r D).lo;show (k:Int)<r.Lo;omega;simp only[fN,dP,dO];omega
  rw[dK (by simp[K]),dP];exact⟨λr D=>MtOk.mono (k:=k+1) (by omega) (i1 r D),i2,d8 i3 (by omega)⟩
theorem yBE (n:Norm) (c:Collation) (o:Options) (p t cuts:List Int):(∀r∈aM n c o p t cuts,MtOk (mB n c o p t) cuts t.length 0 r)/\(aM n c o p t cuts).Pairwise (λa b=>a.Lo<b.Lo)/\(aM n c o p t cuts).length<=t.length:=by unfold aM;split;exact yBD t.length 0 (by omega);exact⟨(λr h=>by cases h),List.Pairwise.nil,(by simp)⟩
def zKB:Int->List Range->List Range
 | _,[]=>[]
 | e,r::l=>if e<=r.Lo then r::zKB r.Hi l else zKB e l
theorem zMX:∀(l:List Range) (e:Int),(zKB e l).Sublist l
 | [],_=>List.Sublist.slnil
 | r::l,e=>by
  unfold zKB;split;exact(zMX l r.Hi).cons_cons r;exact(zMX l e).cons r
theorem fd0 {A:List Range} (H:A.length<=1000):∀(m k:Nat) (e:Int) (acc:List Range),k+m=A.length->acc.length<=k->
  zE (λ(x:Int×Int×(List Range))=>zCI A x.1 x.2.1 x.2.2) (e,(k:Int),acc)=some (acc++zKB e (A.drop k))
 | 0,k,e,acc,h,_=>by
  have:k=A.length:=by omega
  subst this;rw[gX,zKB,eA];exact zL (by simp only[zCI,kJ (dA _),cM])
 | m+1,k,e,acc,h,K=>by
  have D:k<A.length:=by omega
  rw[cY D,zKB];by_cases G:e<=A[k].Lo
  ·rw[zN (x':=(A[k].Hi,((k+1:Nat):Int),acc++ [A[k]])) (by simp only[zCI,yU D,cN,zV D,zA,G,dB,jX (l:=acc) (m:=[A[k]]) (by simp;omega),zK (k:=k) (by omega)])]
   rw[fd0 H m (k+1) _ _ (by omega) (by simp;omega),dI G]
   simp
  ·rw[zN (x':=(e,((k+1:Nat):Int),acc)) (by simp only[zCI,yU D,cN,zV D,zA,G,dH,cM,zK (k:=k) (by omega)])]
   rw[fd0 H m (k+1) _ _ (by omega) (by omega),dK G]
noncomputable def fM (n:Norm) (c:Collation) (o:Options) (p t cuts:List Int):List Range:=zKB 0 (aM n c o p t cuts)
def yM2 (t w:List Int):Int->List Int->List Range->List Int
 | e,acc,[]=>acc++t.drop e.toNat
 | e,acc,r::l=>yM2 t w r.Hi (acc++sl t e r.Lo++w) l
def flw (size:Int):Int->List Range->Prop
 | _,[]=>True
 | e,r::l=>e<=r.Lo/\r.Lo<=r.Hi/\r.Hi<=size/\flw size r.Hi l
theorem zQJ {size:Int}:∀(l:List Range) (e:Int),(∀r∈l,r.Lo<r.Hi/\r.Hi<=size)->flw size e (zKB e l)
 | [],_,_=>trivial
 | r::l,e,h=>by
  unfold zKB;split;rename_i k;have:=h r (by simp);exact⟨k,Int.le_of_lt this.1,this.2,zQJ l r.Hi λx k=>h x (by simp[k])⟩;exact zQJ l e λx k=>h x (by simp[k])
theorem rp0 {A:List Range} {t w:List Int} (hA:A.length<=1000) (ht:t.length<=1000) (hw:w.length<=1000):∀(m k:Nat) (e:Int) (acc:List Int),k+m=A.length->acc.length<=2000*k->0<=e->e<=(t.length:Int)->flw (t.length:Int) e (A.drop k)->
  ∃y,zE (λ(x:Int×Int×(List Int))=>zBA A t w x.1 x.2.1 x.2.2) (e,(k:Int),acc)=some y/\0<=y.1/\y.1<=(t.length:Int)/\y.2.length<=2000*A.length/\y.2++t.drop y.1.toNat=yM2 t w e acc (A.drop k)
 | 0,k,e,acc,h,K,G,H,_=>by
  have:k=A.length:=by omega
  subst this;rw[gX,yM2];exact⟨(e,acc),zL (by simp only[zBA,kJ (dA _),cM]),G,H,K,rfl⟩
 | m+1,k,e,acc,h,K,G,H,O=>by
  have D:k<A.length:=by omega
  rw[cY D] at O ⊢;obtain⟨f1,f2,T,Y⟩:=O;have s2:slc t e A[k].Lo=some (sl t e A[k].Lo):=by unfold slc;rw[dI (by omega)];rfl
  have l2:(sl t e A[k].Lo).length<=t.length:=by unfold sl;rw[eH,dZ];omega
  obtain⟨y,Z,g2,g3,g4,g5⟩:=rp0 hA ht hw m (k+1) A[k].Hi (acc++sl t e A[k].Lo++w) (by omega) (by simp only[cU];omega) (by omega) T Y
  refine⟨y,?_,g2,g3,g4,g5⟩;rw[zN (x':=(A[k].Hi,((k+1:Nat):Int),acc++sl t e A[k].Lo++w)) (by simp only[zBA,yU D,cN,zV D,zA,s2,jX (l:=acc) (m:=sl t e A[k].Lo) (by omega),jX (l:=acc++sl t e A[k].Lo) (m:=w) (by simp only[cU];omega),zK (k:=k) (by omega)])]
  exact Z
section
variable {n:Norm} {c:Collation} (hn:NSm n) (hok:vZ n) (hs:Sm c) (hg:∀g∈c.aF,g.bS.length<=MX)
include hn hok hs hg
theorem zW2 (o:Options) {p t cuts:List Int} (D:TOk n p) (G:t.length<=12) (k:cuts.length<=1000):wQ n c o p t cuts=some (fM n c o p t cuts)/\zDI n c o p t cuts=some (fM n c o p t cuts):=by
 have H:=(yBE n c o p t cuts).2.2;have h:=fd0 (A:=aM n c o p t cuts) (by omega) _ 0 0 [] (eE _) (by simp);rw[show ((0:Nat):Int)=0 from rfl,d7,dP] at h;have:zDI n c o p t cuts=some (fM n c o p t cuts):=by
  unfold zDI;rw[z2J hn hok hs hg o D G k,zA,h];rfl
 exact⟨(zZ9 hn hok hs hg o D G k).trans this,this⟩
theorem zW3 (o:Options) {p t w cuts:List Int} (O:TOk n p) (T:t.length<=12) (Z:w.length<=1000) (K:cuts.length<=1000):∃h,vK n c o p t w cuts=some h/\zAX n c o p t w cuts=some h/\h.length<=1000000/\h=yM2 t w 0 [] (fM n c o p t cuts):=by
 obtain⟨a1,a2,a3⟩:=yBE n c o p t cuts;have hl:=(zMX (aM n c o p t cuts) 0).length_le;have D:=zQJ (size:=(t.length:Int)) (aM n c o p t cuts) 0 λr k=>⟨(a1 r k).hi,(a1 r k).le⟩;have Y:(fM n c o p t cuts).length<=12:=by unfold fM;omega
 obtain⟨y,G,g2,g3,g4,H⟩:=rp0 (A:=fM n c o p t cuts) (t:=t) (w:=w) (by omega) (by omega) Z _ 0 0 [] (eE _) (by simp) (fY 0) (by omega) (by rw[d7];exact D)
 rw[show ((0:Nat):Int)=0 from rfl] at G;rw[d7] at H;have s3:slc t y.1 (t.length:Int)=some (t.drop y.1.toNat):=by unfold slc;rw[dI (by omega)];simp
 have hd:(t.drop y.1.toNat).length<=t.length:=by rw[eH];omega
 have k:zAX n c o p t w cuts=some (y.2++t.drop y.1.toNat):=by
  unfold zAX;rw[(zW2 hn hok hs hg o O T K).2,zA,G,zA,s3,zA,jX (by omega),zA]
 refine⟨_,(z2L hn hok hs hg o O T K).trans k,k,?_,H⟩;rw[cU];omega
end
open Go.AV
def cA:Collation:={aB:=[{aW:=[65],aU:=[{aS:=5,aL:=32,aO:=8,aD:=false}]},{aW:=[97],aU:=[{aS:=5,aL:=32,aO:=2,aD:=false}]},{aW:=[769],aU:=[{aS:=0,aL:=40,aO:=2,aD:=false}]}],aF:=[],bJ:=64448,bA:=32,bI:=2}
def oA:Options:={aJ:=1,aD:=1,aQ:=false,aT:=false}
theorem z88:Sm cA:=⟨by decide,by decide,by decide,by decide⟩
theorem z89:∀g∈cA.aF,g.bS.length<=MX:=λg h=>by cases h
theorem ySZ (t:List Int) (h:∀x∈t,syl x=false):zJ7 nZ false t=t:=by unfold zJ7;rw[yIY];refine yAP λe k=>?_;have D:=h e k;unfold fu exF;show hdE e= [e];unfold hdE;rw[D];rfl
theorem yBF:∀(t:List Int),rsE (clE []) t []=t
 | []=>rfl
 | x::t=>by
  have h:clE [] x=0:=rfl;unfold rsE;rw[dI h,yBF t];rfl
theorem yM3 (t:List Int):csE (clE []) t=t:=by rw[yH4 (key:=clE []) (λx=>fY 0),yBF]
theorem elZ (t:List Int) (h:∀x∈t,syl x=false):eLm nZ cA t=(wk cA [] t).1:=by unfold eLm zGL;rw[ySZ t h,yIY,ySL];show (wk cA [] (csE (clE []) t)).1=_;rw[yM3]
noncomputable def stZ (t:List Int):List aP:=(wk cA [] t).1
noncomputable def wZ (t:List Int):List (List Int):=wts (stZ t) oA
noncomputable def mZ (p t:List Int) (lo hi:Int):Bool:=decide (wZ (sl t lo hi)=wZ p)&&decide (stZ (t.take lo.toNat)++stZ (sl t lo hi)++stZ (t.drop hi.toNat)=stZ t)
noncomputable def aZ (p t cuts:List Int):List Range:=if zMW (wZ p)=true then zL4 mkR (mZ p t) cuts t.length 0 t.length else []
theorem noS {t:List Int} (h:t.all (λx=>!syl x)=true):∀x∈t,syl x=false:=λx k=>by simpa using dS.1 h x k
theorem wTZ {t:List Int} (h:∀x∈t,syl x=false):wT nZ cA oA t=wZ t:=by unfold wT wZ stZ;rw[elZ t h,show wD oA=oA from yN5 rfl]
theorem mBZ {p t:List Int} (G:∀x∈p,syl x=false) (k:∀x∈t,syl x=false) (lo hi:Int):mB nZ cA oA p t lo hi=mZ p t lo hi:=by have D:∀x∈sl t lo hi,syl x=false:=λx h=>k x (eC (eP h));unfold mB mZ whB;rw[wTZ D,wTZ G,elZ _ D,elZ t k,elZ (t.take lo.toNat) (λx h=>k x (eC h)),elZ (t.drop hi.toNat) (λx h=>k x (eP h))];rfl
theorem aMZ {p t:List Int} (h:∀x∈p,syl x=false) (k:∀x∈t,syl x=false) (cuts:List Int):aM nZ cA oA p t cuts=aZ p t cuts:=by unfold aM aZ;rw[wTZ h,show mB nZ cA oA p t=mZ p t from funext λlo=>funext λhi=>mBZ h k lo hi]
theorem a1:aZ [65] [97,769,98,65] [0,2,3,4]= [mkR 0 2,mkR 3 4]:=by decide
theorem a2:aZ [65] [97,769,98,65] [0,1,2,3,4]= [mkR 0 1,mkR 3 4]:=by decide
theorem a3:aZ [769] [97,769,98,65] [1,2]= []:=by decide
theorem w1:zMW (wZ [97])=true/\wZ [97]=wZ [65]:=by decide
theorem w2:zMW (wZ [])=false:=by decide
open Go.AV
theorem tZ (t:List Int) (h:t.length<=12):TOk nZ t:=tk0 z52 zTT h
theorem fZ {p t cuts:List Int} (h:p.length<=12) (k:t.length<=12) (G:cuts.length<=12) (D:p.all (λx=>!syl x)=true) (st:t.all (λx=>!syl x)=true):wQ nZ cA oA p t cuts=some (zKB 0 (aZ p t cuts)):=by rw[(zW2 z52 zTT z88 z89 oA (tZ p h) k (by omega)).1];unfold fM;rw[aMZ (noS D) (noS st)]
theorem z2M:zAU=some true:=by
 have K:wQ nZ cA oA [65] [97,769,98,65] [0,2,3,4]=some [mkR 0 2,mkR 3 4]:=by
  rw[fZ (by simp) (by simp) (by simp) (by decide) (by decide),a1];rfl
 have O:zDH nZ cA oA [65] [97,769,98,65] [0,1,2,3,4]=some [mkR 0 1,mkR 3 4]:=by
  rw[z87 z52 zTT z88 z89 oA (tZ [65] (by simp)) (by simp) (by simp),aMZ (noS (by decide)) (noS (by decide)),a2]
 have T:vK nZ cA oA [65] [97,769,98,65] [120] [0,2,3,4]=some [120,98,120]:=by
  obtain⟨ag,h1,_,_,k⟩:=zW3 z52 zTT z88 z89 oA (p:=[65]) (t:=[97,769,98,65]) (w:=[120]) (cuts:=[0,2,3,4]) (tZ [65] (by simp)) (by simp) (by simp) (by simp);unfold fM at k;rw[aMZ (noS (by decide)) (noS (by decide)),a1] at k;rw[h1,k];rfl
 have Y:uN nZ cA oA [97] [65]=some true:=by
  rw[zZ8 z52 zTT z88 z89 oA (tZ [97] (by simp)) (tZ [65] (by simp)),wTZ (noS (by decide)),wTZ (noS (by decide)),w1.1,g6 w1.2];rfl
 have Z:uN nZ cA oA [] []=some false:=by
  rw[zZ8 z52 zTT z88 z89 oA (tZ [] (by simp)) (tZ [] (by simp)),wTZ (noS (by decide)),w2];rfl
 have f6:uO nZ cA [97,769,98,65] (mkR 1 2)=some true:=by
  rw[z55 z52 zTT z88 z89 (by simp)];unfold whB;rw[elZ _ (noS (by decide)),elZ _ (noS (by decide)),elZ _ (noS (by decide)),elZ _ (noS (by decide))];exact congrArg some (show (_&&_)=true by decide)
 have f7:uO nZ cA [97,769,98,65] (mkR 2 1)=some false:=by
  rw[z55 z52 zTT z88 z89 (by simp)];rw[gz (by rintro⟨_,h,_⟩;have:(2:Int)<=1:=h;omega)]
  rfl
 have f8:wQ nZ cA oA [769] [97,769,98,65] [1,2]=some []:=by
  rw[fZ (by simp) (by simp) (by simp) (by decide) (by decide),a3];rfl
 have D:zAJ [mkR 0 2,mkR 3 4] [mkR 0 2,mkR 3 4]=some true:=by rw[z2H (by simp)];simp
 have G:zAJ [mkR 0 1,mkR 3 4] [mkR 0 1,mkR 3 4]=some true:=by rw[z2H (by simp)];simp
 have H:uY [120,98,120] [120,98,120]=some true:=by rw[zRP (by simp)];simp
 unfold zAU zHH;rw[zA];show ((wQ nZ cA oA [65] [97,769,98,65] [0,2,3,4]).bind _)=_;rw[K,zA];show ((zDH nZ cA oA [65] [97,769,98,65] [0,1,2,3,4]).bind _)=_;rw[O,zA];show ((vK nZ cA oA [65] [97,769,98,65] [120] [0,2,3,4]).bind _)=_;rw[T,zA];show ((zAJ [mkR 0 2,mkR 3 4] [mkR 0 2,mkR 3 4]).bind _)=_;rw[D,zA,zO];show ((zAJ [mkR 0 1,mkR 3 4] [mkR 0 1,mkR 3 4]).bind _)=_;rw[G,zA];show ((uY [120,98,120] [120,98,120]).bind _)=_;rw[H,zA];show ((uN nZ cA oA [97] [65]).bind _)=_;rw[Y,zA];show ((uN nZ cA oA [] []).bind _)=_;rw[Z,zA];show ((uO nZ cA [97,769,98,65] (mkR 1 2)).bind _)=_;rw[f6,zA];rw[zO];show ((gM true (uO nZ cA [97,769,98,65] (mkR 2 1))).bind _)=_;rw[xS,f7,zA];show ((wQ nZ cA oA [769] [97,769,98,65] [1,2]).bind _)=_;rw[f8,zA];rfl
theorem yJC (j:bK):∃b,zGY j=some b/\(b=true->NSm j.Norm/\Sm j.Collation/\j.bV.length<=4/\j.cf.length<=8/\j.cD.length<=8):=by
 obtain⟨b,hb,G⟩:=yL2 j.Norm;unfold zGY;rw[hb,zA,zO];cases b with
 | false=>exact⟨false,rfl,λh=>by cases h⟩
 | true=>
  simp only[xS,yG6,zA,zO,dM];cases H:smB j.Collation with
  | false=>exact⟨false,rfl,λh=>by cases h⟩
  | true=>
   simp only[xS,zA,dM,zFQ];by_cases k:(j.bV.length:Int)<=4;by_cases D:(j.cf.length:Int)<=8;simp only[k,D,dB,xS,zA,dM];exact⟨_,rfl,λh=>⟨G rfl,yPF H,by omega,by omega,by have:=of_decide_eq_true h;omega⟩⟩
   simp only[k,D,dB,dH,xS,vF,zA,dM,dR];exact⟨false,rfl,λh=>by cases h⟩;simp only[k,dH,vF,zA,dR];exact⟨false,rfl,λh=>by cases h⟩
theorem law49_SearchAlls_true (j:bK) (ok:wH j):zES j=some true:=by
 unfold zES;obtain⟨f,H,K⟩:=yJC j;rw[H,zA,z2M];cases f with
 | false=>rfl
 | true=>
 obtain⟨h,D,T,Y,Z⟩:=K rfl;have G:=z1S ok.2.1;have k:=tk0 h ok.1 (t:=j.bV) (by omega);have O:=(yBE j.Norm j.Collation j.Options j.bV j.cf j.cD).2.2;rw[dD,cM,z87 h ok.1 D G _ k (by omega) (by omega),zA,z2J h ok.1 D G _ k (by omega) (by omega),zA,z2H (by omega)];simp only[dB,zO,xS,zA,fF]
theorem yQP (n:Norm) (c:Collation) (o:Options) (p t cuts:List Int):(fM n c o p t cuts).length<=t.length:=by have:=(zMX (aM n c o p t cuts) 0).length_le;have:=(yBE n c o p t cuts).2.2;unfold fM;omega
theorem law49_SearchFinds_true (j:bK) (ok:wH j):zD3 j=some true:=by
 unfold zD3;obtain⟨f,G,K⟩:=yJC j;rw[G,zA,z2M];cases f with
 | false=>rfl
 | true=>
 obtain⟨h,D,T,Y,Z⟩:=K rfl;have H:=z1S ok.2.1;have k:=tk0 h ok.1 (t:=j.bV) (by omega);have O:=yQP j.Norm j.Collation j.Options j.bV j.cf j.cD;obtain⟨q1,q2⟩:=zW2 h ok.1 D H j.Options k (t:=j.cf) (cuts:=j.cD) (by omega) (by omega);rw[dD,cM,q1,zA,q2,zA,z2H (by omega)];simp only[dB,zO,xS,zA,fF]
theorem law49_SearchReplaces_true (j:bK) (w:List Int) (ok:wH j) {q:Prop} (_:q):zB6 j w=some true:=by
 unfold zB6;obtain⟨f,O,Y⟩:=yJC j;rw[O,zA,zO,z2M];cases f with
 | false=>rfl
 | true=>
 obtain⟨h,K,l1,l2,l3⟩:=Y rfl;have T:=z1S ok.2.1;have H:=tk0 h ok.1 (t:=j.bV) (by omega);simp only[dD,dQ,xS,zFQ,zA,eY];by_cases k:(w.length:Int)<=4;obtain⟨Z,D,G,h3,_⟩:=zW3 h ok.1 K T j.Options H (t:=j.cf) (w:=w) (cuts:=j.cD) (by omega) (by omega) (by omega);rw[g6 k,dD,cM,D,zA,G,zA,zRP (by omega)];simp only[dB,zO,xS,zA,fF];rw[gz k];rfl
open Go.AV
end Go.M


/- What the plain counterparts answer. Conditions: none. -/
import Derived.Test.YtjnpmmedmedokaaGreatDoorPu2
set_option linter.unusedSimpArgs false
set_option linter.unusedVariables false
set_option linter.unnecessarySimpa false
namespace Go.M
open Go.AV
theorem ySD (v:Int) (f g:Bool) (e:aP):col 0 (tr1 v f e)=col 0 (tr1 v g e):=by unfold tr1 zMP;by_cases D:v=1;simp[D];by_cases k:e.aD=true\/e.aS≠0;simp[D,k];have G:e.aS=0:=Classical.byContradiction λh=>k (.inr h);have H:¬e.aD=true:=λh=>k (.inl h);cases f<;>cases g<;>simp[D,G,H,col]
theorem yA1 (v:Int):∀(l:List aP) (f g:Bool),row 0 (trL v f l)=row 0 (trL v g l)
 | [],_,_=>rfl
 | e::l,f,g=>by
  show nz (col 0 (tr1 v f e))++row 0 (trL v (zMP f e) l)=nz (col 0 (tr1 v g e))++row 0 (trL v (zMP g e) l);rw[ySD v f g,yA1 v l (zMP f e) (zMP g e)]
theorem z5R (v:Int):∀(a b:List aP) (f g:Bool),row 0 (trL v f (a++b))=row 0 (trL v f a)++row 0 (trL v g b)
 | [],b,f,g=>yA1 v b f g
 | e::a,b,f,g=>by
  show nz (col 0 (tr1 v f e))++row 0 (trL v (zMP f e) (a++b))=(nz (col 0 (tr1 v f e))++row 0 (trL v (zMP f e) a))++row 0 (trL v g b);rw[z5R v a b (zMP f e) g,c9]
def r0 (o:Options) (l:List aP):List Int:=row 0 (trL (wE o).aD false l)
theorem z8P (o:Options) (a b:List aP):r0 o (a++b)=r0 o a++r0 o b:=z5R _ a b false false
theorem yIW (o:Options) (l:List aP):(r0 o l).length<=l.length:=by have:=zU1 0 (trL (wE o).aD false l);rw[zRU] at this;exact this
theorem yIX (l:List aP) (o:Options):yA (wts l (wE o)) (0:Int)=some (r0 o l):=by have hb:=yIC (zQF o);unfold wts;obtain⟨k,h⟩:∃k,(wE o).aJ.toNat=k+1:=⟨(wE o).aJ.toNat-1,by omega⟩;rw[h];rfl
def fL (o:Options) (all:List aP) (k:Nat):List Int:=(List.range (all.length+1)).map λi=>if i<=k then ((r0 o (all.take i)).length:Int) else 0
theorem yIY (o:Options) (all:List aP) (k:Nat):(fL o all k).length=all.length+1:=by simp[fL]
theorem z8Q (o:Options) (all:List aP) {k i:Nat} (h:i<=all.length) (hi:i<=k):yA (fL o all k) (i:Int)=some ((r0 o (all.take i)).length:Int):=by
 rw[zU (by rw[yIY];omega)]
 simp[fL,hi]
theorem yQA (o:Options) (all:List aP) {k:Nat}:(fL o all k).set (k+1) ((r0 o (all.take (k+1))).length:Int)=fL o all (k+1):=by apply ia;simp[fL];intro i D G;rw[List.getElem_set];by_cases e:k+1=i;subst e;simp[fL];rw[dN e];simp only[fL,List.getElem_map,List.getElem_range];by_cases h:i<=k;rw[dH h,dH (by omega)];rw[dN h,dN (by omega)]
theorem yUJ (o:Options) (all:List aP):List.replicate (all.length+1) (0:Int)=fL o all 0:=by
 apply ia;simp[fL];intro i k D;simp only[fL,List.getElem_map,List.getElem_range,List.getElem_replicate];split;rename_i h;have:i=0:=by omega
 subst this;rfl;rfl
theorem nf0 (o:Options) {all:List aP} (Y:all.length<=18000):∀(m k:Nat),k+m=all.length->
  zD (λ(x:Int×(List Int))=>vR all o x.1 x.2) ((k:Int),fL o all k)=some (fL o all all.length)
 | 0,k,h=>by
  have:k=all.length:=by omega
  subst this;exact zJ (by simp only[vR,kJ (dB _),cN])
 | m+1,k,h=>by
  have T:k<all.length:=by omega
  have O:wi ((k:Int)+1)=((k+1:Nat):Int):=zI (by omega);have Z:((all.take (k+1)).drop k).length<=18000:=by simp;omega
  have D:r0 o (all.take (k+1))=r0 o (all.take k)++r0 o ((all.take (k+1)).drop k):=by
   rw[<-z8P];congr 1;have:=(ez k (all.take (k+1))).symm
   rwa [List.take_take,gZ (by omega)] at this
  have H:wi (((r0 o (all.take k)).length:Int)+((r0 o ((all.take (k+1)).drop k)).length:Int))=((r0 o (all.take (k+1))).length:Int):=by
   have K:=yIW o (all.take (k+1));rw[D] at K ⊢;rw[cW] at K ⊢;rw[dZ] at K;rw[xK (by omega) (by omega)];omega
  have G:(k+1)<(fL o all k).length:=by rw[yIY];omega
  rw[zM (x':=(((k+1:Nat):Int),fL o all (k+1))) (by
   simp only[vR,yT T,cO,z8Q o all (show k<=all.length by omega) (dB k),zA,O,zSR (l:=all) (a:=k) (b:=k+1) (by omega) (by omega),zMQ (show ((all.take (k+1)).drop k).length<=4000000000 by omega),yIX,H,zIA G,yQA,zU G])]
  exact nf0 o Y m (k+1) (by omega)
section
variable (n:Norm) (c:Collation) (t:List Int)
noncomputable def hdB (x:Int):Bool:=decide ((eLm n c (t.take x.toNat)).length<=(eLm n c t).length)&&decide (eLm n c (t.take x.toNat)=(eLm n c t).take (eLm n c (t.take x.toNat)).length)
noncomputable def tlB (x:Int):Bool:=decide ((eLm n c (t.drop x.toNat)).length<=(eLm n c t).length)&&decide (eLm n c (t.drop x.toNat)=(eLm n c t).drop ((eLm n c t).length-(eLm n c (t.drop x.toNat)).length))
noncomputable def hdV (x:Int):Int:=if hdB n c t x=true then ((eLm n c (t.take x.toNat)).length:Int) else -1
noncomputable def tlV (x:Int):Int:=if tlB n c t x=true then ((eLm n c (t.drop x.toNat)).length:Int) else -1
def z8R (m:List (Int×Int)) (b:Bool) (x v:Int):List (Int×Int):=cond b (w7 (w7 m x (-1)) x v) (w7 m x (-1))
end
theorem z5S (m:List (Int×Int)) (b:Bool) (x v y:Int):mgetD (z8R m b x v) y 0=if y=x then (if b=true then v else -1) else mgetD m y 0:=by
 unfold z8R;cases b with
 | true=>simp only[cO,zP8];by_cases h:y=x<;>simp[h]
 | false=>simp only[cN,zP8];by_cases h:y=x<;>simp[h]
section
variable {n:Norm} {c:Collation} (hn:NSm n) (hok:wY n) (hs:Sm c) (hg:∀g∈c.aE,g.bT.length<=MX)
include hn hok hs hg
theorem nf1 {t places:List Int} (D:t.length<=12) (ab:places.length<=1000) (hp:∀x∈places,0<=x/\x<=(t.length:Int)):∀(m k:Nat) (H T:List (Int×Int)),k+m=places.length->
  ∃K O,zD (λ(x:Int×(List (Int×Int))×(List (Int×Int)))=>vS places t n c (eLm n c t) x.1 x.2.1 x.2.2) ((k:Int),H,T)=some (K,O)/\
   ∀x,(mgetD K x 0=if x∈places.drop k then hdV n c t x else mgetD H x 0)/\(mgetD O x 0=if x∈places.drop k then tlV n c t x else mgetD T x 0)
 | 0,k,H,T,h=>by
  have:k=places.length:=by omega
  subst this;refine⟨H,T,zJ (by simp only[vS,kJ (dB _),cN]),λx=>?_⟩;rw[gU];exact⟨by simp,by simp⟩
 | m+1,k,H,T,h=>by
  have Z:k<places.length:=by omega
  obtain⟨h0,h1⟩:=hp _ (eG Z);have lA:=zNA (c:=c) hs (tk0 hn hok D);have lh:=zNA (c:=c) hs (tk1 hn hok D places[k].toNat);have lt:=zNA (c:=c) hs (tk2 hn hok D places[k].toNat);have s1:slc t 0 places[k]=some (t.take places[k].toNat):=by unfold slc;rw[dH (by omega)];simp
  have s2:slc t places[k] (t.length:Int)=some (t.drop places[k].toNat):=by unfold slc;rw[dH (by omega)];simp
  have Y:wi ((k:Int)+1)=((k+1:Nat):Int):=zI (by omega);obtain⟨K,O,hl,hq⟩:=nf1 D ab hp m (k+1) (z8R H (hdB n c t places[k]) places[k] ((eLm n c (t.take places[k].toNat)).length:Int)) (z8R T (tlB n c t places[k]) places[k] ((eLm n c (t.drop places[k].toNat)).length:Int)) (by omega);refine⟨K,O,?_,λx=>?_⟩
  ·rw[zM (x':=(((k+1:Nat):Int),z8R H (hdB n c t places[k]) places[k] ((eLm n c (t.take places[k].toNat)).length:Int),z8R T (tlB n c t places[k]) places[k] ((eLm n c (t.drop places[k].toNat)).length:Int)))]
   ·exact hl
   ·simp only[vS,yT Z,cO,zU Z,zA,s1,s2,z16 hn hok hs hg (tk1 hn hok D _),z16 hn hok hs hg (tk2 hn hok D _)]
    unfold hdB tlB z8R;rw[zL];generalize eLm n c t=A at*;generalize eLm n c (t.take places[k].toNat)=U at*;generalize eLm n c (t.drop places[k].toNat)=V at*;by_cases G:U.length<=A.length<;>by_cases hv:V.length<=A.length
    all_goals
     have ac:decide ((U.length:Int)<=(A.length:Int))=decide (U.length<=A.length):=by congr 1;exact propext ⟨λh=>by omega,λh=>by omega⟩
     have ad:decide ((V.length:Int)<=(A.length:Int))=decide (V.length<=A.length):=by congr 1;exact propext ⟨λh=>by omega,λh=>by omega⟩
     rw[ac,ad]
    ·have hw:wi ((A.length:Int)-(V.length:Int))=((A.length-V.length:Nat):Int):=by rw[xK (by omega) (by omega)];omega
     simp only[G,hv,dC,xF,hw,zFB G,zIB (l:=A) (a:=A.length-V.length) (by omega),zA,zL,zS4 (show U.length<=1000000000 by omega),zS4 (show V.length<=1000000000 by omega),dK,Y];generalize decide (U=A.take U.length)=a;generalize decide (V=A.drop (A.length-V.length))=b;cases a<;>cases b<;>rfl
    ·simp only[G,hv,dC,dF,xF,vF,zFB G,zA,zL,zS4 (show U.length<=1000000000 by omega),dK,dQ,cN,Y]
     generalize decide (U=A.take U.length)=a;cases a<;>rfl
    ·have hw:wi ((A.length:Int)-(V.length:Int))=((A.length-V.length:Nat):Int):=by rw[xK (by omega) (by omega)];omega
     simp only[G,hv,dC,dF,xF,vF,hw,zIB (l:=A) (a:=A.length-V.length) (by omega),zA,zL,zS4 (show V.length<=1000000000 by omega),dK,dQ,cN,Y];generalize decide (V=A.drop (A.length-V.length))=b;cases b<;>rfl
    ·simp only[G,hv,dF,vF,zA,zL,dQ,cN,Y]
  ·rw[(hq x).1,(hq x).2,cY Z,z5S,z5S]
   simp only[dM];by_cases hx:x=places[k]
   ·subst hx
    simp only[true_or,dG];exact⟨by split<;>rfl,by split<;>rfl⟩
   ·simp only[hx,false_or,cX]
    exact⟨trivial,trivial⟩
structure FOk (n:Norm) (c:Collation) (o:Options) (p t places:List Int) (F:bQ):Prop where
 no:F.norm=n
 co:F.bZ=c
 op:F.cC=o
 te:F.text=t
 wa:F.wanted=wT n c o p
 el:F.bX=eLm n c t
 fi:F.b8=fL o (eLm n c t) (eLm n c t).length
 he:∀x∈places,mgetD F.b9 x 0=hdV n c t x
 ta:∀x∈places,mgetD F.b6 x 0=tlV n c t x
theorem ySG (o:Options) {p t places:List Int} (h:TOk n p) (D:t.length<=12) (k:places.length<=1000) (hp:∀x∈places,0<=x/\x<=(t.length:Int)):
  ∃F,zCS n c o p t places=some (if zK7 (wT n c o p)=true then some F else none)/\FOk n c o p t places F:=by
 have lp:=zNA (c:=c) hs h;have lA:=zNA (c:=c) hs (tk0 hn hok D);have l4:=zU4 n c o p;obtain⟨H,T,O,Y⟩:=nf1 hn hok hs hg D k hp places.length 0 [] [] (by omega);have K:=nf0 o lA (eLm n c t).length 0 (by omega);rw[show ((0:Nat):Int)=0 from rfl] at K O;have Z:mkM (0:Int) (wi (((eLm n c t).length:Int)+1))=some (fL o (eLm n c t) 0):=by
  rw[zI (by omega),z1D (by omega),yUJ]
 refine⟨{norm:=n,bZ:=c,cC:=o,text:=t,wanted:=wT n c o p,bX:=eLm n c t,b8:=fL o (eLm n c t) (eLm n c t).length,b9:=H,b6:=T},?_,⟨rfl,rfl,rfl,rfl,rfl,rfl,rfl,λx G=>?_,λx G=>?_⟩⟩
 ·unfold zCS
  rw[z16 hn hok hs hg h,zA,zMQ (by omega),zA];show ((jL (wT n c o p) (λx0=>zBD x0)).bind _)=_;rw[cfr (f:=λx0=>zBD x0) (by omega) (λr=>decide (0<(r.length:Int))) (λx=>rfl),zA];show (cond (!zK7 (wT n c o p)) _ _)=_;cases zK7 (wT n c o p) with
  | false=>rfl
  | true=>
   rw[dE,cN,z16 hn hok hs hg (tk0 hn hok D),zA,Z,zA,K,zA,O,zA];rfl
 ·have:=(Y x).1
  rw[d7,dH G] at this;exact this
 ·have:=(Y x).2
  rw[d7,dH G] at this;exact this
theorem ySH (o:Options) {p t places:List Int} (bd:TOk n p) (ht:t.length<=12) {F:bQ} (D:FOk n c o p t places F) {lo hi:Int} (hl:lo∈places) (hh:hi∈places) (h1:0<=lo) (h2:lo<=hi) (h3:hi<=(t.length:Int)):
  xT F (mkR lo hi)=some (mB n c o p t lo hi):=by
 have e1:mgetD F.b9 (mkR lo hi).Lo 0=hdV n c t lo:=D.he lo hl;have e2:mgetD F.b6 (mkR lo hi).Hi 0=tlV n c t hi:=D.ta hi hh;have lA:=zNA (c:=c) hs (tk0 hn hok ht);have lU:=zNA (c:=c) hs (tk1 hn hok ht lo.toNat);have lV:=zNA (c:=c) hs (tk2 hn hok ht hi.toNat);have lM:=zNA (c:=c) hs (tk3 hn hok ht lo hi);have ah:=z16 hn hok hs hg (tk3 hn hok ht lo hi);have ak:slc t (mkR lo hi).Lo (mkR lo hi).Hi=some (sl t lo hi):=by show slc t lo hi=_;unfold slc;rw[dH (by omega)];rfl
 have Z:=yIX (eLm n c p) o;have al:=zU4 n c o p;unfold xT;rw[D.no,D.co,D.op,D.te,D.wa,D.el,D.fi,e1,e2,ak];unfold hdV tlV hdB tlB mB whB;have am:wT n c o (sl t lo hi)=wts (eLm n c (sl t lo hi)) (wE o):=rfl;rw[am];have an:wT n c o p=wts (eLm n c p) (wE o):=rfl;rw[an] at al ⊢;simp only[zA,ah];generalize eLm n c t=A at*;generalize eLm n c (t.take lo.toNat)=U at*;generalize eLm n c (t.drop hi.toNat)=V at*;generalize eLm n c (sl t lo hi)=M at*;by_cases hu:U.length<=A.length/\U=A.take U.length
 ·by_cases hv:V.length<=A.length/\V=A.drop (A.length-V.length)
  ·have q1:(decide (U.length<=A.length)&&decide (U=A.take U.length))=true:=by simp only[dL,cZ];exact hu
   have q2:(decide (V.length<=A.length)&&decide (V=A.drop (A.length-V.length)))=true:=by simp only[dL,cZ];exact hv
   have hw:wi ((A.length:Int)-(V.length:Int))=((A.length-V.length:Nat):Int):=by rw[xK (by omega) (by omega)];omega
   have n1:decide (((U.length:Nat):Int)<0)=false:=by simp
   have n2:decide (((V.length:Nat):Int)<0)=false:=by simp
   simp only[q1,q2,dG,hw,zL,n1,n2,Bool.or_self,fa];by_cases bc:U.length+V.length<=A.length
   ·have n3:decide (((A.length-V.length:Nat):Int)<(U.length:Int))=false:=by simp;omega
    obtain⟨N,hN⟩:∃N,N=(A.take (A.length-V.length)).drop U.length:=⟨_,rfl⟩;have H:A.take (A.length-V.length)=U++N:=by
     rw[hN];have:=(ez U.length (A.take (A.length-V.length))).symm
     rwa [List.take_take,gZ (by omega),<-hu.2] at this
    have hA:A=U++N++V:=by
     rw[<-H];have:=(ez (A.length-V.length) A).symm
     rwa [<-hv.2] at this
    have T:(U++M++V=A)↔N=M:=by
     constructor
     ·intro h
      rw[hA] at h;exact(List.append_cancel_left (List.append_cancel_right h)).symm
     ·intro h
      rw[<-h,<-hA]
    have az:N.length<=18000:=by
     have:=congrArg List.length hA;simp only[cW] at this;omega
    have f1:=z8Q o A (k:=A.length) (i:=A.length-V.length) (by omega) (by omega);have f2:=z8Q o A (k:=A.length) (i:=U.length) (by omega) (by omega);have hr:=yIW o (A.take (A.length-V.length));rw[H,z8P,cW,cW] at hr;rw[H,z8P,cW] at f1;rw[<-hu.2] at f2;have ai:wi ((((r0 o U).length+(r0 o N).length:Nat):Int)-((r0 o U).length:Int))=((r0 o N).length:Int):=by rw[xK (by omega) (by omega)];omega
    have aj:slc A (U.length:Int) ((A.length-V.length:Nat):Int)=some N:=by rw[zSR (by omega) (by omega),hN]
    simp only[n3,dS,xF,f1,f2,Z,zA,ai,fa,aj,zMQ (show N.length<=4000000000 by omega),yP5 (a:=wts N (wE o)) (b:=wts (eLm n c p) (wE o)) (by have:=zU2 N (wE o);omega) (λx hx=>by have:=zWT hx;omega),zS4 (a:=N) (b:=M) (by omega)]
    have O:wts N (wE o)=wts (eLm n c p) (wE o)->(r0 o N).length=(r0 o (eLm n c p)).length:=λh=>by
     have k1:=yIX N o;rw[h,Z,fD] at k1;rw[k1]
    by_cases Y:wts N (wE o)=wts (eLm n c p) (wE o)
    ·have g2:decide (((r0 o N).length:Int)=((r0 o (eLm n c p)).length:Int))=true:=by rw[cZ,O Y]
     rw[g2,gz Y];simp only[dE,cN];by_cases G:N=M
     ·rw[gz G,gz (T.2 G),<-G,gz Y]
      rfl
     ·rw[gx G,gx (λh=>G (T.1 h)),fQ]
    ·have K:(decide (wts M (wE o)=wts (eLm n c p) (wE o))&&decide (U++M++V=A))=false:=by
      by_cases G:N=M
      ·rw[<-G,gx Y,dQ]
      ·rw[gx (λh=>G (T.1 h)),fQ]
     rw[K,gx Y];cases decide (((r0 o N).length:Int)=((r0 o (eLm n c p)).length:Int))<;>rfl
   ·have n3:decide (((A.length-V.length:Nat):Int)<(U.length:Int))=true:=by simp;omega
    have K:decide (U++M++V=A)=false:=gx λh=>by
     have:=congrArg List.length h;simp only[cW] at this;omega
    simp only[n3,dE,vF,zA,ic,cO,K,fQ]
  ·have q2:(decide (V.length<=A.length)&&decide (V=A.drop (A.length-V.length)))=false:=by
    cases h:(decide (V.length<=A.length)&&decide (V=A.drop (A.length-V.length))) with
    | false=>rfl
    | true=>simp only[dL,cZ] at h;exact absurd h hv
   have K:decide (U++M++V=A)=false:=gx λh=>hv (by
    rw[<-h];refine⟨by simp only[cW];omega,?_⟩
    rw[cW,Nat.add_sub_cancel,List.drop_left])
   have n1:decide ((-1:Int)<0)=true:=by decide
   simp only[q2,dP,cX,zL,n1,Bool.or_true,ic,dE,vF,zA,cO,K,fQ]
 ·have q1:(decide (U.length<=A.length)&&decide (U=A.take U.length))=false:=by
   cases h:(decide (U.length<=A.length)&&decide (U=A.take U.length)) with
   | false=>rfl
   | true=>simp only[dL,cZ] at h;exact absurd h hu
  have K:decide (U++M++V=A)=false:=gx λh=>hu (by
   rw[<-h,c9];refine⟨by simp,?_⟩;rw[gR])
  have n1:decide ((-1:Int)<0)=true:=by decide
  simp only[q1,dP,cX,zL,n1,ic,dE,vF,zA,cO,K,fQ]
end
open Go.AV
theorem ca0 {rest:List Int} {lo:Int} (hl:rest.length<=1000) {G:Bool} {D:Nat} (hc:D<=rest.length) (hs:G=true->1<=D) (hn:G=false->D=rest.length):
  ∀(m k:Nat),k+m=D->(G=true->1<=m)->∃y,zD (λ(x:Int×Nat)=>xE rest (lo::rest) ((rest.map (mkR lo)).take D) G x.1 x.2) ((k:Int),k)=some y/\(y= .inl D\/y= .inr D)
 | 0,k,h,h1=>by
  have Z:G=false:=by cases G with | false=>rfl | true=>exact absurd (h1 rfl) (by omega)
  have:k=rest.length:=by have:=hn Z;omega
  subst this;exact⟨.inl D,zJ (by simp only[xE,kJ (dB _),cN];rw[show rest.length=D by omega]),.inl rfl⟩
 | m+1,k,h,h1=>by
  have O:k<rest.length:=by omega
  have hy:yM ((rest.map (mkR lo)).take D) k (mkR lo rest[k])=some ():=by
   unfold yM;rw[dH];rw[d5,dH (by omega),dW,cS O];rfl
  have K:((rest.map (mkR lo)).take D).length=D:=by rw[dZ,eZ];omega
  have T:yM ((rest.map (mkR lo)).take D) k ({Lo:=lo,Hi:=rest[k]}:Range)=some ():=hy;have i0:yA (lo::rest) (0:Int)=some lo:=rfl;cases H:goB G D k with
  | true=>
   have hm:G=true->1<=m:=λY=>by
    rcases Nat.eq_zero_or_pos m with h3 | h3
    ·subst h3 Y
     have:k+1=D:=by omega
     unfold goB at H;rw[this] at H;simp at H
    ·exact h3
   obtain⟨y,aa,ab⟩:=ca0 hl hc hs hn m (k+1) (by omega) hm;refine⟨y,?_,ab⟩;rw[zM (x':=(((k+1:Nat):Int),k+1)) (by simp only[xE,yT O,cO,zU O,i0,zA,T,K,H,dE,cN,zI (k:=k) (by omega)])];exact aa
  | false=>
   have Y:k+1=D:=by
    unfold goB at H;simp only[Bool.not_eq_false',dL] at H;exact iy H.2
   refine⟨.inr D,zJ ?_,.inr rfl⟩;simp only[xE,yT O,cO,zU O,i0,zA,T,K,H,dS];rw[Y]
theorem yMQ {rest:List Int} {lo:Int} (T:rest.length<=1000) {k:Bool} {h:Nat} (K:h<=rest.length) (D:k=true->1<=h) (Y:k=false->h=rest.length):zAN ((rest.map (mkR lo)).take h) k (lo::rest)=some ():=by
 unfold zAN;have H:slc (lo::rest) 1 (((lo::rest).length:Nat):Int)=some rest:=by
  have:=zIB (l:=lo::rest) (a:=1) (by simp);exact this
 obtain⟨y,G,Z⟩:=ca0 (lo:=lo) T K D Y h 0 (by omega) D;rw[show ((0:Nat):Int)=0 from rfl] at G;rw[H,zA,G,zA];have O:zVX ((rest.map (mkR lo)).take h) h=some ():=by
  unfold zVX;rw[dH];rw[dZ,eZ];omega
 rcases Z with rfl | rfl<;>exact O
theorem z5T {F:bQ} {m:Int->Bool} {lo:Int} {acc:List Range} (T:acc.length<=1000):∀(rest:List Int),(∀hi∈rest,xT F (mkR lo hi)=some (m hi))->
  ∃D k,zMC (λ(s:List Range) (x:Range)=>j8 F s x) acc (rest.map (mkR lo))=some (D,!k,acc++(match rest.find? m with
   | some hi=>[mkR lo hi]
   | none=>[]))/\D<=rest.length/\(k=true->1<=D)/\(k=false->D=rest.length)
 | [],_=>⟨0,false,by simp[zMC],dB _,(λh=>by cases h),(λ_=>rfl)⟩
 | hi::rest,h=>by
  have G:=h hi (by simp);rw[eA,im];cases H:m hi with
  | true=>
   refine⟨1,true,?_,by simp,λ_=>dB _,λh=>by cases h⟩;rw[H] at G;unfold zMC;have:j8 F acc (mkR lo hi)=some (false,acc++ [mkR lo hi]):=by
    unfold j8;rw[G,zA,cO,jV (by simp;omega),zA]
   rw[this];rfl
  | false=>
   rw[H] at G;obtain⟨D,k,K,h2,h3,O⟩:=z5T (m:=m) T rest (λx Z=>h x (by simp[Z]));refine⟨D+1,k,?_,by simp;omega,λ_=>by omega,λY=>by simp[O Y]⟩
   unfold zMC;have:j8 F acc (mkR lo hi)=some (true,acc):=by
    unfold j8;rw[G,zA,cN]
   rw[this];simp only[K,eY]
section
variable {n:Norm} {c:Collation} (hn:NSm n) (hok:wY n) (hs:Sm c) (hg:∀g∈c.aE,g.bT.length<=MX)
include hn hok hs hg
omit hn hok hs hg in
theorem sa0 {F:bQ} {m:Int->Int->Bool} {P:List Int} (hl:P.length<=1000) (O:∀(i j:Nat) (K:j<P.length) (ag:i<j),xT F (mkR (P[i]'(by omega)) P[j])=some (m (P[i]'(by omega)) P[j])):
  ∀(q k:Nat) (acc:List Range),k+q=P.length->acc.length<=k->zD (λ(x:Int×(List Range))=>zCA P F x.1 x.2) ((k:Int),acc)=some (acc++z8L mkR m (P.drop k))
 | 0,k,acc,h,_=>by
  have:k=P.length:=by omega
  subst this;rw[gU,z8L,et];exact zJ (by simp only[zCA,kJ (dB _),cN])
 | q+1,k,acc,h,ha=>by
  have H:k<P.length:=by omega
  rw[cY H,z8L];obtain⟨T,G,Y,Z,h3,h4⟩:=z5T (F:=F) (m:=m P[k]) (lo:=P[k]) (acc:=acc) (by omega) (P.drop (k+1)) (λhi hx=>by
   obtain⟨j,K,rfl⟩:=fB hx;rw[List.getElem_drop];rw[eJ] at K;exact O k (k+1+j) (by omega) (by omega))
  have hc:=yMQ (rest:=P.drop (k+1)) (lo:=P[k]) (by rw[eJ];omega) Z h3 h4
  have hd:slc P (k:Int) (P.length:Int)=some (P[k]::P.drop (k+1)):=by rw[zIB (by omega),cY H]
  have D:zCA P F (k:Int) acc=some (.next (((k+1:Nat):Int),acc++(match (P.drop (k+1)).find? (m P[k]) with
   | some hi=>[mkR P[k] hi]
   | none=>[]))):=by
   unfold zCA;have hr:∀(z:List Range),z=(P.drop (k+1)).map (mkR P[k])->zVZ (λa b=>({Lo:=a,Hi:=b}:Range)) (P[k]::P.drop (k+1))=z:=λz hz=>hz▸rfl;rw[yT H,cO,hd,zA,hr _ rfl,Y,zA];simp only[Bool.not_not,hc,zA];rw[zI (by omega)];cases G<;>rfl
  rw[zM (x':=(((k+1:Nat):Int),acc++(match (P.drop (k+1)).find? (m P[k]) with
   | some hi=>[mkR P[k] hi]
   | none=>[]))) D]
  rw[sa0 hl O q (k+1) _ (by omega) (by
   rw[cW];cases (P.drop (k+1)).find? (m P[k])<;>simp<;>omega),c9]
  rfl
omit hn hok hs hg in
theorem z2A {cuts:List Int} {N:Nat} {x:Int}:x∈zOH cuts N↔x∈cuts/\0<=x/\x<=(N:Int):=by
 unfold zOH;simp only[fb,eM,fP,cZ];constructor
 rintro⟨⟨k,H,rfl⟩,h⟩
 exact⟨h,by omega,by omega⟩
 rintro⟨h,D,G⟩
 exact⟨⟨x.toNat,by omega,by omega⟩,h⟩
omit hn hok hs hg in
theorem yQB (cuts:List Int) (N:Nat):(zOH cuts N).Pairwise (· < ·):=by
 unfold zOH;refine List.Pairwise.filter _ ?_;rw[List.pairwise_map];exact List.pairwise_lt_range.imp λh=>by omega
omit hn hok hs hg in
theorem yMR (cuts:List Int) (N:Nat):(zOH cuts N).length<=N+1:=by unfold zOH;refine d8 (hF ..) ?_;simp
theorem z8S (o:Options) {p t cuts:List Int} (K:TOk n p) (O:t.length<=12) (Y:cuts.length<=1000):zDD n c o p t cuts=some (aM n c o p t cuts):=by
 unfold zDD;have Z:=yMR cuts t.length;obtain⟨F,T,k⟩:=ySG hn hok hs hg o (p:=p) (t:=t) (places:=zOH cuts t.length) K O (by omega) (λx hx=>(z2A.1 hx).2);rw[z18 Y,zA,T,zA];unfold aM;cases zK7 (wT n c o p) with
 | false=>rfl
 | true=>
  rw[dH rfl,dH rfl];have G:=hY.1 (yQB cuts t.length);have h:=sa0 (F:=F) (m:=mB n c o p t) (P:=zOH cuts t.length) (by omega) (λi j H D=>by
   have mi:=z2A.1 (eG (l:=zOH cuts t.length) (show i<_ by omega));have mj:=z2A.1 (eG (l:=zOH cuts t.length) H);exact ySH hn hok hs hg o K O k (eG _) (eG _) mi.2.1 (Int.le_of_lt (G i j (by omega) H D)) mj.2.2) (zOH cuts t.length).length 0 [] (by omega) (by simp)
  rw[show ((0:Nat):Int)=0 from rfl,d7,dO,yIN] at h;show (zD _ (0,[])).bind _=_;rw[h];rfl
theorem zZ0 (o:Options) {p t cuts:List Int} (k:TOk n p) (D:t.length<=12) (h:cuts.length<=1000):wD n c o p t cuts=zG5 n c o p t cuts:=by unfold wD zG5;rw[z8S hn hok hs hg o k D h,yA0 hn hok hs hg o k D h];rfl
theorem z2B (o:Options) {p t h cuts:List Int} (D:TOk n p) (G:t.length<=12) (k:cuts.length<=1000):uX n c o p t h cuts=zE7 n c o p t h cuts:=by unfold uX zE7;rw[zZ0 hn hok hs hg o D G k];rfl
end
open Go.AV
structure MtOk (m:Int->Int->Bool) (cuts:List Int) (size k:Nat) (r:Range):Prop where
 lo:(k:Int)<=r.Lo
 hi:r.Lo<r.Hi
 le:r.Hi<=(size:Int)
 cl:r.Lo∈cuts
 ch:r.Hi∈cuts
 mt:m r.Lo r.Hi=true
 sh:∀q:Int,r.Lo<q->q<r.Hi->¬(q∈cuts/\m r.Lo q=true)
theorem MtOk.mono {m:Int->Int->Bool} {cuts:List Int} {size k j:Nat} {r:Range} (D:j<=k) (h:MtOk m cuts size k r):MtOk m cuts size j r:=⟨by have:=h.lo;omega,h.hi,h.le,h.cl,h.ch,h.mt,h.sh⟩
theorem zWW {p:Nat->Bool}:∀(n k q:Nat),(List.range' k n).find? p=some q->k<=q/\q<k+n/\p q=true/\∀j,k<=j->j<q->p j=false
 | 0,k,q,h=>by simp at h
 | n+1,k,q,h=>by
  rw[iD,im] at h;cases D:p k with
  | true=>
   rw[D] at h;simp only[fD] at h;subst h;exact⟨dB _,by omega,D,λj G H=>by omega⟩
  | false=>
   rw[D] at h;obtain⟨G,H,K,O⟩:=zWW n (k+1) q h;refine⟨by omega,by omega,K,λj h5 T=>?_⟩;rcases Nat.eq_or_lt_of_le h5 with rfl | h5
   exact D;exact O j h5 T
theorem yA2 {m:Int->Int->Bool} {cuts:List Int} {size:Nat}:∀(n k:Nat),k+n=size->(∀r∈zLX mkR m cuts size k n,MtOk m cuts size k r)/\(zLX mkR m cuts size k n).Pairwise (λa b=>a.Lo<b.Lo)/\(zLX mkR m cuts size k n).length<=n
 | 0,k,_=>⟨λr D=>by simp[zLX] at D,by simp[zLX],by simp[zLX]⟩
 | n+1,k,h=>by
  obtain⟨i1,i2,i3⟩:=yA2 (m:=m) (cuts:=cuts) (size:=size) n (k+1) (by omega);have e:zLX mkR m cuts size k (n+1)=(if decide ((k:Int)∈cuts)=true then
   match ((List.range' (k+1) (size-k)).find? λ(q:Nat)=>decide ((q:Int)∈cuts)&&m (k:Int) (q:Int)) with
   | some q=>[mkR (k:Int) (q:Int)]
   | none=>[]
   else [])++zLX mkR m cuts size (k+1) n:=by
   unfold zLX;rw[iD,d9];rfl
  rw[e];by_cases K:(k:Int)∈cuts;rw[dH (gz K)];cases hf:(List.range' (k+1) (size-k)).find? (λ(q:Nat)=>decide ((q:Int)∈cuts)&&m (k:Int) (q:Int)) with
  | none=>exact⟨λr D=>MtOk.mono (k:=k+1) (by omega) (i1 r (by simpa using D)),i2,d8 i3 (by omega)⟩
  | some q=>
   obtain⟨h1,h2,H,h4⟩:=zWW _ _ _ hf;simp only[dL,cZ] at H;refine⟨λr D=>?_,?_,?_⟩;simp only[fH,dO,dM] at D;rcases D with rfl | D;refine⟨fV _,by show (k:Int)<(q:Int);omega,by show (q:Int)<=(size:Int);omega,K,H.1,H.2,λz O T=>?_⟩
   have z1:(k:Int)<z:=O;have z2:z<(q:Int):=T;have:=h4 z.toNat (by omega) (by omega);rw[show ((z.toNat:Nat):Int)=z by omega] at this
   rintro⟨Y,Z⟩
   have G:m (k:Int) z=true:=Z;rw[G,gz Y] at this;cases this;exact MtOk.mono (k:=k+1) (by omega) (i1 r D);rw[fH,dO,fA];refine⟨λr D=>?_,i2⟩;have:=(i1 r D).lo;show (k:Int)<r.Lo;omega;simp only[fH,dO,dR];omega
  rw[dN (by simp[K]),dO];exact⟨λr D=>MtOk.mono (k:=k+1) (by omega) (i1 r D),i2,d8 i3 (by omega)⟩
theorem yA3 (n:Norm) (c:Collation) (o:Options) (p t cuts:List Int):(∀r∈aM n c o p t cuts,MtOk (mB n c o p t) cuts t.length 0 r)/\(aM n c o p t cuts).Pairwise (λa b=>a.Lo<b.Lo)/\(aM n c o p t cuts).length<=t.length:=by unfold aM;split;exact yA2 t.length 0 (by omega);exact⟨(λr h=>by cases h),List.Pairwise.nil,(by simp)⟩
def zJ4:Int->List Range->List Range
 | _,[]=>[]
 | e,r::l=>if e<=r.Lo then r::zJ4 r.Hi l else zJ4 e l
theorem zMS:∀(l:List Range) (e:Int),(zJ4 e l).Sublist l
 | [],_=>List.Sublist.slnil
 | r::l,e=>by
  unfold zJ4;split;exact(zMS l r.Hi).cons_cons r;exact(zMS l e).cons r
theorem fd0 {A:List Range} (H:A.length<=1000):∀(m k:Nat) (e:Int) (acc:List Range),k+m=A.length->acc.length<=k->
  zD (λ(x:Int×Int×(List Range))=>zE6 A x.1 x.2.1 x.2.2) (e,(k:Int),acc)=some (acc++zJ4 e (A.drop k))
 | 0,k,e,acc,h,_=>by
  have:k=A.length:=by omega
  subst this;rw[gU,zJ4,et];exact zJ (by simp only[zE6,kJ (dB _),cN])
 | m+1,k,e,acc,h,K=>by
  have D:k<A.length:=by omega
  rw[cY D,zJ4];by_cases G:e<=A[k].Lo
  ·rw[zM (x':=(A[k].Hi,((k+1:Nat):Int),acc++ [A[k]])) (by simp only[zE6,yT D,cO,zU D,zA,G,dC,jV (l:=acc) (m:=[A[k]]) (by simp;omega),zI (k:=k) (by omega)])]
   rw[fd0 H m (k+1) _ _ (by omega) (by simp;omega),dH G]
   simp
  ·rw[zM (x':=(e,((k+1:Nat):Int),acc)) (by simp only[zE6,yT D,cO,zU D,zA,G,dF,cN,zI (k:=k) (by omega)])]
   rw[fd0 H m (k+1) _ _ (by omega) (by omega),dN G]
noncomputable def fM (n:Norm) (c:Collation) (o:Options) (p t cuts:List Int):List Range:=zJ4 0 (aM n c o p t cuts)
def yMS (t w:List Int):Int->List Int->List Range->List Int
 | e,acc,[]=>acc++t.drop e.toNat
 | e,acc,r::l=>yMS t w r.Hi (acc++sl t e r.Lo++w) l
def flw (size:Int):Int->List Range->Prop
 | _,[]=>True
 | e,r::l=>e<=r.Lo/\r.Lo<=r.Hi/\r.Hi<=size/\flw size r.Hi l
theorem zQG {size:Int}:∀(l:List Range) (e:Int),(∀r∈l,r.Lo<r.Hi/\r.Hi<=size)->flw size e (zJ4 e l)
 | [],_,_=>trivial
 | r::l,e,h=>by
  unfold zJ4;split;rename_i k;have:=h r (by simp);exact⟨k,Int.le_of_lt this.1,this.2,zQG l r.Hi λx k=>h x (by simp[k])⟩;exact zQG l e λx k=>h x (by simp[k])
theorem rp0 {A:List Range} {t w:List Int} (hA:A.length<=1000) (ht:t.length<=1000) (hw:w.length<=1000):∀(m k:Nat) (e:Int) (acc:List Int),k+m=A.length->acc.length<=2000*k->0<=e->e<=(t.length:Int)->flw (t.length:Int) e (A.drop k)->
  ∃y,zD (λ(x:Int×Int×(List Int))=>zEO A t w x.1 x.2.1 x.2.2) (e,(k:Int),acc)=some y/\0<=y.1/\y.1<=(t.length:Int)/\y.2.length<=2000*A.length/\y.2++t.drop y.1.toNat=yMS t w e acc (A.drop k)
 | 0,k,e,acc,h,K,G,H,_=>by
  have:k=A.length:=by omega
  subst this;rw[gU,yMS];exact⟨(e,acc),zJ (by simp only[zEO,kJ (dB _),cN]),G,H,K,rfl⟩
 | m+1,k,e,acc,h,K,G,H,O=>by
  have D:k<A.length:=by omega
  rw[cY D] at O ⊢;obtain⟨f1,f2,T,Y⟩:=O;have s2:slc t e A[k].Lo=some (sl t e A[k].Lo):=by unfold slc;rw[dH (by omega)];rfl
  have l2:(sl t e A[k].Lo).length<=t.length:=by unfold sl;rw[eJ,dZ];omega
  obtain⟨y,Z,g2,g3,g4,g5⟩:=rp0 hA ht hw m (k+1) A[k].Hi (acc++sl t e A[k].Lo++w) (by omega) (by simp only[cW];omega) (by omega) T Y
  refine⟨y,?_,g2,g3,g4,g5⟩;rw[zM (x':=(A[k].Hi,((k+1:Nat):Int),acc++sl t e A[k].Lo++w)) (by simp only[zEO,yT D,cO,zU D,zA,s2,jV (l:=acc) (m:=sl t e A[k].Lo) (by omega),jV (l:=acc++sl t e A[k].Lo) (m:=w) (by simp only[cW];omega),zI (k:=k) (by omega)])]
  exact Z
section
variable {n:Norm} {c:Collation} (hn:NSm n) (hok:wY n) (hs:Sm c) (hg:∀g∈c.aE,g.bT.length<=MX)
include hn hok hs hg
theorem zRW (o:Options) {p t cuts:List Int} (D:TOk n p) (G:t.length<=12) (k:cuts.length<=1000):wD n c o p t cuts=some (fM n c o p t cuts)/\zG5 n c o p t cuts=some (fM n c o p t cuts):=by
 have H:=(yA3 n c o p t cuts).2.2;have h:=fd0 (A:=aM n c o p t cuts) (by omega) _ 0 0 [] (eC _) (by simp);rw[show ((0:Nat):Int)=0 from rfl,d7,dO] at h;have:zG5 n c o p t cuts=some (fM n c o p t cuts):=by
  unfold zG5;rw[yA0 hn hok hs hg o D G k,zA,h];rfl
 exact⟨(zZ0 hn hok hs hg o D G k).trans this,this⟩
theorem z8T (o:Options) {p t w cuts:List Int} (O:TOk n p) (T:t.length<=12) (Z:w.length<=1000) (K:cuts.length<=1000):∃h,uX n c o p t w cuts=some h/\zE7 n c o p t w cuts=some h/\h.length<=1000000/\h=yMS t w 0 [] (fM n c o p t cuts):=by
 obtain⟨a1,a2,a3⟩:=yA3 n c o p t cuts;have hl:=(zMS (aM n c o p t cuts) 0).length_le;have D:=zQG (size:=(t.length:Int)) (aM n c o p t cuts) 0 λr k=>⟨(a1 r k).hi,(a1 r k).le⟩;have Y:(fM n c o p t cuts).length<=12:=by unfold fM;omega
 obtain⟨y,G,g2,g3,g4,H⟩:=rp0 (A:=fM n c o p t cuts) (t:=t) (w:=w) (by omega) (by omega) Z _ 0 0 [] (eC _) (by simp) (fV 0) (by omega) (by rw[d7];exact D)
 rw[show ((0:Nat):Int)=0 from rfl] at G;rw[d7] at H;have s3:slc t y.1 (t.length:Int)=some (t.drop y.1.toNat):=by unfold slc;rw[dH (by omega)];simp
 have hd:(t.drop y.1.toNat).length<=t.length:=by rw[eJ];omega
 have k:zE7 n c o p t w cuts=some (y.2++t.drop y.1.toNat):=by
  unfold zE7;rw[(zRW hn hok hs hg o O T K).2,zA,G,zA,s3,zA,jV (by omega),zA]
 refine⟨_,(z2B hn hok hs hg o O T K).trans k,k,?_,H⟩;rw[cW];omega
end
open Go.AV
def cA:Collation:={aB:=[{aX:=[65],aU:=[{aS:=5,aL:=32,aO:=8,aD:=false}]},{aX:=[97],aU:=[{aS:=5,aL:=32,aO:=2,aD:=false}]},{aX:=[769],aU:=[{aS:=0,aL:=40,aO:=2,aD:=false}]}],aE:=[],bK:=64448,bA:=32,bJ:=2}
def oA:Options:={aJ:=1,aD:=1,aQ:=false,aT:=false}
theorem z8U:Sm cA:=⟨by decide,by decide,by decide,by decide⟩
theorem z8V:∀g∈cA.aE,g.bT.length<=MX:=λg h=>by cases h
theorem ySI (t:List Int) (h:∀x∈t,syl x=false):zGM nZ false t=t:=by unfold zGM;rw[yIJ];refine z1U λe k=>?_;have D:=h e k;unfold fu exF;show hdE e= [e];unfold hdE;rw[D];rfl
theorem yA4:∀(t:List Int),rsE (clE []) t []=t
 | []=>rfl
 | x::t=>by
  have h:clE [] x=0:=rfl;unfold rsE;rw[dH h,yA4 t];rfl
theorem yMT (t:List Int):csE (clE []) t=t:=by rw[z1S (key:=clE []) (λx=>fV 0),yA4]
theorem elZ (t:List Int) (h:∀x∈t,syl x=false):eLm nZ cA t=(wk cA [] t).1:=by unfold eLm zC8;rw[ySI t h,yIJ,yR5];show (wk cA [] (csE (clE []) t)).1=_;rw[yMT]
noncomputable def stZ (t:List Int):List aP:=(wk cA [] t).1
noncomputable def wZ (t:List Int):List (List Int):=wts (stZ t) oA
noncomputable def mZ (p t:List Int) (lo hi:Int):Bool:=decide (wZ (sl t lo hi)=wZ p)&&decide (stZ (t.take lo.toNat)++stZ (sl t lo hi)++stZ (t.drop hi.toNat)=stZ t)
noncomputable def aZ (p t cuts:List Int):List Range:=if zK7 (wZ p)=true then zLX mkR (mZ p t) cuts t.length 0 t.length else []
theorem noS {t:List Int} (h:t.all (λx=>!syl x)=true):∀x∈t,syl x=false:=λx k=>by simpa using eD.1 h x k
theorem wTZ {t:List Int} (h:∀x∈t,syl x=false):wT nZ cA oA t=wZ t:=by unfold wT wZ stZ;rw[elZ t h,show wE oA=oA from yNQ rfl]
theorem mBZ {p t:List Int} (G:∀x∈p,syl x=false) (k:∀x∈t,syl x=false) (lo hi:Int):mB nZ cA oA p t lo hi=mZ p t lo hi:=by have D:∀x∈sl t lo hi,syl x=false:=λx h=>k x (eE (eP h));unfold mB mZ whB;rw[wTZ D,wTZ G,elZ _ D,elZ t k,elZ (t.take lo.toNat) (λx h=>k x (eE h)),elZ (t.drop hi.toNat) (λx h=>k x (eP h))];rfl
theorem aMZ {p t:List Int} (h:∀x∈p,syl x=false) (k:∀x∈t,syl x=false) (cuts:List Int):aM nZ cA oA p t cuts=aZ p t cuts:=by unfold aM aZ;rw[wTZ h,show mB nZ cA oA p t=mZ p t from funext λlo=>funext λhi=>mBZ h k lo hi]
theorem a1:aZ [65] [97,769,98,65] [0,2,3,4]= [mkR 0 2,mkR 3 4]:=by decide
theorem a2:aZ [65] [97,769,98,65] [0,1,2,3,4]= [mkR 0 1,mkR 3 4]:=by decide
theorem a3:aZ [769] [97,769,98,65] [1,2]= []:=by decide
theorem w1:zK7 (wZ [97])=true/\wZ [97]=wZ [65]:=by decide
theorem w2:zK7 (wZ [])=false:=by decide
open Go.AV
theorem tZ (t:List Int) (h:t.length<=12):TOk nZ t:=tk0 z5O zTO h
theorem fZ {p t cuts:List Int} (h:p.length<=12) (k:t.length<=12) (G:cuts.length<=12) (D:p.all (λx=>!syl x)=true) (st:t.all (λx=>!syl x)=true):wD nZ cA oA p t cuts=some (zJ4 0 (aZ p t cuts)):=by rw[(zRW z5O zTO z8U z8V oA (tZ p h) k (by omega)).1];unfold fM;rw[aMZ (noS D) (noS st)]
theorem z2C:zAT=some true:=by
 have K:wD nZ cA oA [65] [97,769,98,65] [0,2,3,4]=some [mkR 0 2,mkR 3 4]:=by
  rw[fZ (by simp) (by simp) (by simp) (by decide) (by decide),a1];rfl
 have O:zDD nZ cA oA [65] [97,769,98,65] [0,1,2,3,4]=some [mkR 0 1,mkR 3 4]:=by
  rw[z8S z5O zTO z8U z8V oA (tZ [65] (by simp)) (by simp) (by simp),aMZ (noS (by decide)) (noS (by decide)),a2]
 have T:uX nZ cA oA [65] [97,769,98,65] [120] [0,2,3,4]=some [120,98,120]:=by
  obtain⟨ag,h1,_,_,k⟩:=z8T z5O zTO z8U z8V oA (p:=[65]) (t:=[97,769,98,65]) (w:=[120]) (cuts:=[0,2,3,4]) (tZ [65] (by simp)) (by simp) (by simp) (by simp);unfold fM at k;rw[aMZ (noS (by decide)) (noS (by decide)),a1] at k;rw[h1,k];rfl
 have Y:vM nZ cA oA [97] [65]=some true:=by
  rw[zS5 z5O zTO z8U z8V oA (tZ [97] (by simp)) (tZ [65] (by simp)),wTZ (noS (by decide)),wTZ (noS (by decide)),w1.1,gz w1.2];rfl
 have Z:vM nZ cA oA [] []=some false:=by
  rw[zS5 z5O zTO z8U z8V oA (tZ [] (by simp)) (tZ [] (by simp)),wTZ (noS (by decide)),w2];rfl
 have f6:wW nZ cA [97,769,98,65] (mkR 1 2)=some true:=by
  rw[zWV z5O zTO z8U z8V (by simp)];unfold whB;rw[elZ _ (noS (by decide)),elZ _ (noS (by decide)),elZ _ (noS (by decide)),elZ _ (noS (by decide))];exact congrArg some (show (_&&_)=true by decide)
 have f7:wW nZ cA [97,769,98,65] (mkR 2 1)=some false:=by
  rw[zWV z5O zTO z8U z8V (by simp)];rw[gx (by rintro⟨_,h,_⟩;have:(2:Int)<=1:=h;omega)]
  rfl
 have f8:wD nZ cA oA [769] [97,769,98,65] [1,2]=some []:=by
  rw[fZ (by simp) (by simp) (by simp) (by decide) (by decide),a3];rfl
 have D:zBE [mkR 0 2,mkR 3 4] [mkR 0 2,mkR 3 4]=some true:=by rw[z8M (by simp)];simp
 have G:zBE [mkR 0 1,mkR 3 4] [mkR 0 1,mkR 3 4]=some true:=by rw[z8M (by simp)];simp
 have H:vW [120,98,120] [120,98,120]=some true:=by rw[zWF (by simp)];simp
 unfold zAT zHE;rw[zA];show ((wD nZ cA oA [65] [97,769,98,65] [0,2,3,4]).bind _)=_;rw[K,zA];show ((zDD nZ cA oA [65] [97,769,98,65] [0,1,2,3,4]).bind _)=_;rw[O,zA];show ((uX nZ cA oA [65] [97,769,98,65] [120] [0,2,3,4]).bind _)=_;rw[T,zA];show ((zBE [mkR 0 2,mkR 3 4] [mkR 0 2,mkR 3 4]).bind _)=_;rw[D,zA,zL];show ((zBE [mkR 0 1,mkR 3 4] [mkR 0 1,mkR 3 4]).bind _)=_;rw[G,zA];show ((vW [120,98,120] [120,98,120]).bind _)=_;rw[H,zA];show ((vM nZ cA oA [97] [65]).bind _)=_;rw[Y,zA];show ((vM nZ cA oA [] []).bind _)=_;rw[Z,zA];show ((wW nZ cA [97,769,98,65] (mkR 1 2)).bind _)=_;rw[f6,zA];rw[zL];show ((gM true (wW nZ cA [97,769,98,65] (mkR 2 1))).bind _)=_;rw[xF,f7,zA];show ((wD nZ cA oA [769] [97,769,98,65] [1,2]).bind _)=_;rw[f8,zA];rfl
theorem yIZ (j:bF):∃b,zGU j=some b/\(b=true->NSm j.Norm/\Sm j.Collation/\j.bL.length<=4/\j.bW.length<=8/\j.b5.length<=8):=by
 obtain⟨b,hb,G⟩:=yLV j.Norm;unfold zGU;rw[hb,zA,zL];cases b with
 | false=>exact⟨false,rfl,λh=>by cases h⟩
 | true=>
  simp only[xF,yGU,zA,zL,dK];cases H:smB j.Collation with
  | false=>exact⟨false,rfl,λh=>by cases h⟩
  | true=>
   simp only[xF,zA,dK,zI0];by_cases k:(j.bL.length:Int)<=4;by_cases D:(j.bW.length:Int)<=8;simp only[k,D,dC,xF,zA,dK];exact⟨_,rfl,λh=>⟨G rfl,yO3 H,by omega,by omega,by have:=of_decide_eq_true h;omega⟩⟩
   simp only[k,D,dC,dF,xF,vF,zA,dK,dQ];exact⟨false,rfl,λh=>by cases h⟩;simp only[k,dF,vF,zA,dQ];exact⟨false,rfl,λh=>by cases h⟩
theorem law49_SearchMatches_true (j:bF) (ok:wI j):zCF j=some true:=by
 unfold zCF;obtain⟨f,H,K⟩:=yIZ j;rw[H,zA,z2C];cases f with
 | false=>rfl
 | true=>
 obtain⟨h,D,O,T,Y⟩:=K rfl;have G:=z1H ok.2.1;have k:=tk0 h ok.1 (t:=j.bL) (by omega);have hb:=tk0 h ok.1 (t:=j.bW) (by omega);rw[dE,cN,zS5 h ok.1 D G _ k hb,zA,yDO h ok.1 D G _ k hb,zA];simp only[BEq.rfl,zL,xF,zA,fE]
theorem yQC (n:Norm) (c:Collation) (o:Options) (p t cuts:List Int):(fM n c o p t cuts).length<=t.length:=by have:=(zMS (aM n c o p t cuts) 0).length_le;have:=(yA3 n c o p t cuts).2.2;unfold fM;omega
theorem law49_SearchEquivalent_true (j:bF) (ok:wI j):zAR j=some true:=by
 unfold zAR;obtain⟨f,T,Z⟩:=yIZ j;rw[T,zA,z2C];cases f with
 | false=>rfl
 | true=>
 obtain⟨h,G,l1,l2,l3⟩:=Z rfl;have H:=z1H ok.2.1;have k:=tk0 h ok.1 (t:=j.bL) (by omega);have D:(zC8 j.Norm false j.bL).length<=900:=by rw[zLW];exact k.2
 have hb:TOk j.Norm (zC8 j.Norm false j.bL):=⟨by omega,by rw[zZR h ok.1];exact D⟩
 have hl:=yQC j.Norm j.Collation j.Options j.bL j.bW j.b5;obtain⟨q1,_⟩:=zRW h ok.1 G H j.Options k (t:=j.bW) (cuts:=j.b5) (by omega) (by omega);obtain⟨q2,_⟩:=zRW h ok.1 G H j.Options hb (t:=j.bW) (cuts:=j.b5) (by omega) (by omega);have O:fM j.Norm j.Collation j.Options (zC8 j.Norm false j.bL) j.bW j.b5=fM j.Norm j.Collation j.Options j.bL j.bW j.b5:=by
  have K:wT j.Norm j.Collation j.Options (zC8 j.Norm false j.bL)=wT j.Norm j.Collation j.Options j.bL:=by
   unfold wT eLm;rw[yDE h ok.1]
  have Y:mB j.Norm j.Collation j.Options (zC8 j.Norm false j.bL) j.bW=mB j.Norm j.Collation j.Options j.bL j.bW:=by
   funext lo hi;unfold mB;rw[K]
  unfold fM aM;rw[K,Y]
 rw[dE,cN,z8E h ok.1 k.1 k.2,zA,q1,zA,q2,zA,O,z8M (by omega)];simp only[dC,zL,xF,zA,fE]
open Go.AV
theorem sh1 {j:bF} (O:NSm j.Norm) (G:wY j.Norm) (T:Sm j.Collation) (Z:∀g∈j.Collation.aE,g.bT.length<=MX) (hp:TOk j.Norm j.bL) (Y:j.bW.length<=12) (hc:j.b5.length<=1000) {r:Range}
  (K:MtOk (mB j.Norm j.Collation j.Options j.bL j.bW) j.b5 j.bW.length 0 r):∀(m:Nat) (k:Int),k+(m:Int)=r.Hi+1->r.Lo<k->
  zD (λ(x:Int)=>j7 r j (kS j.Norm j.Collation j.Options j.bL) x) k=some (.inl ())
 | 0,k,h,_=>by
  have e:decide (k<=r.Hi)=false:=by simp;omega
  exact zJ (by simp only[j7,e,cN])
 | m+1,k,h,hk=>by
  have h0:=K.lo;have h1:=K.le;have e:decide (k<=r.Hi)=true:=by simp;omega
  have s2:slc j.bW r.Lo k=some (sl j.bW r.Lo k):=by unfold slc;rw[dH (by omega)];rfl
  have ih:=sh1 O G T Z hp Y hc K m (k+1) (by omega) (by omega);have ab:wi (k+1)=k+1:=xK (by omega) (by omega);have hw:=zWV O G T Z Y ({Lo:=r.Lo,Hi:=k}:Range);have H:decide (0<=({Lo:=r.Lo,Hi:=k}:Range).Lo/\({Lo:=r.Lo,Hi:=k}:Range).Lo<=({Lo:=r.Lo,Hi:=k}:Range).Hi/\({Lo:=r.Lo,Hi:=k}:Range).Hi<=(j.bW.length:Int))=true:=by simp;omega
  rw[H,dK] at hw;have aa:wW j.Norm j.Collation j.bW ({Lo:=r.Lo,Hi:=k}:Range)=some (whB j.Norm j.Collation j.bW r.Lo k):=hw;have D:j7 r j (kS j.Norm j.Collation j.Options j.bL) k=cond (!((decide (k∈j.b5)&&mB j.Norm j.Collation j.Options j.bL j.bW r.Lo k)==decide (k=r.Hi))) (some (.done (.inr false))) (some (.next (k+1))):=by
   unfold j7;rw[e,cO,s2,zA,z19 O G T Z _ (tk3 O G Y _ _),zA,yIO (by omega),zA,zL,yIT T _ (tk3 O G Y _ _),ab];unfold mB;by_cases q1:k∈j.b5
   ·by_cases q2:wT j.Norm j.Collation j.Options (sl j.bW r.Lo k)=wT j.Norm j.Collation j.Options j.bL
    ·simp only[q1,q2,dC,xF,zA,zL,dK,aa]
    ·simp only[q1,q2,dC,dF,xF,vF,zA,zL,dK,dQ]
   ·simp only[q1,dF,vF,zA,zL,dQ]
  have hv:((decide (k∈j.b5)&&mB j.Norm j.Collation j.Options j.bL j.bW r.Lo k)==decide (k=r.Hi))=true:=by
   by_cases q:k=r.Hi
   ·rw[q,gz K.ch,K.mt,gz rfl];rfl
   ·have:=K.sh k hk (by omega)
    have h3:(decide (k∈j.b5)&&mB j.Norm j.Collation j.Options j.bL j.bW r.Lo k)=false:=by
     cases hq:(decide (k∈j.b5)&&mB j.Norm j.Collation j.Options j.bL j.bW r.Lo k) with
     | false=>rfl
     | true=>simp only[dL,cZ] at hq;exact absurd hq this
    rw[h3,gx q];rfl
  rw[hv] at D;rw[zM (x':=k+1) D];exact ih
theorem sh0 {j:bF} (hn:NSm j.Norm) (O:wY j.Norm) (hs:Sm j.Collation) (hg:∀g∈j.Collation.aE,g.bT.length<=MX) (hp:TOk j.Norm j.bL) (ht:j.bW.length<=12) (hc:j.b5.length<=1000) {A:List Range} (hA:A.length<=1000)
  (hr:∀r∈A,MtOk (mB j.Norm j.Collation j.Options j.bL j.bW) j.b5 j.bW.length 0 r):∀(m k:Nat) (D:Int),k+m=A.length->(∀r∈A.drop k,D<r.Lo)->(A.drop k).Pairwise (λa b=>a.Lo<b.Lo)->
  zD (λ(x:Int×Int)=>x9 A j (kS j.Norm j.Collation j.Options j.bL) x.1 x.2) (D,(k:Int))=some (.inl ())
 | 0,k,D,h,_,_=>zJ (by simp only[x9,kJ (show A.length<=k by omega),cN])
 | m+1,k,D,h,K,G=>by
  have T:k<A.length:=by omega
  rw[cY T] at K G;rw[fA] at G;have H:=hr _ (eG T);have h2:=K A[k] List.mem_cons_self;have ih:=sh0 hn O hs hg hp ht hc hA hr m (k+1) A[k].Lo (by omega) G.1 G.2;have b1:decide (A[k].Lo<=D)=false:=by simp;omega
  have b2:decide (A[k].Hi<=A[k].Lo)=false:=by have:=H.hi;simp;omega
  have b3:decide ((j.bW.length:Int)<A[k].Hi)=false:=by have:=H.le;simp;omega
  have an:=H.lo;have al:=H.hi;have am:=H.le;have Z:wi (A[k].Lo+1)=A[k].Lo+1:=xK (by omega) (by omega);have Y:=sh1 hn O hs hg hp ht hc H (A[k].Hi-A[k].Lo).toNat (A[k].Lo+1) (by omega) (by omega);rw[zM (x':=(A[k].Lo,((k+1:Nat):Int))) (by
   simp only[x9,yT T,cO,zU T,zA,zL,b1,b2,b3,Bool.or_self,dS,xF,yIO (show j.b5.length<=1000000000 by omega),gz H.cl,dE,cN,Z,Y,eU,zI (k:=k) (by omega)])]
  exact ih
theorem law49_SearchShortest_true (j:bF) (ok:wI j):zB3 j=some true:=by
 unfold zB3;obtain⟨f,K,O⟩:=yIZ j;rw[K,zA,z2C];cases f with
 | false=>rfl
 | true=>
 obtain⟨h,D,Y,Z,l3⟩:=O rfl;have G:=z1H ok.2.1;have k:=tk0 h ok.1 (t:=j.bL) (by omega);obtain⟨a1,a2,a3⟩:=yA3 j.Norm j.Collation j.Options j.bL j.bW j.b5;have H:=sh0 h ok.1 D G k (by omega) (by omega) (by omega) a1 _ 0 (-1) (eC _) (λr T=>by have:=(a1 r (by simpa using T)).lo;omega) (by simpa using a2)
 rw[dE,cN,z19 h ok.1 D G _ k,zA,z8S h ok.1 D G _ k (by omega) (by omega),zA];rw[show ((0:Nat):Int)=0 from rfl] at H;rw[H];rfl
end Go.M


/- What the plain counterparts answer. Conditions: none. -/
import Derived.Test.YtjnpmmedmedokaaGreatDoorPu2
set_option linter.unusedSimpArgs false
set_option linter.unusedVariables false
set_option linter.unnecessarySimpa false
namespace Go.M
open Go.AV
theorem yMM (v:Int) (f g:Bool) (e:aK):col 0 (tr1 v f e)=col 0 (tr1 v g e):=by unfold tr1 zJ2;by_cases z:v=1;simp[z];by_cases k:e.aD=true\/e.aP≠0;simp[z,k];have D:e.aP=0:=Classical.byContradiction λh=>k (.inr h);have G:¬e.aD=true:=λh=>k (.inl h);cases f<;>cases g<;>simp[z,D,G,col]
theorem z4L (v:Int):∀(l:List aK) (f g:Bool),row 0 (trL v f l)=row 0 (trL v g l)
 | [],_,_=>rfl
 | e::l,f,g=>by
  show nz (col 0 (tr1 v f e))++row 0 (trL v (zJ2 f e) l)=nz (col 0 (tr1 v g e))++row 0 (trL v (zJ2 g e) l);rw[yMM v f g,z4L v l (zJ2 f e) (zJ2 g e)]
theorem z0N (v:Int):∀(a b:List aK) (f g:Bool),row 0 (trL v f (a++b))=row 0 (trL v f a)++row 0 (trL v g b)
 | [],b,f,g=>z4L v b f g
 | e::a,b,f,g=>by
  show nz (col 0 (tr1 v f e))++row 0 (trL v (zJ2 f e) (a++b))=(nz (col 0 (tr1 v f e))++row 0 (trL v (zJ2 f e) a))++row 0 (trL v g b);rw[z0N v a b (zJ2 f e) g,dB]
def r0 (o:Options) (l:List aK):List Int:=row 0 (trL (xA o).aD false l)
theorem z2D (o:Options) (a b:List aK):r0 o (a++b)=r0 o a++r0 o b:=z0N _ a b false false
theorem yBQ (o:Options) (l:List aK):(r0 o l).length<=l.length:=by have:=zRU 0 (trL (xA o).aD false l);rw[zO7] at this;exact this
theorem yBR (l:List aK) (o:Options):zV (wts l (xA o)) (0:Int)=some (r0 o l):=by have hb:=yA8 (zNU o);unfold wts;obtain⟨k,h⟩:∃k,(xA o).aG.toNat=k+1:=⟨(xA o).aG.toNat-1,by omega⟩;rw[h];rfl
def fL (o:Options) (all:List aK) (k:Nat):List Int:=(List.range (all.length+1)).map λi=>if i<=k then ((r0 o (all.take i)).length:Int) else 0
theorem yBS (o:Options) (all:List aK) (k:Nat):(fL o all k).length=all.length+1:=by simp[fL]
theorem z2E (o:Options) (all:List aK) {k i:Nat} (h:i<=all.length) (hi:i<=k):zV (fL o all k) (i:Int)=some ((r0 o (all.take i)).length:Int):=by
 rw[zM (by rw[yBS];omega)]
 simp[fL,hi]
theorem yJ4 (o:Options) (all:List aK) {k:Nat}:(fL o all k).set (k+1) ((r0 o (all.take (k+1))).length:Int)=fL o all (k+1):=by apply hO;simp[fL];intro i z D;rw[List.getElem_set];by_cases e:k+1=i;subst e;simp[fL];rw[dQ e];simp only[fL,List.getElem_map,List.getElem_range];by_cases h:i<=k;rw[dK h,dK (by omega)];rw[dQ h,dQ (by omega)]
theorem yOA (o:Options) (all:List aK):List.replicate (all.length+1) (0:Int)=fL o all 0:=by
 apply hO;simp[fL];intro i k z;simp only[fL,List.getElem_map,List.getElem_range,List.getElem_replicate];split;rename_i h;have:i=0:=by omega
 subst this;rfl;rfl
theorem nf0 (o:Options) {all:List aK} (T:all.length<=18000):∀(m k:Nat),k+m=all.length->
  zB (λ(x:Int×(List Int))=>wM all o x.1 x.2) ((k:Int),fL o all k)=some (fL o all all.length)
 | 0,k,h=>by
  have:k=all.length:=by omega
  subst this;exact zD (by simp only[wM,yY (dF _),cP])
 | m+1,k,h=>by
  have O:k<all.length:=by omega
  have K:wi ((k:Int)+1)=((k+1:Nat):Int):=zC (by omega);have Y:((all.take (k+1)).drop k).length<=18000:=by simp;omega
  have z:r0 o (all.take (k+1))=r0 o (all.take k)++r0 o ((all.take (k+1)).drop k):=by
   rw[<-z2D];congr 1;have:=(em k (all.take (k+1))).symm
   rwa [List.take_take,gV (by omega)] at this
  have G:wi (((r0 o (all.take k)).length:Int)+((r0 o ((all.take (k+1)).drop k)).length:Int))=((r0 o (all.take (k+1))).length:Int):=by
   have H:=yBQ o (all.take (k+1));rw[z] at H ⊢;rw[cZ] at H ⊢;rw[d9] at H;rw[xN (by omega) (by omega)];omega
  have D:(k+1)<(fL o all k).length:=by rw[yBS];omega
  rw[zG (x':=(((k+1:Nat):Int),fL o all (k+1))) (by
   simp only[wM,yF O,cQ,z2E o all (show k<=all.length by omega) (dF k),zA,K,zPV (l:=all) (a:=k) (b:=k+1) (by omega) (by omega),zJ3 (show ((all.take (k+1)).drop k).length<=4000000000 by omega),yBR,G,zFR D,yJ4,zM D])]
  exact nf0 o T m (k+1) (by omega)
section
variable (n:Norm) (c:Collation) (t:List Int)
noncomputable def hdB (x:Int):Bool:=decide ((eLm n c (t.take x.toNat)).length<=(eLm n c t).length)&&decide (eLm n c (t.take x.toNat)=(eLm n c t).take (eLm n c (t.take x.toNat)).length)
noncomputable def tlB (x:Int):Bool:=decide ((eLm n c (t.drop x.toNat)).length<=(eLm n c t).length)&&decide (eLm n c (t.drop x.toNat)=(eLm n c t).drop ((eLm n c t).length-(eLm n c (t.drop x.toNat)).length))
noncomputable def hdV (x:Int):Int:=if hdB n c t x=true then ((eLm n c (t.take x.toNat)).length:Int) else -1
noncomputable def tlV (x:Int):Int:=if tlB n c t x=true then ((eLm n c (t.drop x.toNat)).length:Int) else -1
def z2F (m:List (Int×Int)) (b:Bool) (x v:Int):List (Int×Int):=cond b (xY (xY m x (-1)) x v) (xY m x (-1))
end
theorem z0O (m:List (Int×Int)) (b:Bool) (x v y:Int):mgetD (z2F m b x v) y 0=if y=x then (if b=true then v else -1) else mgetD m y 0:=by
 unfold z2F;cases b with
 | true=>simp only[cQ,zNM];by_cases h:y=x<;>simp[h]
 | false=>simp only[cP,zNM];by_cases h:y=x<;>simp[h]
section
variable {n:Norm} {c:Collation} (hn:NSm n) (hok:wV n) (hs:Sm c) (hg:∀g∈c.aE,g.bT.length<=MX)
include hn hok hs hg
theorem nf1 {t places:List Int} (z:t.length<=12) (aa:places.length<=1000) (hp:∀x∈places,0<=x/\x<=(t.length:Int)):∀(m k:Nat) (H T:List (Int×Int)),k+m=places.length->
  ∃G K,zB (λ(x:Int×(List (Int×Int))×(List (Int×Int)))=>wN places t n c (eLm n c t) x.1 x.2.1 x.2.2) ((k:Int),H,T)=some (G,K)/\
   ∀x,(mgetD G x 0=if x∈places.drop k then hdV n c t x else mgetD H x 0)/\(mgetD K x 0=if x∈places.drop k then tlV n c t x else mgetD T x 0)
 | 0,k,H,T,h=>by
  have:k=places.length:=by omega
  subst this;refine⟨H,T,zD (by simp only[wN,yY (dF _),cP]),λx=>?_⟩;rw[hF];exact⟨by simp,by simp⟩
 | m+1,k,H,T,h=>by
  have Y:k<places.length:=by omega
  obtain⟨h0,h1⟩:=hp _ (eE Y);have lA:=zNV (c:=c) hs (tk0 hn hok z);have lh:=zNV (c:=c) hs (tk1 hn hok z places[k].toNat);have lt:=zNV (c:=c) hs (tk2 hn hok z places[k].toNat);have s1:slc t 0 places[k]=some (t.take places[k].toNat):=by unfold slc;rw[dK (by omega)];simp
  have s2:slc t places[k] (t.length:Int)=some (t.drop places[k].toNat):=by unfold slc;rw[dK (by omega)];simp
  have O:wi ((k:Int)+1)=((k+1:Nat):Int):=zC (by omega);obtain⟨G,K,hl,hq⟩:=nf1 z aa hp m (k+1) (z2F H (hdB n c t places[k]) places[k] ((eLm n c (t.take places[k].toNat)).length:Int)) (z2F T (tlB n c t places[k]) places[k] ((eLm n c (t.drop places[k].toNat)).length:Int)) (by omega);refine⟨G,K,?_,λx=>?_⟩
  ·rw[zG (x':=(((k+1:Nat):Int),z2F H (hdB n c t places[k]) places[k] ((eLm n c (t.take places[k].toNat)).length:Int),z2F T (tlB n c t places[k]) places[k] ((eLm n c (t.drop places[k].toNat)).length:Int)))]
   ·exact hl
   ·simp only[wN,yF Y,cQ,zM Y,zA,s1,s2,yBJ hn hok hs hg (tk1 hn hok z _),yBJ hn hok hs hg (tk2 hn hok z _)]
    unfold hdB tlB z2F;rw[zF];generalize eLm n c t=A at*;generalize eLm n c (t.take places[k].toNat)=U at*;generalize eLm n c (t.drop places[k].toNat)=V at*;by_cases D:U.length<=A.length<;>by_cases Z:V.length<=A.length
    all_goals
     have ab:decide ((U.length:Int)<=(A.length:Int))=decide (U.length<=A.length):=by congr 1;exact propext ⟨λh=>by omega,λh=>by omega⟩
     have ac:decide ((V.length:Int)<=(A.length:Int))=decide (V.length<=A.length):=by congr 1;exact propext ⟨λh=>by omega,λh=>by omega⟩
     rw[ab,ac]
    ·have hw:wi ((A.length:Int)-(V.length:Int))=((A.length-V.length:Nat):Int):=by rw[xN (by omega) (by omega)];omega
     simp only[D,Z,dD,j7,hw,zDF D,zFS (l:=A) (a:=A.length-V.length) (by omega),zA,zF,zTM (show U.length<=1000000000 by omega),zTM (show V.length<=1000000000 by omega),dT,O];generalize decide (U=A.take U.length)=a;generalize decide (V=A.drop (A.length-V.length))=b;cases a<;>cases b<;>rfl
    ·simp only[D,Z,dD,dI,j7,wJ,zDF D,zA,zF,zTM (show U.length<=1000000000 by omega),dT,dV,cP,O]
     generalize decide (U=A.take U.length)=a;cases a<;>rfl
    ·have hw:wi ((A.length:Int)-(V.length:Int))=((A.length-V.length:Nat):Int):=by rw[xN (by omega) (by omega)];omega
     simp only[D,Z,dD,dI,j7,wJ,hw,zFS (l:=A) (a:=A.length-V.length) (by omega),zA,zF,zTM (show V.length<=1000000000 by omega),dT,dV,cP,O];generalize decide (V=A.drop (A.length-V.length))=b;cases b<;>rfl
    ·simp only[D,Z,dI,wJ,zA,zF,dV,cP,O]
  ·rw[(hq x).1,(hq x).2,dA Y,z0O,z0O]
   simp only[dN];by_cases hx:x=places[k]
   ·subst hx
    simp only[true_or,dH];exact⟨by split<;>rfl,by split<;>rfl⟩
   ·simp only[hx,false_or,cY]
    exact⟨trivial,trivial⟩
structure FOk (n:Norm) (c:Collation) (o:Options) (p t places:List Int) (F:bN):Prop where
 no:F.norm=n
 co:F.bW=c
 op:F.b6=o
 te:F.text=t
 wa:F.wanted=wT n c o p
 el:F.bV=eLm n c t
 fi:F.b3=fL o (eLm n c t) (eLm n c t).length
 he:∀x∈places,mgetD F.b4 x 0=hdV n c t x
 ta:∀x∈places,mgetD F.b0 x 0=tlV n c t x
theorem yMP (o:Options) {p t places:List Int} (h:TOk n p) (z:t.length<=12) (k:places.length<=1000) (Z:∀x∈places,0<=x/\x<=(t.length:Int)):
  ∃F,zA8 n c o p t places=some (if zO9 (wT n c o p)=true then some F else none)/\FOk n c o p t places F:=by
 have lp:=zNV (c:=c) hs h;have lA:=zNV (c:=c) hs (tk0 hn hok z);have l4:=zRX n c o p;obtain⟨H,T,K,O⟩:=nf1 hn hok hs hg z k Z places.length 0 [] [] (by omega);have G:=nf0 o lA (eLm n c t).length 0 (by omega);rw[show ((0:Nat):Int)=0 from rfl] at G K;have Y:mkM (0:Int) (wi (((eLm n c t).length:Int)+1))=some (fL o (eLm n c t) 0):=by
  rw[zC (by omega),zW0 (by omega),yOA]
 refine⟨{norm:=n,bW:=c,b6:=o,text:=t,wanted:=wT n c o p,bV:=eLm n c t,b3:=fL o (eLm n c t) (eLm n c t).length,b4:=H,b0:=T},?_,⟨rfl,rfl,rfl,rfl,rfl,rfl,rfl,λx D=>?_,λx D=>?_⟩⟩
 ·unfold zA8
  rw[yBJ hn hok hs hg h,zA,zJ3 (by omega),zA];show ((k8 (wT n c o p) (λx0=>u2 x0)).bind _)=_;rw[cfr (f:=λx0=>u2 x0) (by omega) (λr=>decide (0<(r.length:Int))) (λx=>rfl),zA];show (cond (!zO9 (wT n c o p)) _ _)=_;cases zO9 (wT n c o p) with
  | false=>rfl
  | true=>
   rw[dG,cP,yBJ hn hok hs hg (tk0 hn hok z),zA,Y,zA,G,zA,K,zA];rfl
 ·have:=(O x).1
  rw[et,dK D] at this;exact this
 ·have:=(O x).2
  rw[et,dK D] at this;exact this
theorem yMQ (o:Options) {p t places:List Int} (bc:TOk n p) (Z:t.length<=12) {F:bN} (z:FOk n c o p t places F) {lo hi:Int} (hl:lo∈places) (hh:hi∈places) (h1:0<=lo) (h2:lo<=hi) (h3:hi<=(t.length:Int)):
  j6 F (mkR lo hi)=some (mB n c o p t lo hi):=by
 have e1:mgetD F.b4 (mkR lo hi).Lo 0=hdV n c t lo:=z.he lo hl;have e2:mgetD F.b0 (mkR lo hi).Hi 0=tlV n c t hi:=z.ta hi hh;have lA:=zNV (c:=c) hs (tk0 hn hok Z);have lU:=zNV (c:=c) hs (tk1 hn hok Z lo.toNat);have lV:=zNV (c:=c) hs (tk2 hn hok Z hi.toNat);have lM:=zNV (c:=c) hs (tk3 hn hok Z lo hi);have ag:=yBJ hn hok hs hg (tk3 hn hok Z lo hi);have aj:slc t (mkR lo hi).Lo (mkR lo hi).Hi=some (sl t lo hi):=by show slc t lo hi=_;unfold slc;rw[dK (by omega)];rfl
 have Y:=yBR (eLm n c p) o;have ak:=zRX n c o p;unfold j6;rw[z.no,z.co,z.op,z.te,z.wa,z.el,z.fi,e1,e2,aj];unfold hdV tlV hdB tlB mB whB;have al:wT n c o (sl t lo hi)=wts (eLm n c (sl t lo hi)) (xA o):=rfl;rw[al];have am:wT n c o p=wts (eLm n c p) (xA o):=rfl;rw[am] at ak ⊢;simp only[zA,ag];generalize eLm n c t=A at*;generalize eLm n c (t.take lo.toNat)=U at*;generalize eLm n c (t.drop hi.toNat)=V at*;generalize eLm n c (sl t lo hi)=M at*;by_cases hu:U.length<=A.length/\U=A.take U.length
 ·by_cases hv:V.length<=A.length/\V=A.drop (A.length-V.length)
  ·have q1:(decide (U.length<=A.length)&&decide (U=A.take U.length))=true:=by simp only[dM,c8];exact hu
   have q2:(decide (V.length<=A.length)&&decide (V=A.drop (A.length-V.length)))=true:=by simp only[dM,c8];exact hv
   have hw:wi ((A.length:Int)-(V.length:Int))=((A.length-V.length:Nat):Int):=by rw[xN (by omega) (by omega)];omega
   have n1:decide (((U.length:Nat):Int)<0)=false:=by simp
   have n2:decide (((V.length:Nat):Int)<0)=false:=by simp
   simp only[q1,q2,dH,hw,zF,n1,n2,hJ,fa];by_cases bb:U.length+V.length<=A.length
   ·have n3:decide (((A.length-V.length:Nat):Int)<(U.length:Int))=false:=by simp;omega
    obtain⟨N,hN⟩:∃N,N=(A.take (A.length-V.length)).drop U.length:=⟨_,rfl⟩;have G:A.take (A.length-V.length)=U++N:=by
     rw[hN];have:=(em U.length (A.take (A.length-V.length))).symm
     rwa [List.take_take,gV (by omega),<-hu.2] at this
    have hA:A=U++N++V:=by
     rw[<-G];have:=(em (A.length-V.length) A).symm
     rwa [<-hv.2] at this
    have O:(U++M++V=A)↔N=M:=by
     constructor
     ·intro h
      rw[hA] at h;exact(List.append_cancel_left (List.append_cancel_right h)).symm
     ·intro h
      rw[<-h,<-hA]
    have ay:N.length<=18000:=by
     have:=congrArg List.length hA;simp only[cZ] at this;omega
    have f1:=z2E o A (k:=A.length) (i:=A.length-V.length) (by omega) (by omega);have f2:=z2E o A (k:=A.length) (i:=U.length) (by omega) (by omega);have hr:=yBQ o (A.take (A.length-V.length));rw[G,z2D,cZ,cZ] at hr;rw[G,z2D,cZ] at f1;rw[<-hu.2] at f2;have ah:wi ((((r0 o U).length+(r0 o N).length:Nat):Int)-((r0 o U).length:Int))=((r0 o N).length:Int):=by rw[xN (by omega) (by omega)];omega
    have ai:slc A (U.length:Int) ((A.length-V.length:Nat):Int)=some N:=by rw[zPV (by omega) (by omega),hN]
    simp only[n3,dO,j7,f1,f2,Y,zA,ah,fa,ai,zJ3 (show N.length<=4000000000 by omega),yJ0 (a:=wts N (xA o)) (b:=wts (eLm n c p) (xA o)) (by have:=zO8 N (xA o);omega) (λx hx=>by have:=zP6 hx;omega),zTM (a:=N) (b:=M) (by omega)]
    have K:wts N (xA o)=wts (eLm n c p) (xA o)->(r0 o N).length=(r0 o (eLm n c p)).length:=λh=>by
     have k1:=yBR N o;rw[h,Y,fD] at k1;rw[k1]
    by_cases T:wts N (xA o)=wts (eLm n c p) (xA o)
    ·have g2:decide (((r0 o N).length:Int)=((r0 o (eLm n c p)).length:Int))=true:=by rw[c8,K T]
     rw[g2,ir T];simp only[dG,cP];by_cases D:N=M
     ·rw[ir D,ir (O.2 D),<-D,ir T]
      rfl
     ·rw[gH D,gH (λh=>D (O.1 h)),fP]
    ·have H:(decide (wts M (xA o)=wts (eLm n c p) (xA o))&&decide (U++M++V=A))=false:=by
      by_cases D:N=M
      ·rw[<-D,gH T,dV]
      ·rw[gH (λh=>D (O.1 h)),fP]
     rw[H,gH T];cases decide (((r0 o N).length:Int)=((r0 o (eLm n c p)).length:Int))<;>rfl
   ·have n3:decide (((A.length-V.length:Nat):Int)<(U.length:Int))=true:=by simp;omega
    have H:decide (U++M++V=A)=false:=gH λh=>by
     have:=congrArg List.length h;simp only[cZ] at this;omega
    simp only[n3,dG,wJ,zA,gS,cQ,H,fP]
  ·have q2:(decide (V.length<=A.length)&&decide (V=A.drop (A.length-V.length)))=false:=by
    cases h:(decide (V.length<=A.length)&&decide (V=A.drop (A.length-V.length))) with
    | false=>rfl
    | true=>simp only[dM,c8] at h;exact absurd h hv
   have H:decide (U++M++V=A)=false:=gH λh=>hv (by
    rw[<-h];refine⟨by simp only[cZ];omega,?_⟩
    rw[cZ,Nat.add_sub_cancel,List.drop_left])
   have n1:decide ((-1:Int)<0)=true:=by decide
   simp only[q2,dR,cY,zF,n1,Bool.or_true,gS,dG,wJ,zA,cQ,H,fP]
 ·have q1:(decide (U.length<=A.length)&&decide (U=A.take U.length))=false:=by
   cases h:(decide (U.length<=A.length)&&decide (U=A.take U.length)) with
   | false=>rfl
   | true=>simp only[dM,c8] at h;exact absurd h hu
  have H:decide (U++M++V=A)=false:=gH λh=>hu (by
   rw[<-h,dB];refine⟨by simp,?_⟩;rw[gN])
  have n1:decide ((-1:Int)<0)=true:=by decide
  simp only[q1,dR,cY,zF,n1,gS,dG,wJ,zA,cQ,H,fP]
end
open Go.AV
theorem ca0 {rest:List Int} {lo:Int} (hl:rest.length<=1000) {D:Bool} {z:Nat} (hc:z<=rest.length) (hs:D=true->1<=z) (hn:D=false->z=rest.length):
  ∀(m k:Nat),k+m=z->(D=true->1<=m)->∃y,zB (λ(x:Int×Nat)=>jM rest (lo::rest) ((rest.map (mkR lo)).take z) D x.1 x.2) ((k:Int),k)=some y/\(y= .inl z\/y= .inr z)
 | 0,k,h,h1=>by
  have Y:D=false:=by cases D with | false=>rfl | true=>exact absurd (h1 rfl) (by omega)
  have:k=rest.length:=by have:=hn Y;omega
  subst this;exact⟨.inl z,zD (by simp only[jM,yY (dF _),cP];rw[show rest.length=z by omega]),.inl rfl⟩
 | m+1,k,h,h1=>by
  have K:k<rest.length:=by omega
  have hy:yM ((rest.map (mkR lo)).take z) k (mkR lo rest[k])=some ():=by
   unfold yM;rw[dK];rw[d8,dK (by omega),dX,cV K];rfl
  have H:((rest.map (mkR lo)).take z).length=z:=by rw[d9,eY];omega
  have O:yM ((rest.map (mkR lo)).take z) k ({Lo:=lo,Hi:=rest[k]}:Range)=some ():=hy;have i0:zV (lo::rest) (0:Int)=some lo:=rfl;cases G:goB D z k with
  | true=>
   have hm:D=true->1<=m:=λT=>by
    rcases Nat.eq_zero_or_pos m with h3 | h3
    ·subst h3 T
     have:k+1=z:=by omega
     unfold goB at G;rw[this] at G;simp at G
    ·exact h3
   obtain⟨y,Z,aa⟩:=ca0 hl hc hs hn m (k+1) (by omega) hm;refine⟨y,?_,aa⟩;rw[zG (x':=(((k+1:Nat):Int),k+1)) (by simp only[jM,yF K,cQ,zM K,i0,zA,O,H,G,dG,cP,zC (k:=k) (by omega)])];exact Z
  | false=>
   have T:k+1=z:=by
    unfold goB at G;simp only[Bool.not_eq_false',dM] at G;exact io G.2
   refine⟨.inr z,zD ?_,.inr rfl⟩;simp only[jM,yF K,cQ,zM K,i0,zA,O,H,G,dO];rw[T]
theorem yFY {rest:List Int} {lo:Int} (O:rest.length<=1000) {k:Bool} {h:Nat} (H:h<=rest.length) (z:k=true->1<=h) (T:k=false->h=rest.length):uG ((rest.map (mkR lo)).take h) k (lo::rest)=some ():=by
 unfold uG;have G:slc (lo::rest) 1 (((lo::rest).length:Nat):Int)=some rest:=by
  have:=zFS (l:=lo::rest) (a:=1) (by simp);exact this
 obtain⟨y,D,Y⟩:=ca0 (lo:=lo) O H z T h 0 (by omega) z;rw[show ((0:Nat):Int)=0 from rfl] at D;rw[G,zA,D,zA];have K:zSS ((rest.map (mkR lo)).take h) h=some ():=by
  unfold zSS;rw[dK];rw[d9,eY];omega
 rcases Y with rfl | rfl<;>exact K
theorem z0P {F:bN} {m:Int->Bool} {lo:Int} {acc:List Range} (O:acc.length<=1000):∀(rest:List Int),(∀hi∈rest,j6 F (mkR lo hi)=some (m hi))->
  ∃z k,zJF (λ(s:List Range) (x:Range)=>jH F s x) acc (rest.map (mkR lo))=some (z,!k,acc++(match rest.find? m with
   | some hi=>[mkR lo hi]
   | none=>[]))/\z<=rest.length/\(k=true->1<=z)/\(k=false->z=rest.length)
 | [],_=>⟨0,false,by simp[zJF],dF _,(λh=>by cases h),(λ_=>rfl)⟩
 | hi::rest,h=>by
  have D:=h hi (by simp);rw[ey,ib];cases G:m hi with
  | true=>
   refine⟨1,true,?_,by simp,λ_=>dF _,λh=>by cases h⟩;rw[G] at D;unfold zJF;have:jH F acc (mkR lo hi)=some (false,acc++ [mkR lo hi]):=by
    unfold jH;rw[D,zA,cQ,jP (by simp;omega),zA]
   rw[this];rfl
  | false=>
   rw[G] at D;obtain⟨z,k,H,Z,h3,K⟩:=z0P (m:=m) O rest (λx Y=>h x (by simp[Y]));refine⟨z+1,k,?_,by simp;omega,λ_=>by omega,λT=>by simp[K T]⟩
   unfold zJF;have:jH F acc (mkR lo hi)=some (true,acc):=by
    unfold jH;rw[D,zA,cP]
   rw[this];simp only[H,eX]
section
variable {n:Norm} {c:Collation} (hn:NSm n) (hok:wV n) (hs:Sm c) (hg:∀g∈c.aE,g.bT.length<=MX)
include hn hok hs hg
omit hn hok hs hg in
theorem sa0 {F:bN} {m:Int->Int->Bool} {P:List Int} (hl:P.length<=1000) (O:∀(i j:Nat) (K:j<P.length) (ag:i<j),j6 F (mkR (P[i]'(by omega)) P[j])=some (m (P[i]'(by omega)) P[j])):
  ∀(q k:Nat) (acc:List Range),k+q=P.length->acc.length<=k->zB (λ(x:Int×(List Range))=>zAP P F x.1 x.2) ((k:Int),acc)=some (acc++z2B mkR m (P.drop k))
 | 0,k,acc,h,_=>by
  have:k=P.length:=by omega
  subst this;rw[hF,z2B,ez];exact zD (by simp only[zAP,yY (dF _),cP])
 | q+1,k,acc,h,ha=>by
  have H:k<P.length:=by omega
  rw[dA H,z2B];obtain⟨T,G,Y,Z,h3,h4⟩:=z0P (F:=F) (m:=m P[k]) (lo:=P[k]) (acc:=acc) (by omega) (P.drop (k+1)) (λhi hx=>by
   obtain⟨j,K,rfl⟩:=fB hx;rw[List.getElem_drop];rw[eM] at K;exact O k (k+1+j) (by omega) (by omega))
  have hc:=yFY (rest:=P.drop (k+1)) (lo:=P[k]) (by rw[eM];omega) Z h3 h4
  have hd:slc P (k:Int) (P.length:Int)=some (P[k]::P.drop (k+1)):=by rw[zFS (by omega),dA H]
  have D:zAP P F (k:Int) acc=some (.next (((k+1:Nat):Int),acc++(match (P.drop (k+1)).find? (m P[k]) with
   | some hi=>[mkR P[k] hi]
   | none=>[]))):=by
   unfold zAP;have hr:∀(z:List Range),z=(P.drop (k+1)).map (mkR P[k])->zSV (λa b=>({Lo:=a,Hi:=b}:Range)) (P[k]::P.drop (k+1))=z:=λz hz=>hz▸rfl;rw[yF H,cQ,hd,zA,hr _ rfl,Y,zA];simp only[Bool.not_not,hc,zA];rw[zC (by omega)];cases G<;>rfl
  rw[zG (x':=(((k+1:Nat):Int),acc++(match (P.drop (k+1)).find? (m P[k]) with
   | some hi=>[mkR P[k] hi]
   | none=>[]))) D]
  rw[sa0 hl O q (k+1) _ (by omega) (by
   rw[cZ];cases (P.drop (k+1)).find? (m P[k])<;>simp<;>omega),dB]
  rfl
omit hn hok hs hg in
theorem zXR {cuts:List Int} {N:Nat} {x:Int}:x∈zLO cuts N↔x∈cuts/\0<=x/\x<=(N:Int):=by
 unfold zLO;simp only[fA,eJ,fO,c8];constructor
 rintro⟨⟨k,G,rfl⟩,h⟩
 exact⟨h,by omega,by omega⟩
 rintro⟨h,z,D⟩
 exact⟨⟨x.toNat,by omega,by omega⟩,h⟩
omit hn hok hs hg in
theorem yJ5 (cuts:List Int) (N:Nat):(zLO cuts N).Pairwise (· < ·):=by
 unfold zLO;refine List.Pairwise.filter _ ?_;rw[List.pairwise_map];exact List.pairwise_lt_range.imp λh=>by omega
omit hn hok hs hg in
theorem yFZ (cuts:List Int) (N:Nat):(zLO cuts N).length<=N+1:=by unfold zLO;refine d7 (gZ ..) ?_;simp
theorem yJ6 (o:Options) {p t cuts:List Int} (H:TOk n p) (K:t.length<=12) (T:cuts.length<=1000):zGV n c o p t cuts=some (aM n c o p t cuts):=by
 unfold zGV;have Y:=yFZ cuts t.length;obtain⟨F,O,k⟩:=yMP hn hok hs hg o (p:=p) (t:=t) (places:=zLO cuts t.length) H K (by omega) (λx Z=>(zXR.1 Z).2);rw[zXQ T,zA,O,zA];unfold aM;cases zO9 (wT n c o p) with
 | false=>rfl
 | true=>
  rw[dK rfl,dK rfl];have D:=g6.1 (yJ5 cuts t.length);have h:=sa0 (F:=F) (m:=mB n c o p t) (P:=zLO cuts t.length) (by omega) (λi j G z=>by
   have mi:=zXR.1 (eE (l:=zLO cuts t.length) (show i<_ by omega));have mj:=zXR.1 (eE (l:=zLO cuts t.length) G);exact yMQ hn hok hs hg o H K k (eE _) (eE _) mi.2.1 (Int.le_of_lt (D i j (by omega) G z)) mj.2.2) (zLO cuts t.length).length 0 [] (by omega) (by simp)
  rw[show ((0:Nat):Int)=0 from rfl,et,dS,yBL] at h;show (zB _ (0,[])).bind _=_;rw[h];rfl
theorem z6R (o:Options) {p t cuts:List Int} (k:TOk n p) (z:t.length<=12) (h:cuts.length<=1000):zDU n c o p t cuts=zGZ n c o p t cuts:=by unfold zDU zGZ;rw[yJ6 hn hok hs hg o k z h,z4K hn hok hs hg o k z h];rfl
end
open Go.AV
structure MtOk (m:Int->Int->Bool) (cuts:List Int) (size k:Nat) (r:Range):Prop where
 lo:(k:Int)<=r.Lo
 hi:r.Lo<r.Hi
 le:r.Hi<=(size:Int)
 cl:r.Lo∈cuts
 ch:r.Hi∈cuts
 mt:m r.Lo r.Hi=true
 sh:∀q:Int,r.Lo<q->q<r.Hi->¬(q∈cuts/\m r.Lo q=true)
theorem MtOk.mono {m:Int->Int->Bool} {cuts:List Int} {size k j:Nat} {r:Range} (z:j<=k) (h:MtOk m cuts size k r):MtOk m cuts size j r:=⟨by have:=h.lo;omega,h.hi,h.le,h.cl,h.ch,h.mt,h.sh⟩
theorem zTN {p:Nat->Bool}:∀(n k q:Nat),(List.range' k n).find? p=some q->k<=q/\q<k+n/\p q=true/\∀j,k<=j->j<q->p j=false
 | 0,k,q,h=>by simp at h
 | n+1,k,q,h=>by
  rw[iy,ib] at h;cases z:p k with
  | true=>
   rw[z] at h;simp only[fD] at h;subst h;exact⟨dF _,by omega,z,λj D G=>by omega⟩
  | false=>
   rw[z] at h;obtain⟨D,G,H,K⟩:=zTN n (k+1) q h;refine⟨by omega,by omega,H,λj h5 O=>?_⟩;rcases Nat.eq_or_lt_of_le h5 with rfl | h5
   exact z;exact K j h5 O
theorem z4M {m:Int->Int->Bool} {cuts:List Int} {size:Nat}:∀(n k:Nat),k+n=size->(∀r∈zI1 mkR m cuts size k n,MtOk m cuts size k r)/\(zI1 mkR m cuts size k n).Pairwise (λa b=>a.Lo<b.Lo)/\(zI1 mkR m cuts size k n).length<=n
 | 0,k,_=>⟨λr D=>by simp[zI1] at D,by simp[zI1],by simp[zI1]⟩
 | n+1,k,h=>by
  obtain⟨i1,i2,i3⟩:=z4M (m:=m) (cuts:=cuts) (size:=size) n (k+1) (by omega);have e:zI1 mkR m cuts size k (n+1)=(if decide ((k:Int)∈cuts)=true then
   match ((List.range' (k+1) (size-k)).find? λ(q:Nat)=>decide ((q:Int)∈cuts)&&m (k:Int) (q:Int)) with
   | some q=>[mkR (k:Int) (q:Int)]
   | none=>[]
   else [])++zI1 mkR m cuts size (k+1) n:=by
   unfold zI1;rw[iy,ek];rfl
  rw[e];by_cases K:(k:Int)∈cuts;rw[dK (ir K)];cases hf:(List.range' (k+1) (size-k)).find? (λ(q:Nat)=>decide ((q:Int)∈cuts)&&m (k:Int) (q:Int)) with
  | none=>exact⟨λr D=>MtOk.mono (k:=k+1) (by omega) (i1 r (by simpa using D)),i2,d7 i3 (by omega)⟩
  | some q=>
   obtain⟨h1,h2,H,h4⟩:=zTN _ _ _ hf;simp only[dM,c8] at H;refine⟨λr D=>?_,?_,?_⟩;simp only[fR,dS,dN] at D;rcases D with rfl | D;refine⟨gw _,by show (k:Int)<(q:Int);omega,by show (q:Int)<=(size:Int);omega,K,H.1,H.2,λz O T=>?_⟩
   have z1:(k:Int)<z:=O;have z2:z<(q:Int):=T;have:=h4 z.toNat (by omega) (by omega);rw[show ((z.toNat:Nat):Int)=z by omega] at this
   rintro⟨Y,Z⟩
   have G:m (k:Int) z=true:=Z;rw[G,ir Y] at this;cases this;exact MtOk.mono (k:=k+1) (by omega) (i1 r D);rw[fR,dS,fE];refine⟨λr D=>?_,i2⟩;have:=(i1 r D).lo;show (k:Int)<r.Lo;omega;simp only[fR,dS,dP];omega
  rw[dQ (by simp[K]),dS];exact⟨λr D=>MtOk.mono (k:=k+1) (by omega) (i1 r D),i2,d7 i3 (by omega)⟩
theorem yBT (n:Norm) (c:Collation) (o:Options) (p t cuts:List Int):(∀r∈aM n c o p t cuts,MtOk (mB n c o p t) cuts t.length 0 r)/\(aM n c o p t cuts).Pairwise (λa b=>a.Lo<b.Lo)/\(aM n c o p t cuts).length<=t.length:=by unfold aM;split;exact z4M t.length 0 (by omega);exact⟨(λr h=>by cases h),List.Pairwise.nil,(by simp)⟩
def zLP:Int->List Range->List Range
 | _,[]=>[]
 | e,r::l=>if e<=r.Lo then r::zLP r.Hi l else zLP e l
theorem zJ5:∀(l:List Range) (e:Int),(zLP e l).Sublist l
 | [],_=>List.Sublist.slnil
 | r::l,e=>by
  unfold zLP;split;exact(zJ5 l r.Hi).cons_cons r;exact(zJ5 l e).cons r
theorem fd0 {A:List Range} (G:A.length<=1000):∀(m k:Nat) (e:Int) (acc:List Range),k+m=A.length->acc.length<=k->
  zB (λ(x:Int×Int×(List Range))=>zDE A x.1 x.2.1 x.2.2) (e,(k:Int),acc)=some (acc++zLP e (A.drop k))
 | 0,k,e,acc,h,_=>by
  have:k=A.length:=by omega
  subst this;rw[hF,zLP,ez];exact zD (by simp only[zDE,yY (dF _),cP])
 | m+1,k,e,acc,h,H=>by
  have z:k<A.length:=by omega
  rw[dA z,zLP];by_cases D:e<=A[k].Lo
  ·rw[zG (x':=(A[k].Hi,((k+1:Nat):Int),acc++ [A[k]])) (by simp only[zDE,yF z,cQ,zM z,zA,D,dD,jP (l:=acc) (m:=[A[k]]) (by simp;omega),zC (k:=k) (by omega)])]
   rw[fd0 G m (k+1) _ _ (by omega) (by simp;omega),dK D]
   simp
  ·rw[zG (x':=(e,((k+1:Nat):Int),acc)) (by simp only[zDE,yF z,cQ,zM z,zA,D,dI,cP,zC (k:=k) (by omega)])]
   rw[fd0 G m (k+1) _ _ (by omega) (by omega),dQ D]
noncomputable def fM (n:Norm) (c:Collation) (o:Options) (p t cuts:List Int):List Range:=zLP 0 (aM n c o p t cuts)
section
variable {n:Norm} {c:Collation} (hn:NSm n) (hok:wV n) (hs:Sm c) (hg:∀g∈c.aE,g.bT.length<=MX)
include hn hok hs hg
theorem yBU (o:Options) {p t cuts:List Int} (z:TOk n p) (D:t.length<=12) (k:cuts.length<=1000):zDU n c o p t cuts=some (fM n c o p t cuts)/\zGZ n c o p t cuts=some (fM n c o p t cuts):=by
 have G:=(yBT n c o p t cuts).2.2;have h:=fd0 (A:=aM n c o p t cuts) (by omega) _ 0 0 [] (eD _) (by simp);rw[show ((0:Nat):Int)=0 from rfl,et,dS] at h;have:zGZ n c o p t cuts=some (fM n c o p t cuts):=by
  unfold zGZ;rw[z4K hn hok hs hg o z D k,zA,h];rfl
 exact⟨(z6R hn hok hs hg o z D k).trans this,this⟩
end
open Go.AV
def cA:Collation:={aB:=[{aV:=[65],aS:=[{aP:=5,aH:=32,aL:=8,aD:=false}]},{aV:=[97],aS:=[{aP:=5,aH:=32,aL:=2,aD:=false}]},{aV:=[769],aS:=[{aP:=0,aH:=40,aL:=2,aD:=false}]}],aE:=[],bG:=64448,aX:=32,bD:=2}
def oA:Options:={aG:=1,aD:=1,aN:=false,aQ:=false}
noncomputable def stZ (t:List Int):List aK:=(wk cA [] t).1
noncomputable def wZ (t:List Int):List (List Int):=wts (stZ t) oA
noncomputable def mZ (p t:List Int) (lo hi:Int):Bool:=decide (wZ (sl t lo hi)=wZ p)&&decide (stZ (t.take lo.toNat)++stZ (sl t lo hi)++stZ (t.drop hi.toNat)=stZ t)
noncomputable def aZ (p t cuts:List Int):List Range:=if zO9 (wZ p)=true then zI1 mkR (mZ p t) cuts t.length 0 t.length else []
theorem a1:aZ [65] [97,769,98,65] [0,2,3,4]= [mkR 0 2,mkR 3 4]:=by decide
theorem a2:aZ [65] [97,769,98,65] [0,1,2,3,4]= [mkR 0 1,mkR 3 4]:=by decide
theorem a3:aZ [769] [97,769,98,65] [1,2]= []:=by decide
theorem w1:zO9 (wZ [97])=true/\wZ [97]=wZ [65]:=by decide
theorem w2:zO9 (wZ [])=false:=by decide
open Go.AV
theorem yJ7 (n:Norm) (c:Collation) (o:Options) (p t cuts:List Int):(fM n c o p t cuts).length<=t.length:=by have:=(zJ5 (aM n c o p t cuts) 0).length_le;have:=(yBT n c o p t cuts).2.2;unfold fM;omega
open Go.AV
open Go.AV
abbrev nT:Norm:={aI:=[],aA:=[{aT:=225,To:=[97,769],bO:=[]}],aJ:={Ranges:=[]}}
abbrev cTop:Collation:={aB:=[],aE:=[],bG:=0,aX:=0,bD:=0}
abbrev zPA:Options:={aG:=3,aD:=1,aN:=false,aQ:=false}
theorem yBV:NSm nT:=⟨by decide,by decide,λm h=>(by simp only[eZ] at h;subst h;decide),λm h=>(by simp only[eZ] at h;subst h;decide),by decide⟩
theorem z0Q:wV nT:=by unfold wV zPO z8R;refine⟨⟨by simp,λx k=>by cases k⟩,⟨by simp,λm h=>?_⟩,by simp⟩;simp only[eZ] at h;subst h;simp
theorem yBW:Sm cTop:=⟨by decide,by decide,by decide,by decide⟩
theorem yBX:∀g∈cTop.aE,g.bT.length<=MX:=λg h=>by cases h
theorem yMS:MV nT.aA:=by refine⟨λm h=>?_,λm h=>?_,λm h=>?_,λk z=>by simp at z⟩;simp only[eZ] at h;subst h;unfold codesOk;decide;simp only[eZ] at h;subst h;decide;simp only[eZ] at h;subst h;exact .inl rfl
theorem yMT:DS nT.aA:=⟨λk z=>by simp at z,λm h=>(by simp only[eZ] at h;subst h;decide),λm h=>(by simp only[eZ] at h;subst h;decide)⟩
theorem yMU:VD0 nT:=by
 refine⟨⟨λk z=>(by cases z),λk z=>(by cases z),λk z=>(by cases z)⟩,yMS,trivial,λk z=>by simp at z,λm D=>?_,λm D=>?_,λm D=>?_,(z10 yMT (by decide)).2 ⟨λm D=>?_,λm D=>?_⟩⟩
 all_goals simp only[eZ] at D;subst D
 · exact λ_=> .inr rfl
 · decide
 · intro h;exact absurd rfl h
 ·
  refine⟨2,λe G=>?_⟩;have H:e∈([97,769]:List Int):=G;simp only[dN,List.not_mem_nil,or_false] at H;rcases H with rfl | rfl
  · exact λe G=>by cases (show e∈([]:List Int) from G)
  · exact λe G=>by cases (show e∈([]:List Int) from G)
 · decide
theorem yHB:usN nT=nT:=by unfold usN;rw[dK yMU]
theorem yJ8:zBG nT false [225]= [97,769]/\zBG nT false [97,769]= [97,769]/\zBG nT false [97]= [97]/\zBG nT false [98]= [98]:=by unfold zBG zH1;rw[yHB];decide
theorem zP8 {t:List Int} (h:t.length<=2):TOk nT t:=tk0 yBV z0Q (by omega)
theorem zXS {n:Norm} (z:NSm n) (k:wV n) {t:List Int} (h:TOk n t):vR n t=some (zBG n false t):=by unfold vR wW;simp only[zA];show ((xI n t false).bind _).bind _=_;rw[zTE z k h.1 (by have:=h.2;omega),zA,zA]
theorem yF0 {n:Norm} (z:NSm n) (h:wV n) {a b:List Int} (k:TOk n a) (hb:TOk n b):zBF n a b=some (decide (zBG n false a=zBG n false b)):=by unfold zBF;rw[zA,zXS z h k,zA,zXS z h hb,zA,yJY (by rw[zG9];have:=k.2;omega),zA]
theorem z6S:zE0=some true:=by
 have z:=zXS yBV z0Q (zP8 (t:=[225]) (by decide));have D:=yF0 yBV z0Q (zP8 (t:=[225]) (by decide)) (zP8 (t:=[97,769]) (by decide));have h:=cE yBV z0Q yBW yBX zPA (zP8 (t:=[97]) (by decide)) (zP8 (t:=[98]) (by decide));have G:=kE yBV z0Q yBW yBX zPA (zP8 (t:=[97]) (by decide));obtain⟨k,K,O,T⟩:=yJ8;have eo:xA zPA=zPA:=yG8 rfl;have cl:xM nT= []:=by rw[zTF,yHB]
 have H:sK nT cTop zPA [97]=zKG zPA (wk cTop [] [97]).1 [97]:=by unfold sK eLm;rw[eo,O,cl]
 have Z:sK nT cTop zPA [98]=zKG zPA (wk cTop [] [98]).1 [98]:=by unfold sK eLm;rw[eo,T,cl]
 have v1:zQ6 (zKG zPA (wk cTop [] [97]).1 [97]) (zKG zPA (wk cTop [] [98]).1 [98])= -1:=by decide
 have v2:(zKG zPA (wk cTop [] [97]).1 [97]).length=6:=by decide
 unfold cK at h;rw[H,Z,v1] at h;rw[H] at G;rw[k] at z;rw[k,K] at D;have Y:zIQ [97,769] [97,769]=some true:=by unfold zIQ;rw[zS5 (by simp)];simp
 unfold zE0;show ((vR nT [225]).bind _)=_;rw[z,zA,Y,zA,zF,j7];show ((zBF nT [225] [97,769]).bind _)=_;rw[D,zA,zF];show ((gM true (wR nT cTop zPA [97] [98])).bind _)=_;rw[j7,h,zA,zF];show ((gM true (zAJ nT cTop zPA [97])).bind _)=_;rw[j7,G,zA];exact congrArg some (show (true&&decide ((((zKG zPA (wk cTop [] [97]).1 [97]).length:Nat):Int)=6))=true by rw[v2];rfl)
def zH4 (k:Nat):List Int:=(List.range k).map λ(i:Nat)=>(i:Int)
theorem zTO {t:List Int} (D:t.length<=100):∀(m k:Nat),k+m=t.length+1->
  zB (λ(x:Int×(List Int))=>wH t x.1 x.2) ((k:Int),zH4 k)=some (zH4 (t.length+1))
 | 0,k,h=>by
  have e:decide ((k:Int)<=(t.length:Int))=false:=by simp;omega
  have:k=t.length+1:=by omega
  subst this;exact zD (by simp only[wH,e,cP])
 | m+1,k,h=>by
  have e:decide ((k:Int)<=(t.length:Int))=true:=by simp;omega
  have z:app (zH4 k) [(k:Int)]=some (zH4 (k+1)):=by
   rw[jP (by simp[zH4];omega)]
   simp[zH4,List.range_succ]
  rw[zG (x':=(((k+1:Nat):Int),zH4 (k+1))) (by
   simp only[wH,e,cQ,z,zA,zC (k:=k) (by omega)])]
  exact zTO D m (k+1) (by omega)
theorem yHC {n:Norm} {c:Collation} {o:Options} (h:o.aQ=false) (t:List Int):sK n c o t=kS n c o t:=by
 have:=zRW n c o t (zBG n false t);have e:oP o=o:=by cases o;simp only at h;subst h;rfl
 rw[e] at this;exact this
section
variable {s:bK} (hn:NSm s.Norm) (hok:wV s.Norm) (hs:Sm s.Collation) (hg:∀g∈s.Collation.aE,g.bT.length<=MX) (ho:s.Options.aQ=false)
include hn hok hs hg ho
theorem zTP {p t cuts:List Int} (H:TOk s.Norm p) (O:t.length<=12) {A:List Range} (Y:A.length<=1000) (K:∀r∈A,MtOk (mB s.Norm s.Collation s.Options p t) cuts t.length 0 r):∀(m k:Nat),k+m=A.length->
  zB (λ(x:Int)=>uA A t s p x) (k:Int)=some (.inl ())
 | 0,k,h=>zD (by simp only[uA,yY (show A.length<=k by omega),cP])
 | m+1,k,h=>by
  have D:k<A.length:=by omega
  have z:=K _ (eE D);have q0:=z.lo;have q1:=z.hi;have q2:=z.le;have b1:decide (A[k].Lo<0)=false:=by simp;omega
  have b2:decide (A[k].Hi<=A[k].Lo)=false:=by simp;omega
  have T:decide ((t.length:Int)<A[k].Hi)=false:=by simp;omega
  have s2:slc t A[k].Lo A[k].Hi=some (sl t A[k].Lo A[k].Hi):=by unfold slc;rw[dK (by omega)];rfl
  have Z:wR s.Norm s.Collation s.Options (sl t A[k].Lo A[k].Hi) p=some 0:=by
   rw[cE hn hok hs hg s.Options (tk3 hn hok O _ _) H];have G:=z.mt;unfold mB at G;simp only[dM,c8] at G;unfold cK;rw[yHC ho,yHC ho,yBI.2 (yBM.2 G.1)]
  rw[zG (x':=((k+1:Nat):Int)) (by
   simp only[uA,yF D,cQ,zM D,zA,zF,b1,b2,T,hJ,dO,j7,s2,Z,dD,dG,cP,zC (k:=k) (by omega)])]
  exact zTP H O Y K m (k+1) (by omega)
end
theorem top_TopMatches_true (s:bK) (p t:List Int) (ok:zC2 s) {q:Prop} (_:q) {q':Prop} (_:q'):zEH s p t=some true:=by
 obtain⟨b,hb,hp⟩:=yE1 s.Norm;have Y:∃z,zIP s=some z/\(z=true->NSm s.Norm/\Sm s.Collation):=by
  unfold zIP;rw[hb,zA,zF];cases b with
  | false=>exact⟨false,rfl,λh=>by cases h⟩
  | true=>
   simp only[j7,z9S,zA,dT];exact⟨_,rfl,λh=>⟨hp rfl,yIW h⟩⟩
 obtain⟨z,G,T⟩:=Y;unfold zEH;rw[G,zA,zF,zF,z6S];simp only[zIN];cases z with
 | false=>rfl
 | true=>
 obtain⟨O,hs⟩:=T rfl;have hg:=yEJ ok.2.1;cases hi:s.Options.aQ with
 | true=>rfl
 | false=>
 by_cases D:(p.length:Int)<=3;by_cases Z:(t.length:Int)<=7;have ha:=tk0 O ok.1 (t:=p) (by omega);have hc:=zTO (t:=t) (by omega) (t.length+1) 0 (by omega);have K:(zH4 (t.length+1)).length<=1000:=by simp[zH4];omega
 have H:zB (λ(x:Int×(List Int))=>wH t x.1 x.2) (0,[])=some (zH4 (t.length+1)):=hc;have hf:=(yBU O ok.1 hs hg s.Options ha (t:=t) (cuts:=zH4 (t.length+1)) (by omega) K).1;have hl:=yJ7 s.Norm s.Collation s.Options p t (zH4 (t.length+1));have k:=zJ5 (aM s.Norm s.Collation s.Options p t (zH4 (t.length+1))) 0;have hL:=zTP O ok.1 hs hg hi ha (t:=t) (by omega) (A:=fM s.Norm s.Collation s.Options p t (zH4 (t.length+1))) (by omega) (λr hr=>(yBT _ _ _ _ _ _).1 r (k.subset hr)) _ 0 (eD _);rw[show ((0:Nat):Int)=0 from rfl] at hL;simp only[D,Z,dD,dG,hJ,dO,j7,zA,zF,cP,H,hf,hL,eQ];simp only[D,Z,dD,dI,dG,hJ,dO,j7,zA,zF,Bool.or_true,cQ];simp only[D,dI,dG,hJ,dO,j7,wJ,zA,zF,Bool.or_true,cQ,dG,gS]
end Go.M


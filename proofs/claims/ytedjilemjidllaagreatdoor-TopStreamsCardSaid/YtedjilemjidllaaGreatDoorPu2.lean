/- What the plain counterparts answer. Conditions: none. -/
import Derived.Test.YtedjilemjidllaaGreatDoorPu1
set_option linter.unusedSimpArgs false
set_option linter.unusedVariables false
set_option linter.unnecessarySimpa false
namespace Go.M
open Go.AV
variable {l:List aG} {n:Norm} {i b k a d A B:Nat} {Y:Type} {c x f best:Int} {out text t codes p pre al items:LI} {r:aE} {s:Str} {key cl:Int->Int} {m:List (bD×Int)} {rules:List aE} {nx:List (aP×Int)}
theorem yXR (a0:List bL) (D:Nat) (hv:D<a0.length) (H:List Range) (T:H= [{Lo:=4352,Hi:=4370},{Lo:=4449,Hi:=4469},{Lo:=4520,Hi:=4546},{Lo:=44032,Hi:=55203}]):
  (zE (λ(x:Int)=>uW H a0 (D:Int) x) 0=some (.inl ())/\hgOk (nth a0 D))\/(zE (λ(x:Int)=>uW H a0 (D:Int) x) 0=some (.inr 11)/\¬hgOk (nth a0 D)):=by
 have h:=kA (body:=λ(x:Int)=>uW H a0 (D:Int) x) H.length (λk=> ¬((nth a0 D).Lo<=(nth H k).Hi/\(nth H k).Lo<=(nth a0 D).Hi)) (λy=>y=11) (λk K=>by
  have hl:H.length=4:=by rw[T];rfl
  simp only[uW,yY K,dO,zW hv,zW K,zA,zN,zL (k:=k) (by omega)];by_cases G:(nth a0 D).Lo<=(nth H k).Hi
  ·simp only[G,eH,vN,zA,eV,true_and]
   exact zAW (by simp) rfl
  ·simp only[G,e6,zBR,zA,fj,dN,false_and]
   exact .inl ⟨by simp,trivial⟩) (λk K=>by simp only[uW,kU K,dN])
 have e:(∀j,j<H.length->¬((nth a0 D).Lo<=(nth H j).Hi/\(nth H j).Lo<=(nth a0 D).Hi))↔hgOk (nth a0 D):=by
  subst T;unfold hgOk;constructor
  ·intro h;exact⟨h 0 (by decide),h 1 (by decide),h 2 (by decide),h 3 (by decide)⟩
  ·rintro⟨Z,G,h2,h3⟩ j hj
   have O:j<4:=hj
   match j,O with
   | 0,_=>exact Z
   | 1,_=>exact G
   | 2,_=>exact h2
   | 3,_=>exact h3
 rw[e] at h;rcases h with h | ⟨y,rfl,h⟩
 ·exact .inl h
 ·exact .inr h
theorem yMR {l:List bL} (hl:l.length<=30000):Ver (zGZ l) (CV l):=by
 have T:=kA (body:=λ(x:Int)=>zCY l x) l.length (λk=>spOk (nth l k)) (λy=>y≠0) (λk D=>by
  simp only[zCY,yY D,dO,zW D,zA,zN,zG5,zL (k:=k) (by omega),spOk,vld];generalize nth l k=q;by_cases H:0<=q.Lo<;>by_cases K:q.Lo<=1114111<;>by_cases h3:0<=q.Hi<;>by_cases h4:q.Hi<=1114111<;>by_cases h5:q.Hi<q.Lo<;>by_cases h6:q.Value<1<;>by_cases h7:254<q.Value<;>simp[H,K,h3,h4,h5,h6,h7,vN,zBR,zA]<;>omega) (λk D=>by simp only[zCY,kU D,dN])
 unfold zGZ Ver;rcases T with ⟨T,O⟩ | ⟨y,Z,T,O⟩
 rw[T];simp only[zA,fw];have H:=zP3 (body:=λ(x:Int)=>zCZ l x) l.length (λk=>adOk (nth l k) (nth l (k+1))) (λy=>y≠0) (λk D=>by
  have G:k<l.length:=by omega
  have w:=(O k G).2.1;have w0:=(O k G).1;have w1:=(O k G).2.2.1;simp only[zCZ,yY D,dO,zW D,zA,zN,zL (k:=k+1) (by omega),zP1 (k:=k) (by omega),zW G];by_cases a1:(nth l (k+1)).Lo<=(nth l k).Hi;simp only[a1,eH,dY,zBR,zA,fj,fS,dO];exact .inr ⟨by unfold adOk;omega,4,by decide,rfl⟩
  simp only[a1,e6,eD,vN,zA,eV,fo];rw[j9 (n:=(nth l k).Hi+1) (by omega) (by omega)];by_cases a2:(nth l (k+1)).Lo=(nth l k).Hi+1;simp only[a2,eH,vN,zA,eV];exact zAW (by unfold adOk;simp only[d7];omega) (by decide)
  simp only[a2,e6,zBR,zA,fj,dN];exact .inl ⟨by unfold adOk;omega,trivial⟩) (λk D=>by simp only[zCZ,kU D,dN])
 rcases H with ⟨H,p1⟩ | ⟨y,Z,H,p1⟩;rw[H];simp only[zA,fw,ref20_hangul];have K:=kA (body:=λ(x:Int)=>zC0 l [{Lo:=4352,Hi:=4370},{Lo:=4449,Hi:=4469},{Lo:=4520,Hi:=4546},{Lo:=44032,Hi:=55203}] x) l.length (λk=>hgOk (nth l k)) (λy=>y≠0) (λk D=>by
  simp only[zC0,yY D,dO,zL (k:=k) (by omega)];rcases yXR l k D _ rfl with ⟨h,p⟩ | ⟨h,p⟩
  rw[h];exact .inl ⟨p,rfl⟩;rw[h];exact .inr ⟨p,11,by decide,rfl⟩) (λk D=>by simp only[zC0,kU D,dN])
 rcases K with ⟨K,p2⟩ | ⟨y,Z,K,p2⟩;rw[K];exact⟨0,rfl,by simp only[true_iff];exact⟨O,p1,p2⟩⟩
 rw[K];exact⟨y,rfl,by simp only[Z,io];exact λh=>p2 h.hg⟩
 rw[H];exact⟨y,rfl,by simp only[Z,io];exact λh=>p1 h.ad⟩
 rw[T];exact⟨y,rfl,by simp only[Z,io];exact λh=>O h.sp⟩
theorem yMS {l:List bL} (Z:l.length<=30000) (h:CV l) (c:Int):zIT l c=some (clE l c):=by
 obtain⟨e,O,hp⟩:=yMR Z;unfold zIT;rw[O,zA,hp.2 h];simp only[eH,dY,dN];have hb:∀k,k<l.length->vK l c (k:Int)=if zUP c (nth l k) then some (.done (.inr (nth l k).Value)) else some (.next ((k+1:Nat):Int)):=λk D=>by
  simp only[vK,yY D,dO,zW D,zA,zN,zL (k:=k) (by omega),zUP];by_cases G:(nth l k).Lo<=c
  · by_cases K:c<=(nth l k).Hi<;>simp[G,K,vN]
  · simp[G,zBR]
 have key:∀(d k:Nat),l.length-k=d->k<=l.length->(∀j,j<k->zUP c (nth l j)=false)->(zE (λ(x:Int)=>vK l c x) (k:Int)).bind (λy=>y.elim (λ_=>some 0) λy=>some y)=some (clE l c):=by
  intro d
  induction d with
  | zero=>
   intro k G K H;have:k=l.length:=by omega
   subst this;rw[zP (y:= .inl ()) (by simp only[vK,kU (d9 _),dN])];unfold clE;rw[z4L H];rfl
  | succ d ih=>
   intro k G K H;have D:k<l.length:=by omega
   cases hi:zUP c (nth l k) with
   | true=>
    rw[zP (y:= .inr (nth l k).Value) (by show vK l c (k:Int)=_;rw[hb k D,hi];rfl)]
    unfold clE;rw[zTE D H hi];rfl
   | false=>
    rw[zI (x':=((k+1:Nat):Int)) (by show vK l c (k:Int)=_;rw[hb k D,hi];rfl)]
    refine ih (k+1) (by omega) (by omega) λj T=>?_;by_cases e:j=k
    · subst e;exact hi
    · exact H j (by omega)
 exact key l.length 0 (by omega) (by omega) (λj T=>by omega)
theorem yU4 {a b c:aG} (D:mlt a b) (h:mlt b c):mlt a c:=by
 unfold mlt at*;rcases D with D | ⟨D,H⟩
 rcases h with h | ⟨h,G⟩;exact .inl (by omega);exact .inl (by omega);rcases h with h | ⟨h,G⟩;exact .inl (by omega);exact .inr ⟨by omega,List.lt_trans H G⟩
theorem yQV {a b:aG} (h:mlt a b):¬(a.aN=b.aN/\a.bU=b.bU):=by
 rintro⟨G,D⟩
 unfold mlt at h;rcases h with h | ⟨_,h⟩
 omega;rw[D] at h;exact List.lt_irrefl _ h
theorem yEI (h:∀k,k+1<l.length->mlt (nth l k) (nth l (k+1))):∀(d i:Nat),i+d+1<l.length->mlt (nth l i) (nth l (i+d+1))
 | 0,i,hi=>h i hi
 | d+1,i,hi=>by
  have D:=yEI h d i (by omega);have G:=h (i+d+1) (by omega);have:i+(d+1)+1=i+d+1+1:=by omega
  rw[this];exact yU4 D G
theorem yXS (x y:Str):(x==y)=decide (x=y):=by rw[i4];simp
section
variable (hl:l.length<=30000) (hto:∀m∈l,m.To.length<=30000) (htg:∀m∈l,m.bU.length<=MX)
include hl hto htg
omit hl hto htg in
theorem yMT {m:aG} (G:m.To.length<=30000):∃b,zIQ m=some b/\(b=true↔codesOk m):=by
 unfold zIQ;have h:=kA (body:=λ(x:Int)=>zC1 m x) m.To.length (λj=>vld (nth m.To j)=true) (λy=>y=false) (λj D=>by
  simp only[zC1,yY D,dO,zW D,zA,zG5,zL (k:=j) (by omega)];exact zAW (by simp) rfl) (λj D=>by simp only[zC1,kU D,dN])
 rw[zAP (p:=λc=>vld c=true)] at h;rcases h with ⟨h,p⟩ | ⟨y,rfl,h,p⟩
 rw[h];simp only[zA,fw,zG5];exact⟨_,rfl,⟨λa=>⟨a,p⟩,λa=>a.1⟩⟩;rw[h];exact⟨false,rfl,by simp only[fg,io];exact λa=>p a.2⟩
omit hto htg in
theorem yMU:∃b,zIR l=some b/\(b=true->¬∀k,k+1<l.length->mlt (nth l k) (nth l (k+1)))/\(b=false->True):=by
 unfold zIR;have D:∀i,i<l.length->(zE (λ(x:Int)=>uX (i:Int) l x) 0=some (.inl ())/\∀j,j<i->¬((nth l i).aN=(nth l j).aN/\(nth l i).bU=(nth l j).bU))\/(∃y,y=true/\zE (λ(x:Int)=>uX (i:Int) l x) 0=some (.inr y)/\¬∀j,j<i->¬((nth l i).aN=(nth l j).aN/\(nth l i).bU=(nth l j).bU)):=by
  intro i hi;refine kA (body:=λ(x:Int)=>uX (i:Int) l x) i _ (λy=>y=true) (λj G=>?_) (λj G=>by simp only[uX,kU G,dN]);have H:j<l.length:=by omega
  simp only[uX,yY G,dO,zW hi,zW H,zA,zN,zL (k:=j) (by omega),yXS];by_cases a:(nth l i).aN=(nth l j).aN;simp only[a,eH,vN,zA,eV,true_and];exact zAW (by simp) rfl;simp only[a,e6,zBR,zA,fj,dN,false_and];exact .inl ⟨by simp,trivial⟩
 have h:=kA (body:=λ(x:Int)=>zC2 l x) l.length (λi=> ∀j,j<i->¬((nth l i).aN=(nth l j).aN/\(nth l i).bU=(nth l j).bU)) (λy=>y=true) (λk K=>by
  simp only[zC2,yY K,dO,zL (k:=k) (by omega)];rcases D k K with ⟨h,p⟩ | ⟨y,T,h,p⟩
  rw[h];exact .inl ⟨p,rfl⟩;rw[h];exact .inr ⟨p,y,T,rfl⟩) (λj G=>by simp only[zC2,kU G,dN])
 rcases h with ⟨h,p⟩ | ⟨y,rfl,h,p⟩;rw[h];exact⟨false,rfl,λh=>(by cases h),λ_=>trivial⟩;rw[h];refine⟨true,rfl,λ_ O=>p λi hi j G=>?_,λ_=>trivial⟩;have:=yEI O (i-j-1) j (by omega);rw[show j+(i-j-1)+1=i by omega] at this;have:=yQV this;exact λ⟨a,b⟩=>this ⟨a.symm,b.symm⟩
theorem yU5:∃e,zEY l=some e/\(e=0->(∀m∈l,codesOk m)/\(∀m∈l,m.To.length<=64)/\∀m∈l,tagOk m)/\(e≠0->¬MV l):=by
 unfold zEY;have G:=kA (body:=λ(x:Int)=>zAD l x) l.length (λk=>codesOk (nth l k)) (λy=>y≠0) (λk D=>by
  obtain⟨b,hb,T⟩:=yMT (hto _ (wP D));simp only[zAD,yY D,dO,zW D,zA,hb,zL (k:=k) (by omega)];exact zAW (by rw[<-T];simp) (by decide)) (λk D=>by simp only[zAD,kU D,dN])
 rw[zAP (p:=codesOk)] at G;rcases G with ⟨G,Z⟩ | ⟨y,O,G,Z⟩
 case inr=>rw[G];exact⟨y,rfl,λh=>absurd h O,λ_ h=>Z h.co⟩
 rw[G];simp only[zA,fw];have H:=kA (body:=λ(x:Int)=>zAE l x) l.length (λk=>(nth l k).To.length<=64) (λy=>y≠0) (λk D=>by
  simp only[zAE,yY D,dO,zW D,zA,zL (k:=k) (by omega)];exact zAW (by simp only[d7];omega) (by decide)) (λk D=>by simp only[zAE,kU D,dN])
 rw[zAP (p:=λ(m:aG)=>m.To.length<=64)] at H;rcases H with ⟨H,p1⟩ | ⟨y,O,H,p1⟩
 case inr=>rw[H];exact⟨y,rfl,λh=>absurd h O,λ_ h=>p1 h.sz⟩
 rw[H];simp only[zA,fw];have K:=kA (body:=λ(x:Int)=>zAF l x) l.length (λk=>tagOk (nth l k)) (λy=>y≠0) (λk D=>by
  simp only[zAF,yY D,dO,zW D,zA,zN,zL (k:=k) (by omega),tagOk,yXS];by_cases ht:(nth l k).bU= []
  ·
   simp only[ht,eH,dY,zBR,zA,fj,dN];exact .inl ⟨.inl trivial,trivial⟩
  ·
   simp only[ht,e6,eD,vN,zA,yQB (htg _ (wP D)),eV,false_or];exact zAW (by simp) (by decide)) (λk D=>by simp only[zAF,kU D,dN])
 rw[zAP (p:=tagOk)] at K;rcases K with ⟨K,p2⟩ | ⟨y,O,K,p2⟩
 case inr=>rw[K];exact⟨y,rfl,λh=>absurd h O,λ_ h=>p2 h.tg⟩
 rw[K];simp only[zA,fw];obtain⟨b,hb,T,_⟩:=yMU hl;rw[hb,zA];cases b with
 | true=>exact⟨5,rfl,λh=>absurd h (by decide),λ_ h=>T rfl h.lt⟩
 | false=>exact⟨0,rfl,λ_=>⟨Z,p1,p2⟩,λh=>absurd rfl h⟩
theorem yU6:Ver (zIS l) (MV l):=by
 obtain⟨e,he,T,Z⟩:=yU5 hl hto htg;unfold zIS;rw[he,zA];by_cases G:e=0
 case neg=>
  have:(!decide (e=0))=true:=by simp[G]
  rw[this,dO];exact⟨e,rfl,by simp only[G,io];exact Z G⟩
 obtain⟨p0,p1,p2⟩:=T G;rw[G];simp only[eH,dY,dN];have D:=zP3 (body:=λ(x:Int)=>zC3 l x) l.length (λk=>mlt (nth l k) (nth l (k+1))) (λy=>y≠0) (λk H=>by
  have K:k<l.length:=by omega
  simp only[zC3,yY H,dO,zW H,zA,zL (k:=k+1) (by omega),zP1 (k:=k) (by omega),zW K,zJL,zN,yL5];exact zAW (by unfold mlt;simp only[fG,fR,eY,dS,not_or,Classical.not_and_iff_not_or_not]) (by decide)) (λk H=>by simp only[zC3,kU H,dN])
 rcases D with ⟨D,O⟩ | ⟨y,hy,D,O⟩
 · rw[D];exact⟨0,rfl,by simp only[true_iff];exact⟨p0,p1,p2,O⟩⟩
 · rw[D];exact⟨y,rfl,by simp only[hy,io];exact λh=>O h.lt⟩
end
section
variable {β:Type} [Inhabited β] (upd:List β->Nat->β)
def zUT:Nat->Nat->List β->List β
 | 0,_,out=>out
 | d+1,i,out=>zUT d (i+1) (out.set i (upd out i))
def zK8 (n:Nat):Nat->List β->List β
 | 0,out=>out
 | k+1,out=>zK8 n k (zUT upd n 0 out)
end
section
variable {β:Type} [Inhabited β] {upd:List β->Nat->β} {n:Nat} {Inv:List β->Prop}
theorem z4P {out:List β} {j:Nat} {x: β} (hi:i<out.length):nth (out.set i x) j=if j=i then x else nth out j:=by unfold nth;rw[eT,eT,List.getElem?_set];by_cases h:i=j;subst h;simp[hi];rw[dU h,dU (λe=>h e.symm)]
omit [Inhabited β] in
theorem zWL:∀(d i:Nat) (out:List β),(zUT upd d i out).length=out.length
 | 0,_,_=>rfl
 | d+1,i,out=>by rw[zUT,zWL d];simp
omit [Inhabited β] in
theorem zWM (hi:∀i out,i<n->out.length=n->Inv out->Inv (out.set i (upd out i))):∀(d i:Nat) (out:List β),i+d=n->out.length=n->Inv out->Inv (zUT upd d i out)
 | 0,_,_,_,_,h=>h
 | d+1,i,out,G,D,h=>by
  rw[zUT];exact zWM hi d (i+1) _ (by omega) (by simp[D]) (hi i out (by omega) D h)
omit [Inhabited β] in
theorem z4Q (hi:∀i out,i<n->out.length=n->Inv out->Inv (out.set i (upd out i))):∀(k:Nat) (out:List β),out.length=n->Inv out->Inv (zK8 upd n k out)/\(zK8 upd n k out).length=n
 | 0,_,D,h=>⟨h,D⟩
 | k+1,out,D,h=>by
  rw[zK8];exact z4Q hi k _ (by rw[zWL,D]) (zWM hi n 0 out (by omega) D h)
theorem yMV {R R':Nat->Prop} {t:Nat->β} (Z:∀j,R j->R' j) (hi:∀i out,i<n->out.length=n->Inv out->Inv (out.set i (upd out i)))
  (hs:∀out i,i<n->out.length=n->Inv out->(∀j,j<n->R j->nth out j=t j)->R' i->upd out i=t i):
  ∀(d i:Nat) (out:List β),i+d=n->out.length=n->Inv out->(∀j,j<n->R j->nth out j=t j)->(∀j,j<i->R' j->nth out j=t j)->∀j,j<n->R' j->nth (zUT upd d i out) j=t j
 | 0,i,out,hd,K,h,O,T,j,H,D=>T j (by omega) D
 | d+1,i,out,hd,K,h,O,T,j,H,D=>by
  have G:i<n:=by omega
  have hu:R' i->upd out i=t i:=hs out i G K h O;rw[zUT];refine yMV Z hi hs d (i+1) _ (by omega) (by simp[K]) (hi i out G K h) (λj H D=>?_) (λj H D=>?_) j H D
  ·rw[z4P (by omega)]
   split
   ·rename_i e;subst e;exact hu (Z _ D)
   ·exact O j H D
  ·rw[z4P (by omega)]
   split
   ·rename_i e;subst e;exact hu D
   ·exact T j (by omega) D
theorem yB6 {R:Nat->Nat->Prop} {t:Nat->β} (K:∀r j,R r j->R (r+1) j) (hi:∀i out,i<n->out.length=n->Inv out->Inv (out.set i (upd out i)))
  (O:∀r out i,i<n->out.length=n->Inv out->(∀j,j<n->R r j->nth out j=t j)->R (r+1) i->upd out i=t i):
  ∀(k r:Nat) (out:List β),out.length=n->Inv out->(∀j,j<n->R r j->nth out j=t j)->∀j,j<n->R (r+k) j->nth (zK8 upd n k out) j=t j
 | 0,_,_,_,_,h,j,D,H=>h j D H
 | k+1,r,out,G,h,T,j,D,H=>by
  rw[zK8];have:=yMV (R:=R r) (R':=R (r+1)) (K r) hi (O r) n 0 out (by omega) G h T (λj D=>by omega);refine yB6 K hi O k (r+1) _ (by rw[zWL,G]) (zWM hi n 0 out (by omega) G h) this j D ?_;rw[show r+1+k=r+(k+1) by omega];exact H
omit [Inhabited β] in
theorem zYJ {X:Type} (mk:Nat->List β->X) {body:X->Option (Stp X Y)} (D:List β->Y)
  (hb:∀i out,i<n->out.length=n->Inv out->body (mk i out)=some (.next (mk (i+1) (out.set i (upd out i)))))
  (hi:∀i out,i<n->out.length=n->Inv out->Inv (out.set i (upd out i)))
  (H:∀out,body (mk n out)=some (.done (D out))):∀(d i:Nat) (out:List β),i+d=n->out.length=n->Inv out->zE body (mk i out)=some (D (zUT upd d i out))
 | 0,i,out,K,G,h=>by
  have:i=n:=by omega
  subst this;exact zP (H out)
 | d+1,i,out,K,G,h=>by
  rw[zI (hb i out (by omega) G h),zUT];exact zYJ mk D hb hi H d (i+1) _ (by omega) (by simp[G]) (hi i out (by omega) G h)
omit [Inhabited β] in
theorem zYK {X:Type} (mk:Nat->List β->X) {body:X->Option (Stp X Y)} (D:List β->Y) {N:Nat}
  (hb:∀r out,r<N->out.length=n->Inv out->body (mk r out)=some (.next (mk (r+1) (zUT upd n 0 out))))
  (hi:∀i out,i<n->out.length=n->Inv out->Inv (out.set i (upd out i)))
  (H:∀out,body (mk N out)=some (.done (D out))):∀(k r:Nat) (out:List β),r+k=N->out.length=n->Inv out->zE body (mk r out)=some (D (zK8 upd n k out))
 | 0,r,out,K,G,h=>by
  have:r=N:=by omega
  subst this;exact zP (H out)
 | k+1,r,out,K,G,h=>by
  rw[zI (hb r out (by omega) G h),zK8];exact zYK mk D hb hi H k (r+1) _ (by omega) (by rw[zWL,G]) (zWM hi n 0 out (by omega) G h)
end
theorem z82 {A:Type} {p:Nat->A->Option Y}:∀{l:List A} {k:Nat} {y:Y},chk p l k=some y->∃j,∃h:j<l.length,p (k+j) l[j]=some y
 | [],_,_,h=>by cases h
 | x::l,k,y,h=>by
  unfold chk at h;cases D:p k x with
  | some z=>
   rw[D] at h;exact⟨0,by simp,by simpa[D] using h⟩
  | none=>
   rw[D] at h;obtain⟨j,G,e⟩:=z82 h;exact⟨j+1,by simpa using G,by rw[show k+(j+1)=k+1+j by omega];simpa using e⟩
theorem z12 {A:Type} {p:Nat->A->Option Y}:∀{l:List A} {k j:Nat} (h:j<l.length),p (k+j) l[j]≠none->∃i,∃hi:i<l.length,i<=j/\chk p l k=p (k+i) l[i]
 | [],_,_,h,_=>by cases h
 | x::l,k,j,h,D=>by
  unfold chk;cases G:p k x with
  | some z=>exact⟨0,by simp,g5 _,by simp[G]⟩
  | none=>
   cases j with
   | zero=>exact absurd (by simpa using G) D
   | succ j=>
    obtain⟨i,hi,H,e⟩:=z12 (p:=p) (l:=l) (k:=k+1) (j:=j) (by simpa using h) (by rw[show k+1+j=k+(j+1) by omega];simpa using D)
    exact⟨i+1,by simpa using hi,by omega,by rw[show k+(i+1)=k+1+i by omega];simpa using e⟩
def pM (c:Int) (b:Bool) (k:Nat) (m:aG):Option Nat:=if m.aN=c/\(b ||(m.bU== []))=true then some k else none
def fi (l:List aG) (c:Int) (b:Bool):Option Nat:=chk (pM c b) l 0
theorem zTH {b:Bool} (h:fi l c b=some i):i<l.length/\(nth l i).aN=c/\(b ||((nth l i).bU== []))=true:=by
 obtain⟨j,D,e⟩:=z82 h;unfold pM at e;split at e;rename_i G;injection e with e;have:i=j:=by omega
 subst this;rw[zCQ D];exact⟨D,G⟩;cases e
theorem yEJ {b:Bool} (h:fi l c b=none):∀m∈l,¬(m.aN=c/\(b ||(m.bU== []))=true):=by intro m G H;obtain⟨j,D,rfl⟩:=gK G;have:=zYB h j D;unfold pM at this;rw[eG H] at this;cases this
theorem yMW (T:DS l) (c:Int) (b:Bool):(∃i,fi l c b=some i/\i<l.length/\(nth l i).aN=c/\fnB l b c=some (nth l i).To)\/(fi l c b=none/\fnB l b c=none):=by
 cases H:fi l c b with
 | some i=>
  obtain⟨h,G,D⟩:=zTH H;refine .inl ⟨i,rfl,h,G,?_⟩;have:=zJT T (wP h);rw[G] at this;unfold fnB;rw[this];simp only[D,eK]
 | none=>
  refine .inr ⟨rfl,?_⟩;cases Z:fnB l b c with
  | none=>rfl
  | some to=>
   obtain⟨m,h,_,D⟩:=zKS Z;obtain⟨K,O⟩:=zIH h;exact absurd ⟨O,D⟩ (yEJ H m K)
def fiI (l:List aG) (c:Int) (b:Bool):Int:=match fi l c b with
 | some i=>(i:Int)
 | none=> -1
section
variable (hd:DS l)
def zRW (l:List aG) (out:List Bool) (i:Nat):Bool:=(nth l i).To.all λe=>match fi l e true with
 | some m=>nth out m
 | none=>true
def yH2 (l:List aG) (out:List Bool):Prop:= ∀j,j<l.length->nth out j=true->WW l (nth l j).aN
include hd
theorem yQW {out:List Bool} (h:yH2 l out) (hi:i<l.length) (Z:zRW l out i=true):WW l (nth l i).aN:=by
 refine yMG λe H=>?_;rw[z8S hd (wP hi)] at H;have:=eO.1 Z e H;rcases yMW hd e true with ⟨m,G,D,O,_⟩ | ⟨G,D⟩
 rw[G] at this;have:=h m D this;rw[O] at this;exact this;cases K:syl e with
 | true=>exact yUU hd K
 | false=>
  refine yD2 ?_;unfold dep;rw[dU (by simp[K])];rw[zYG] at D;cases T:l.find? (isF e) with
  | none=>rfl
  | some m=>rw[T] at D;cases D
theorem z13 (i:Nat) (out:List Bool) (hi:i<l.length) (H:out.length=l.length) (h:yH2 l out):yH2 l (out.set i (zRW l out i)):=by intro j G D;rw[z4P (by omega)] at D;split at D;rename_i e;subst e;exact yQW hd h hi D;exact h j G D
theorem yQX (r:Nat) (out:List Bool) (i:Nat) (hi:i<l.length) (_hl:out.length=l.length) (H:∀j,j<l.length->DD l r (nth l j).aN->nth out j=true) (O:DD l (r+1) (nth l i).aN):zRW l out i=true:=by
 refine eO.2 λe K=>?_;have:=O (nth l i) (zJT hd (wP hi)) e K;rcases yMW hd e true with ⟨m,h,D,G,_⟩ | ⟨h,_⟩
 rw[h];exact H m D (by rw[G];exact this)
 rw[h]
theorem yMX:(∀j,j<l.length->nth (zK8 (zRW l) l.length l.length (List.replicate l.length false)) j=true)↔∀m∈l,WW l m.aN:=by
 have K:yH2 l (List.replicate l.length false):=by
  intro j D T;rw[zCQ (by simpa using D)] at T;simp at T
 constructor;intro h;have hv:=(z4Q (upd:=zRW l) (n:=l.length) (Inv:=yH2 l) (z13 hd) l.length _ (by simp) K).1;rw[<-zAP (p:=λm:aG=>WW l m.aN)];exact λk O=>hv k O (h k O);intro H j D;have hp:=yMH hd H;refine yB6 (upd:=zRW l) (n:=l.length) (Inv:=yH2 l) (R:=λr j=>j<l.length/\DD l r (nth l j).aN) (t:=λ_=>true) (λr j h=>⟨h.1,zP7 h.2⟩) (z13 hd) (λr out i hi hl _ Z G=>yQX hd r out i hi hl (λj D G=>Z j D ⟨D,G⟩) G.2) l.length 0 _ (by simp) K (λj D G=>?_) j D ⟨D,by rw[fM];exact hp _ (wP D)⟩
 have:l.find? (isF (nth l j).aN)=none:=G.2;rw[zJT hd (wP D)] at this;cases this
end
section
variable (hd:DS l) (hD:∀c,DD l l.length c) {b:Bool}
def lenOf (l:List aG) (b:Bool) (out:LI) (e:Int):Int:=match fi l e b with
 | some m=>nth out m
 | none=>((hdE e).length:Int)
def updL (l:List aG) (b:Bool) (out:LI) (i:Nat):Int:=if (b ||((nth l i).bU== []))=true then min (max (((nth l i).To.map (lenOf l b out)).sum) 1) 65 else 1
def z4R (out:LI):Prop:= ∀x∈out,0<=x/\x<=65
theorem yQY (out:LI) (i:Nat):0<=updL l b out i/\updL l b out i<=65:=by unfold updL;split<;>omega
theorem zUU (i:Nat) (out:LI) (_hi:i<l.length) (_hl:out.length=l.length) (h:z4R out):z4R (out.set i (updL l b out i)):=by
 intro x D;rcases iO D with D | rfl
 exact h x D;exact yQY out i
include hd hD
theorem yQZ (hi:i<l.length):wt l b (nth l i).aN=if (b ||((nth l i).bU== []))=true then min (max (((nth l i).To.map (wt l b)).sum) 1) 65 else 1:=by
 rw[z11 hD];unfold fnB;rw[zJT hd (wP hi)];by_cases h:(b ||((nth l i).bU== []))=true;simp only[h,eK];have G:=zYE hd (wP hi);have D:hdE (nth l i).aN= [(nth l i).aN]:=by unfold hdE;rw[dU (by simp[G])]
 rw[dU h];simp only[D];rw[dU h];rfl
omit hD in
theorem yMY {e:Int} (H:fnB l b e=none->wt l b e=((hdE e).length:Int)) (h:∀m,m<l.length->(nth l m).aN=e->nth out m=wt l b e):lenOf l b out e=wt l b e:=by
 unfold lenOf;rcases yMW hd e b with ⟨m,D,G,K,_⟩ | ⟨D,G⟩
 rw[D];exact h m G K;rw[D,H G]
theorem yQ0 (r:Nat) (out:LI) (i:Nat) (hi:i<l.length) (G:∀j,j<l.length->DD l r (nth l j).aN->nth out j=wt l b (nth l j).aN) (T:DD l (r+1) (nth l i).aN):updL l b out i=wt l b (nth l i).aN:=by
 rw[yQZ hd hD hi];unfold updL;split
 ·have:(nth l i).To.map (lenOf l b out)=(nth l i).To.map (wt l b):=fZ λe H=>by
   have h:=T (nth l i) (zJT hd (wP hi)) e H;exact yMY hd (λO=>by rw[z11 hD,O]) λm K D=>by rw[<-D];exact G m K (by rw[D];exact h)
  rw[this]
 ·rfl
theorem yEK (j:Nat) (D:j<l.length):nth (zK8 (updL l b) l.length l.length (List.replicate l.length 0)) j=wt l b (nth l j).aN:=by
 have H:z4R (List.replicate l.length 0):=λx O=>by rw[(List.mem_replicate.1 O).2];omega
 refine yB6 (upd:=updL l b) (n:=l.length) (Inv:=z4R) (R:=λr j=>j<l.length/\DD l r (nth l j).aN) (t:=λj=>wt l b (nth l j).aN) (λr j h=>⟨h.1,zP7 h.2⟩) zUU (λr out i hi T _ K G=>yQ0 hd hD r out i hi (λj D G=>K j D ⟨D,G⟩) G.2) l.length 0 _ (by simp) H (λj D G=>?_) j D ⟨D,by rw[fM];exact hD _⟩
 have:l.find? (isF (nth l j).aN)=none:=G.2;rw[zJT hd (wP D)] at this;cases this
end
def plF (n:Int):Bool->LI->Bool×LI
 | true,l=>(true,l)
 | false,[]=>(false,[])
 | false,x::l=>if n<=x then (true,if n<x then n::x::l else x::l) else ((plF n false l).1,x::(plF n false l).2)
def plE (n:Int):LI->LI
 | []=>[n]
 | x::l=>if n<=x then (if n<x then n::x::l else x::l) else x::plE n l
theorem yST (n:Int):∀l:LI,(if (plF n false l).1=true then (plF n false l).2 else (plF n false l).2++ [n])=plE n l
 | []=>rfl
 | x::l=>by
  have:=yST n l;unfold plF plE;by_cases h:n<=x;simp[h];simp only[h,eE];rw[<-this];split<;>simp
theorem yB7 {l:LI} {n:Int} (hl:l.length<=30000):∀(d k:Nat) (b:Bool) (out:LI),l.length-k=d->k<=l.length->out.length<=2*k->
  zE (λ(x:Bool×Int×LI)=>xC l n x.1 x.2.1 x.2.2) (b,(k:Int),out)=some ((plF n b (l.drop k)).1,out++(plF n b (l.drop k)).2):=by
 intro d
 induction d with
 | zero=>
  intro k b out h1 h2 h3;rw[eJ (show l.length<=k by omega)];refine zP ?_;simp only[xC,kU (show l.length<=k by omega),dN];cases b<;>simp[plF]
 | succ d ih=>
  intro k b out h1 h2 h3;have D:k<l.length:=by omega
  have H:∀{o:LI} (x:Int),o.length<=2*k+1->app o [x]=some (o++ [x]):=λ{o} x T=>j7 (by simp;omega)
  rw[eA D];have nx:∀(G:Bool) (K:LI),K.length<=2*(k+1)->xC l n b (k:Int) out=some (.next (G,((k+1:Nat):Int),K))->(plF n G (l.drop (k+1))).1=(plF n b (l[k]::l.drop (k+1))).1->K++(plF n G (l.drop (k+1))).2=out++(plF n b (l[k]::l.drop (k+1))).2->
    zE (λ(x:Bool×Int×LI)=>xC l n x.1 x.2.1 x.2.2) (b,(k:Int),out)=some ((plF n b (l[k]::l.drop (k+1))).1,out++(plF n b (l[k]::l.drop (k+1))).2):=by
   intro G K T hb Z e2;rw[zI (body:=λ(x:Bool×Int×LI)=>xC l n x.1 x.2.1 x.2.2) (x:=(b,(k:Int),out)) hb,ih (k+1) G K (by omega) (by omega) T,Z,e2]
  cases b with
  | true=>
   refine nx true (out++ [l[k]]) (by simp;omega) ?_ ?_ ?_
   ·simp only[xC,yY D,dO,zN,dY,zBR,zA,fj,dN,z8 D,H _ (show out.length<=2*k+1 by omega),zL (k:=k) (by omega)]
   ·simp[plF]
   ·simp[plF]
  | false=>
   by_cases h:n<=l[k]
   ·by_cases O:n<l[k]
    ·refine nx true (out++ [n]++ [l[k]]) (by simp;omega) ?_ ?_ ?_
     ·simp only[xC,yY D,dO,zN,eD,vN,zA,eV,z8 D,h,O,eH,H _ (show out.length<=2*k+1 by omega),H _ (show (out++ [n]).length<=2*k+1 by simp;omega),zL (k:=k) (by omega)]
     ·simp[plF,h]
     ·simp[plF,h,O]
    ·refine nx true (out++ [l[k]]) (by simp;omega) ?_ ?_ ?_
     ·simp only[xC,yY D,dO,zN,eD,vN,zA,eV,z8 D,h,O,eH,e6,dN,H _ (show out.length<=2*k+1 by omega),zL (k:=k) (by omega)]
     ·simp[plF,h]
     ·simp[plF,h,O]
   ·refine nx false (out++ [l[k]]) (by simp;omega) ?_ ?_ ?_
    ·simp only[xC,yY D,dO,zN,eD,vN,zA,eV,z8 D,h,e6,dN,H _ (show out.length<=2*k+1 by omega),zL (k:=k) (by omega)]
    ·simp[plF,h]
    ·simp[plF,h]
theorem yEL (n:Int):∀l:LI,(plF n false l).2.length<=l.length+1
 | []=>by simp[plF]
 | x::l=>by
  have:=yEL n l;unfold plF;by_cases h:n<=x;by_cases D:n<x<;>simp[h,D];simp only[h,eE,eF];omega
theorem zTI {l:LI} (H:l.length<=30000) (n:Int):zEZ l n=some (plE n l):=by
 unfold zEZ;have h:=yB7 (n:=n) H l.length 0 false [] (by omega) (by omega) (by simp);have D:=yEL n l;rw[e9,eN] at h;have G:zE (λ(x:Bool×Int×LI)=>xC l n x.1 x.2.1 x.2.2) (false,0,[])=some ((plF n false l).1,(plF n false l).2):=h;rw[G,zA,<-yST];cases (plF n false l).1 with
 | true=>rfl
 | false=>simp only[eD,dO,j7 (show (plF n false l).2.length+ [n].length<=4294967296 by simp;omega),zA];rfl
def Gd (l:LI):Prop:=l.Pairwise (· < ·)/\∀x∈l,0<=x/\x<=1114111
theorem z4S (n:Int):∀{l:LI} {x:Int},x∈plE n l->x=n\/x∈l
 | [],x,h=>by simp[plE] at h;exact .inl h
 | y::l,x,h=>by
  unfold plE at h;split at h;split at h;rcases eP.1 h with h | h
  exact .inl h;exact .inr h;exact .inr h;rcases eP.1 h with h | h
  exact .inr (by simp[h]);rcases z4S n h with h | h
  exact .inl h;exact .inr (by simp[h])
theorem yEM (n:Int):∀{l:LI},l.Pairwise (· < ·)->(plE n l).Pairwise (· < ·)
 | [],_=>by simp[plE]
 | y::l,h=>by
  obtain⟨G,K⟩:=gB.1 h;unfold plE;split;split;rename_i H;refine gB.2 ⟨λz D=>?_,h⟩;rcases eP.1 D with rfl | D;exact H;have:=G z D;omega;exact h;rename_i H;refine gB.2 ⟨λz D=>?_,yEM n K⟩;rcases z4S n D with rfl | D;omega;exact G z D
theorem zUV {n:Int} (D:0<=n/\n<=1114111) {l:LI} (h:Gd l):Gd (plE n l):=by
 refine⟨yEM n h.1,λx hx=>?_⟩;rcases z4S n hx with rfl | hx
 exact D;exact h.2 x hx
theorem zQC (n:Int):∀l:LI,(plE n l).length<=l.length+1
 | []=>by simp[plE]
 | x::l=>by
  have:=zQC n l;unfold plE;split;split<;>simp;simp only[eF];omega
theorem z4T {n:Int}:∀{l:LI},(∀x∈l,x<n)->plE n l=l++ [n]
 | [],_=>rfl
 | y::l,h=>by
  have G:=h y (by simp);unfold plE;rw[dU (by omega),z4T λx D=>h x (by simp[D])];rfl
def cuS (c:LI) (r:Range):LI:=if 0<=r.Hi/\r.Hi<1114111 then plE (r.Hi+1) (if vld r.Lo=true then plE r.Lo c else c) else (if vld r.Lo=true then plE r.Lo c else c)
theorem yEN (c:LI) (r:Range):(cuS c r).length<=c.length+2:=by
 have D:=zQC r.Lo c;unfold cuS;split
 ·
  have h:=zQC (r.Hi+1) (if vld r.Lo=true then plE r.Lo c else c);split at h<;>split<;>simp_all<;>omega
 · split<;>omega
theorem yU7 {c:LI} {r:Range} (h:Gd c):Gd (cuS c r):=by
 have G:Gd (if vld r.Lo=true then plE r.Lo c else c):=by
  split;rename_i D;unfold vld at D;simp only[eC,d7] at D;exact zUV D h;exact h
 unfold cuS;split;exact zUV (by omega) G;exact G
def cuE (l:List Range) (c:LI):LI:=l.foldl cuS c
theorem z4U:∀(l:List Range) {c:LI},Gd c->Gd (cuE l c)
 | [],_,h=>h
 | r::l,_,h=>z4U l (yU7 h)
theorem z4V:∀(l:List Range) (c:LI),(cuE l c).length<=c.length+2*l.length
 | [],c=>by simp[cuE]
 | r::l,c=>by
  have h:=z4V l (cuS c r);have D:=yEN c r;show (cuE l (cuS c r)).length<=_;simp only[eF];omega
theorem yH4 {s:Set} (hl:s.Ranges.length<=12):∀(d k:Nat) (c:LI),s.Ranges.length-k=d->k<=s.Ranges.length->c.length<=100+2*k->
  zE (λ(x:LI×Int)=>uO s x.1 x.2) (c,(k:Int))=some (cuE (s.Ranges.drop k) c):=by
 intro d
 induction d with
 | zero=>
  intro k c K O T;rw[eJ (show s.Ranges.length<=k by omega)];refine zP ?_;simp only[uO,kU (show s.Ranges.length<=k by omega),dN];rfl
 | succ d Z=>
  intro k c K O T;have G:k<s.Ranges.length:=by omega
  have hs:=yEN c s.Ranges[k];have hb:uO s c (k:Int)=some (.next (cuS c s.Ranges[k],((k+1:Nat):Int))):=by
   have hp:=zQC s.Ranges[k].Lo c;simp only[uO,yY G,dO,z8 G,zA,zG5,zN,zL (k:=k) (by omega),zTI (show c.length<=30000 by omega)];unfold cuS;by_cases H:vld s.Ranges[k].Lo=true
   ·simp only[H,dO,zA,eK]
    by_cases h:0<=s.Ranges[k].Hi
    ·by_cases D:s.Ranges[k].Hi<1114111
     ·simp only[h,D,eH,g9,dO,and_self,eK]
      rw[j9 (n:=s.Ranges[k].Hi+1) (by omega) (by omega),zTI (by omega)];rfl
     ·simp[h,D]
    ·simp[h]
   ·simp only[H,fg,eE,dN,zA]
    by_cases h:0<=s.Ranges[k].Hi
    ·by_cases D:s.Ranges[k].Hi<1114111
     ·simp only[h,D,eH,g9,dO,and_self,eK]
      rw[j9 (n:=s.Ranges[k].Hi+1) (by omega) (by omega),zTI (by omega)];rfl
     ·simp[h,D]
    ·simp[h]
  rw[zI (body:=λ(x:LI×Int)=>uO s x.1 x.2) (x:=(c,(k:Int))) hb,Z (k+1) _ (by omega) (by omega) (by omega),eA G];rfl
theorem yEO {s:Set} (G:s.Ranges.length<=12) {c:LI} (H:c.length<=100):zH3 c s=some (plE 0 (cuE s.Ranges c)):=by unfold zH3;have h:=yH4 G s.Ranges.length 0 c (by omega) (by omega) (by omega);rw[e9] at h;have D:zE (λ(x:LI×Int)=>uO s x.1 x.2) (c,0)=some (cuE s.Ranges c):=h;have:=z4V s.Ranges c;rw[D,zA,zTI (by omega)];rfl
def zDL (l:List Range) (c:Int):Bool:=l.any λr=>vld c&&decide (r.Lo<=c)&&decide (c<=r.Hi)
theorem yMZ {s:Set} (K:s.Ranges.length<=30000) (c:Int):zH4 s c=some (zDL s.Ranges c):=by
 unfold zH4;have h:=kA (body:=λ(x:Int)=>zFG s c x) s.Ranges.length (λk=> ¬(vld c&&decide ((nth s.Ranges k).Lo<=c)&&decide (c<=(nth s.Ranges k).Hi))=true) (λy=>y=true) (λk D=>by
  simp only[zFG,yY D,dO,zG5,zA,zN,zW D,zL (k:=k) (by omega)];cases O:vld c with
  | false=>simp only[zBR,zA,fj,dN];exact .inl ⟨by simp,trivial⟩
  | true=>
   simp only[vN,zA,eV];by_cases H:(nth s.Ranges k).Lo<=c;simp only[H,eH,vN,zA,eV];exact zAW (by simp) rfl;simp only[H,e6,zBR,zA,fj,dN];exact .inl ⟨by simp,trivial⟩) (λk D=>by simp only[zFG,kU D,dN])
 rw[zAP (p:=λr:Range=> ¬(vld c&&decide (r.Lo<=c)&&decide (c<=r.Hi))=true)] at h;rcases h with ⟨h,p⟩ | ⟨y,rfl,h,p⟩
 rw[h];have:zDL s.Ranges c=false:=by unfold zDL;rw[iy];exact p
 rw[this];rfl;rw[h];have:zDL s.Ranges c=true:=by
  cases G:zDL s.Ranges c with
  | true=>rfl
  | false=>exfalso;apply p;unfold zDL at G;rw[iy] at G;exact G
 rw[this];rfl
def nxt:LI->Int
 | []=>1114111
 | d::_=>d-1
def coF (has:Int->Bool):LI->Bool->List Range->List Range
 | [],_,o=>o
 | c::cs,D,o=>if has c=true then (if D=true then coF has cs true (match o with
   | q::h=>{q with Hi:=nxt cs}::h
   | []=>[]) else coF has cs true ({Lo:=c,Hi:=nxt cs}::o)) else coF has cs false o
theorem yQ1 {C:LI} {s:Set} (hl:s.Ranges.length<=12) (hC:C.length<=200) (hg:Gd C):∀(d k:Nat) (D:Bool) (o:List Range),C.length-k=d->k<=C.length->o.length<=k->(D=true->o≠[])->
  zE (λ(x:Bool×Int×(List Range))=>jR C s {Ranges:=[]} 1 x.1 x.2.1 x.2.2) (D,(k:Int),o.reverse)=some (coF (zDL s.Ranges) (C.drop k) D o).reverse:=by
 intro d
 induction d with
 | zero=>
  intro k D o h1 h2 h3 h4;rw[eJ (show C.length<=k by omega)];refine zP ?_;simp only[jR,kU (show C.length<=k by omega),dN];rfl
 | succ d ih=>
  intro k D o h1 h2 h3 h4;have hk:k<C.length:=by omega
  have he:zH4 {Ranges:=[]} C[k]=some false:=by rw[yMZ (by simp)];rfl
  have ad:(cond (decide (((k+1:Nat):Int)<(C.length:Int))) ((yO C ((k+1:Nat):Int)).bind λag=>some (wi (ag-1))) (some 1114111):Option Int)=some (nxt (C.drop (k+1))):=by
   by_cases K:k+1<C.length
   ·have:=hg.2 _ (fI K)
    rw[yY K,dO,z8 K,zA,j9 (by omega) (by omega),eA K];rfl
   ·rw[kU (by omega),dN,eJ (by omega)]
    rfl
  rw[eA hk];have nx:∀(G:Bool) (Z:List Range),Z.length<=k+1->(G=true->Z≠[])->jR C s {Ranges:=[]} 1 D (k:Int) o.reverse=some (.next (G,((k+1:Nat):Int),Z.reverse))->coF (zDL s.Ranges) (C.drop (k+1)) G Z=coF (zDL s.Ranges) (C[k]::C.drop (k+1)) D o->
    zE (λ(x:Bool×Int×(List Range))=>jR C s {Ranges:=[]} 1 x.1 x.2.1 x.2.2) (D,(k:Int),o.reverse)=some (coF (zDL s.Ranges) (C[k]::C.drop (k+1)) D o).reverse:=by
   intro G Z ho ac hb e;rw[zI (body:=λ(x:Bool×Int×(List Range))=>jR C s {Ranges:=[]} 1 x.1 x.2.1 x.2.2) (x:=(D,(k:Int),o.reverse)) hb,ih (k+1) G Z (by omega) (by omega) ho ac,e]
  have O:jR C s {Ranges:=[]} 1 D (k:Int) o.reverse=((cond (zDL s.Ranges C[k]&&D) ((yO o.reverse (wi ((o.reverse.length:Int)-1))).bind λah=>(zCV o.reverse (wi ((o.reverse.length:Int)-1)) ({ah with Hi:=nxt (C.drop (k+1))})).bind λH=>some H) (some o.reverse)).bind λ(y3:List Range)=>
    (cond (zDL s.Ranges C[k]&& !D) ((app y3 [({Lo:=C[k],Hi:=nxt (C.drop (k+1))}:Range)]).bind λr=>some r) (some y3)).bind λ(y5:List Range)=>some (Stp.next (zDL s.Ranges C[k],((k+1:Nat):Int),y5))):=by
   unfold jR;simp only[zL (k:=k) (show k+1<=9223372036854775807 by omega),yY hk,dO,ad,zA,z8 hk,yMZ (show s.Ranges.length<=30000 by omega),he,zLG,eH,zN,Bool.or_false]
  cases T:zDL s.Ranges C[k] with
  | false=>
   refine nx false o (by omega) (λh=>by cases h) ?_ ?_
   ·rw[O,T];rfl
   ·simp[coF,T]
  | true=>
   cases D with
   | false=>
    refine nx true ({Lo:=C[k],Hi:=nxt (C.drop (k+1))}::o) (by simp;omega) (λ_=>by simp) ?_ ?_
    ·rw[O,T]
     simp only[i6,dN,zA,eD,g9,dO,j7 (show o.reverse.length+ [({Lo:=C[k],Hi:=nxt (C.drop (k+1))}:Range)].length<=4294967296 by simp;omega)]
     simp
    ·simp[coF,T]
   | true=>
    cases o with
    | nil=>exact absurd rfl (h4 rfl)
    | cons q o=>
     refine nx true ({q with Hi:=nxt (C.drop (k+1))}::o) (by simp only[eF] at h3 ⊢;omega) (λ_=>by simp) ?_ ?_
     ·rw[O,T]
      have e1:wi (((q::o).reverse.length:Int)-1)=((o.length:Nat):Int):=by
       simp only[eF] at h3;have hL:((q::o).reverse.length:Int)=(o.length:Int)+1:=by simp
       rw[hL,j9 (by omega) (by omega)];omega
      have e2:(q::o).reverse=o.reverse++q:: []:=by simp
      rw[e1,e2,zCT (by simp),zA,zF9 (by simp)];simp
     ·simp[coF,T]
theorem yM0 {l:List Range} (D:l.length<=12):zJ9 l=some {Ranges:=(coF (zDL l) (plE 0 (plE 0 (cuE l []))) false []).reverse}:=by unfold zJ9 zIF;have H:=z4V l [];have h2:=zQC 0 (cuE l []);have h3:=zQC 0 (plE 0 (cuE l []));simp only[fE] at H;have e0:cuE ([]:List Range) (plE 0 (cuE l []))=plE 0 (cuE l []):=rfl;have K:Gd (plE 0 (plE 0 (cuE l []))):=zUV (by omega) (zUV (by omega) (z4U l ⟨.nil,λx O=>by cases O⟩));rw[yEO (s:={Ranges:=l}) D (by simp),zA,yEO (s:={Ranges:=[]}) (by simp) (show (plE 0 (cuE l [])).length<=100 by omega)];rw[zA];have h:=yQ1 (s:={Ranges:=l}) D (by omega) K _ 0 false [] rfl (by omega) (by simp) (λh=>by cases h);rw[e9] at h;have G:zE (λ(x:Bool×Int×(List Range))=>jR (plE 0 (plE 0 (cuE l []))) {Ranges:=l} {Ranges:=[]} 1 x.1 x.2.1 x.2.2) (false,0,[])=some (coF (zDL l) (plE 0 (plE 0 (cuE l []))) false []).reverse:=h;change ((zE (λ(x:Bool×Int×(List Range))=>jR (plE 0 (plE 0 (cuE l []))) {Ranges:=l} {Ranges:=[]} 1 x.1 x.2.1 x.2.2) (false,0,[])).bind λZ=>some ({Ranges:=Z}:Set)).bind (λT=>some T)=_;rw[G];rfl
theorem zWO {has:Int->Bool}:∀(C:LI) (T:Bool) (o:List Range),Gd C->CanR o->(T=true->∀c,C.head? =some c->∃q O,o=q::O/\q.Hi=c-1/\q.Lo<=c)->(T=false->∀c q,C.head? =some c->o.head? =some q->q.Hi+1<c)->(T=true->o≠[])->CanR (coF has C T o)
 | [],_,_,_,h,_,_,_=>h
 | c::cs,T,o,hg,Z,h1,h2,h3=>by
  obtain⟨ha,hb⟩:=gB.1 hg.1;have K:Gd cs:=⟨hb,λx hx=>hg.2 x (by simp[hx])⟩;have hc:=hg.2 c (by simp);have D:c<=nxt cs/\nxt cs<=1114111/\∀d,cs.head? =some d->nxt cs=d-1/\c<d:=by
   cases cs with
   | nil=>exact⟨hc.2,iq _,λd G=>by cases G⟩
   | cons d cs=>
    have h5:=ha d (by simp);have h6:=hg.2 d (by simp);refine⟨show c<=d-1 by omega,show d-1<=1114111 by omega,λe he=>?_⟩;simp only[iJ,gD] at he;subst he;exact⟨rfl,h5⟩
  unfold coF;split;split;rename_i H;obtain⟨q,O,rfl,e1,e2⟩:=h1 H c rfl;refine zWO cs true _ K ?_ (λ_ d G=>⟨_,_,rfl,(D.2.2 d G).1,?_⟩) (λh=>by cases h) (λ_=>by simp);have hq:=Z.head;unfold zDY at hq;cases O with
  | nil=>show zDY _;unfold zDY;simp only;omega
  | cons z O=>exact⟨by unfold zDY;simp only;omega,Z.2.1,Z.2.2⟩
  have:=(D.2.2 d G).2;show q.Lo<=d;omega;rename_i H;simp only[iW] at H;refine zWO cs true _ K ?_ (λ_ d G=>⟨_,_,rfl,(D.2.2 d G).1,?_⟩) (λh=>by cases h) (λ_=>by simp);cases o with
  | nil=>show zDY _;unfold zDY;simp only;omega
  | cons z O=>exact⟨by unfold zDY;simp only;omega,h2 H c z rfl rfl,Z⟩
  have:=(D.2.2 d G).2;show c<=d;omega;refine zWO cs false o K Z (λh=>by cases h) (λ_ d q G hq=>?_) (λh=>by cases h);have h7:=(D.2.2 d G).2;cases T with
  | true=>
   obtain⟨q',O,rfl,e1,_⟩:=h1 rfl c rfl;simp only[iJ,gD] at hq;subst hq;omega
  | false=>
   have:=h2 rfl c q rfl hq;omega
def zN8 (l:List Range):LI:=l.flatMap λr=>r.Lo::if r.Hi<1114111 then [r.Hi+1] else []
theorem yM1:∀(l:List Range) (c:LI),Can l->(∀x∈c,∀r,l.head? =some r->x<r.Lo)->cuE l c=c++zN8 l
 | [],c,_,_=>by simp[cuE,zN8]
 | r::l,c,h,G=>by
  have T:=h.head;unfold zDY at T;have Z:vld r.Lo=true:=by unfold vld;simp;omega
  have O:plE r.Lo c=c++ [r.Lo]:=z4T λx hx=>G x hx r rfl;have K:cuS c r=c++(r.Lo::if r.Hi<1114111 then [r.Hi+1] else []):=by
   unfold cuS;rw[eG Z,O];by_cases D:r.Hi<1114111;rw[eG ⟨by omega,D⟩,eG D,z4T];simp;intro x hx;rcases fk.1 hx with hx | hx
   have:=G x hx r rfl;omega;simp only[fY] at hx;omega;rw[dU (λh=>D h.2),dU D]
  show cuE l (cuS c r)=_;rw[yM1 l (cuS c r) h.tail,K];simp[zN8];intro x hx q H;have hg:r.Hi+1<q.Lo:=h.gap q (by cases l with | nil=>cases H | cons a l=>simp only[iJ,gD] at H;simp[H])
  rw[K] at hx;rcases fk.1 hx with hx | hx
  have:=G x hx r rfl;omega;rcases eP.1 hx with rfl | hx
  omega;split at hx;simp only[fY] at hx;omega;cases hx
theorem yU8 {l:List Range} (h:Can l) {r:Range} (D:r∈l):zDL l r.Lo=true:=by have:=h.ok r D;unfold zDY at this;unfold zDL;refine gX.2 ⟨r,D,?_⟩;unfold vld;simp;omega
theorem yM2:∀{l:List Range},Can l->∀{r:Range},r∈l->zDL l (r.Hi+1)=false
 | [],_,r,H=>by cases H
 | a::l,h,r,H=>by
  unfold zDL;rw[iy];intro q G;have K:∀(c:Int) (q:Range),(c<q.Lo\/q.Hi<c)->¬(vld c&&decide (q.Lo<=c)&&decide (c<=q.Hi))=true:=by
   intro c q Z;simp only[eC,d7];omega
  rcases eP.1 H with rfl | D;refine K _ _ ?_;rcases eP.1 G with rfl | G;omega;have:=h.gap q G;omega;rcases eP.1 G with rfl | G;refine K _ _ ?_;have T:=h.gap r D;have O:=h.tail.ok r D;unfold zDY at O;omega;have:=yM2 h.tail D;unfold zDL at this;rw[iy] at this;exact this q G
theorem yEP {has:Int->Bool}:∀(l:List Range) (o:List Range),Can l->(∀r∈l,has r.Lo=true/\(r.Hi<1114111->has (r.Hi+1)=false))->coF has (zN8 l) false o=l.reverse++o
 | [],o,_,_=>by simp[zN8,coF]
 | r::l,o,h,H=>by
  obtain⟨G,K⟩:=H r (by simp);have ih:=yEP (has:=has) l (r::o) h.tail λq Z=>H q (by simp[Z]);have hr:=h.head;unfold zDY at hr;by_cases D:r.Hi<1114111
  ·have e:zN8 (r::l)=r.Lo::(r.Hi+1)::zN8 l:=by simp[zN8,D]
   have en:nxt ((r.Hi+1)::zN8 l)=r.Hi:=by show r.Hi+1-1=r.Hi;omega
   rw[e];unfold coF;rw[eG G,dU (by simp),en];unfold coF;rw[dU (by rw[K D];simp),ih]
   simp
  ·have T:l= []:=by
    cases l with
    | nil=>rfl
    | cons q l=>
     have:=h.2.1;have O:=h.tail.head;unfold zDY at O;omega
   subst T;have e:zN8 [r]= [r.Lo]:=by simp[zN8,D]
   rw[e];unfold coF;rw[eG G,dU (by simp)];unfold coF;have:nxt []=r.Hi:=by show (1114111:Int)=r.Hi;omega
   rw[this];rfl
theorem yM3 {l:LI} (h:Gd l):plE 0 (plE 0 l)=plE 0 l:=by
 cases l with
 | nil=>rfl
 | cons x l=>
  have:=h.2 x (by simp);by_cases D:0<x;have e:plE 0 (x::l)=0::x::l:=by unfold plE;rw[eG (by omega),eG D]
  rw[e];unfold plE;rw[eG (by omega),dU (by omega)];have e:plE 0 (x::l)=x::l:=by unfold plE;rw[eG (by omega),dU D]
  rw[e,e]
theorem yM4 {l:List Range} (h:Can l):(coF (zDL l) (plE 0 (plE 0 (cuE l []))) false []).reverse=l:=by
 rw[yM3 (z4U l ⟨.nil,λx D=>by cases D⟩),yM1 l [] h (λx D=>by cases D),eN];have K:=yEP (has:=zDL l) l [] h λr H=>⟨yU8 h H,λ_=>yM2 h H⟩;rw[fm] at K;have G:plE 0 (zN8 l)=zN8 l\/(plE 0 (zN8 l)=0::zN8 l/\zDL l 0=false):=by
  cases l with
  | nil=>exact .inr ⟨rfl,rfl⟩
  | cons r l=>
   have H:=h.head;unfold zDY at H;have e:zN8 (r::l)=r.Lo::((if r.Hi<1114111 then [r.Hi+1] else [])++zN8 l):=by simp[zN8]
   rw[e];by_cases D:0<r.Lo;refine .inr ⟨by unfold plE;rw[eG (by omega),eG D],?_⟩
   unfold zDL;rw[iy];intro q hq;simp only[eC,d7];rcases eP.1 hq with rfl | hq
   omega;have:=h.gap q hq;omega;exact .inl (by unfold plE;rw[eG (by omega),dU D])
 rcases G with G | ⟨G,O⟩;rw[G,K,gY];rw[G];unfold coF;rw[dU (by rw[O];simp),K,gY]
theorem yH6 (l:List Range):Can (coF (zDL l) (plE 0 (plE 0 (cuE l []))) false []).reverse:=by have G:Gd (plE 0 (plE 0 (cuE l []))):=zUV (by omega) (zUV (by omega) (z4U l ⟨.nil,λx K=>by cases K⟩));have:=zWO (has:=zDL l) _ false [] G trivial (λh=>by cases h) (λ_ c q _ H=>by cases H) (λh=>by cases h);have D:=z4K _ [] this trivial (λ_ _ _ h=>by cases h);simpa using D
theorem yQ2 {a b:Set} (T:a.Ranges.length<=30000):zKA a b=some (decide (a.Ranges=b.Ranges)):=by
 unfold zKA;by_cases G:a.Ranges.length=b.Ranges.length;have e:(!decide ((a.Ranges.length:Int)=(b.Ranges.length:Int)))=false:=by simp[G]
 rw[e,dN];have h:=kA (body:=λ(x:Int)=>zEG a b x) a.Ranges.length (λk=>nth a.Ranges k=nth b.Ranges k) (λy=>y=false) (λk D=>by
  simp only[zEG,yY D,dO,zW D,zW (show k<b.Ranges.length by omega),zA,zL (k:=k) (by omega)];exact zAW (by simp) rfl) (λk D=>by simp only[zEG,kU D,dN])
 have O:(∀j,j<a.Ranges.length->nth a.Ranges j=nth b.Ranges j)↔a.Ranges=b.Ranges:=by
  constructor;intro h;refine iE G λi H K=>?_;have:=h i H
  rwa [zCQ H,zCQ K] at this
  intro h j _;rw[h]
 rw[O] at h;rcases h with ⟨h,p⟩ | ⟨y,rfl,h,p⟩
 rw[h];simp[p];rw[h];simp[p];have e:(!decide ((a.Ranges.length:Int)=(b.Ranges.length:Int)))=true:=by simp;omega
 rw[e,dO];have:a.Ranges≠b.Ranges:=λh=>G (by rw[h]);simp[this]
theorem yM5 {s:Set} (D:s.Ranges.length<=12):∃b,zG0 s=some b/\(b=true↔Can s.Ranges):=by unfold zG0;rw[yM0 D,zA,yQ2 (by omega),zA];refine⟨_,rfl,?_⟩;simp only[d7];constructor;intro h;rw[h];exact yH6 _;intro h;rw[yM4 h]
theorem yB8 (O:l.length<=30000) (c:Int) (b:Bool):zGM l c b=some (fiI l c b):=by
 unfold zGM;have h:zE (λ(x:Int)=>zEH l c b x) 0=some (toS (chk (λk m=>(pM c b k m).map λ(i:Nat)=>(i:Int)) l 0)):=by
  refine zP2 l _ (λk G=>?_) (λk G=>?_);simp only[zEH,yY G,dO,z8 G,zA,zN,zL (k:=k) (by omega),pM];by_cases D:l[k].aN=c;cases b with
  | true=>simp[D,zBR,stp]
  | false=>
   cases H:(l[k].bU== []) with
   | true=>simp only[D,eH,eD,g9,vN,zA,fo,H,eV,dO,and_self,eK,gJ,stp]
   | false=>simp only[D,eH,eD,g9,vN,zA,fo,H,eV,dN,fg,and_false,eE,iu,stp]
  simp[D,zBR,stp];simp only[zEH,kU G,dN]
 rw[h,zA,zTB];have e:∀(L:List aG) (k:Nat),chk (λk m=>(pM c b k m).map λ(i:Nat)=>(i:Int)) L k=(chk (pM c b) L k).map λ(i:Nat)=>(i:Int):=by
  intro L
  induction L with
  | nil=>intro k;rfl
  | cons x L K=>
   intro k;unfold chk;cases pM c b k x with
   | none=>exact K (k+1)
   | some y=>rfl
 rw[e];unfold fiI fi;cases chk (pM c b) l 0<;>rfl
theorem yM6 (c:Int):zH5 c=some (hkE c):=by
 unfold zH5 hkE;simp only[zN];by_cases h:4352<=c/\c<4371;rw[eG h];have:(decide (4352<=c)&&decide (c<=4370))=true:=by simp;omega
 rw[this];rfl;rw[dU h];have K:(decide (4352<=c)&&decide (c<=4370))=false:=by simp only[eY,dS];omega
 rw[K,dN];by_cases D:4449<=c/\c<4470;rw[eG D];have:(decide (4449<=c)&&decide (c<=4469))=true:=by simp;omega
 rw[this];rfl;rw[dU D];have O:(decide (4449<=c)&&decide (c<=4469))=false:=by simp only[eY,dS];omega
 rw[O,dN];by_cases G:4520<=c/\c<4547;rw[eG G];have:(decide (4520<=c)&&decide (c<=4546))=true:=by simp;omega
 rw[this];rfl;rw[dU G];have T:(decide (4520<=c)&&decide (c<=4546))=false:=by simp only[eY,dS];omega
 rw[T,dN];by_cases H:c<44032\/55204<=c;rw[eG H];have:(decide (44032<=c)&&decide (c<=55203))=false:=by simp only[eY,dS];omega
 rw[this];rfl;rw[dU H];have Z:(decide (44032<=c)&&decide (c<=55203))=true:=by simp;omega
 rw[Z,dO,j9 (n:=c-44032) (by omega) (by omega)];have er:zKY (c-44032) 28=some ((c-44032)%28):=by
  unfold zKY;rw[dU (by decide),g4 (by omega)]
 rw[er,zA];by_cases h5:(c-44032)%28=0<;>simp[h5]
theorem yXT (c:Int):zD2 c=some (hdE c):=by
 unfold zD2;rw[yM6,zA];cases D:syl c with
 | false=>
  have:decide (hkE c<4)=true:=by
   simp only[d7];have:¬4<=hkE c:=λh=>by have:=(zJO c).2 h;rw[D] at this;cases this
   omega
  rw[this,dO];unfold hdE;rw[dU (by simp[D])]
 | true=>
  have Z:=(zJO c).1 D;have:decide (hkE c<4)=false:=by simp only[dS];omega
  rw[this,dN];have hr:44032<=c/\c<=55203:=by unfold syl at D;simpa using D
  rw[j9 (n:=c-44032) (by omega) (by omega)];have H:zR7 wi (c-44032) 28=some ((c-44032)/28):=by
   unfold zR7;rw[dU (by decide),iL (by omega),j9 (by omega) (by omega)]
  have K:zR7 wi ((c-44032)/28) 21=some ((c-44032)/28/21):=by
   unfold zR7;rw[dU (by decide),iL (by omega),j9 (by omega) (by omega)]
  have O:zKY ((c-44032)/28) 21=some ((c-44032)/28%21):=by
   unfold zKY;rw[dU (by decide),g4 (by omega)]
  have T:zKY (c-44032) 28=some ((c-44032)%28):=by
   unfold zKY;rw[dU (by decide),g4 (by omega)]
  simp only[H,K,O,T,zA];unfold hdE;rw[eG D,j9 (n:=4352+(c-44032)/28/21) (by omega) (by omega),j9 (n:=4449+(c-44032)/28%21) (by omega) (by omega)];by_cases G:0<(c-44032)%28;rw[eG G,j9 (n:=4520+(c-44032)%28) (by omega) (by omega),j9 (n:=4520+(c-44032)%28-1) (by omega) (by omega)];simp only[G,eH,dO];rw[j7 (by simp)];rfl;rw[dU G];simp only[G,e6,dN];rfl
section
variable (hl:l.length<=30000) (hto:∀m∈l,m.To.length<=30000)
include hl hto
theorem yQ3 {out:List Bool} (Z:out.length=l.length) (hi:i<l.length):∀(d k:Nat) (b:Bool),(nth l i).To.length-k=d->k<=(nth l i).To.length->
  zE (λ(x:Bool×Int)=>uP l (i:Int) out x.1 x.2) (b,(k:Int))=some (b&&((nth l i).To.drop k).all λe=>match fi l e true with | some m=>nth out m | none=>true):=by
 have D:=hto _ (wP hi);intro d
 induction d with
 | zero=>
  intro k b G H;rw[eJ (show (nth l i).To.length<=k by omega)];refine zP ?_;simp only[uP,zW hi,zA,kU (show (nth l i).To.length<=k by omega),dN,List.all_nil,Bool.and_true]
 | succ d O=>
  intro k b G H;have h:k<(nth l i).To.length:=by omega
  have hb:uP l (i:Int) out b (k:Int)=some (.next (b&&(match fi l (nth l i).To[k] true with | some m=>nth out m | none=>true),((k+1:Nat):Int))):=by
   simp only[uP,zW hi,zA,yY h,dO,z8 h,yB8 hl,zN,zL (k:=k) (by omega)];unfold fiI;cases K:fi l (nth l i).To[k] true with
   | none=>simp[zBR]
   | some m=>
    obtain⟨T,_,_⟩:=zTH K;have e:decide (((m:Nat):Int)<0)=false:=by simp
    simp only[e,eD,Bool.and_true,fo];cases b with
    | false=>simp[zBR]
    | true=>simp only[vN,zW (show m<out.length by omega),zA,eV]
  rw[zI (body:=λ(x:Bool×Int)=>uP l (i:Int) out x.1 x.2) (x:=(b,(k:Int))) hb,O (k+1) _ (by omega) (by omega),eA h,iK,Bool.and_assoc]
theorem yQ4:zKB l=some (zK8 (zRW l) l.length l.length (List.replicate l.length false)):=by
 unfold zKB;rw[zRT (by omega),zA];have G:∀(out:List Bool),out.length=l.length->zE (λ(x:Int×(List Bool))=>zCF l x.1 x.2) (0,out)=some (zUT (zRW l) l.length 0 out):=λout h=>
  zYJ (upd:=zRW l) (n:=l.length) (Inv:=λ_=>True) (body:=λ(x:Int×(List Bool))=>zCF l x.1 x.2) (λi out=>((i:Int),out)) id (λi out hi h _=>by
   have:=yQ3 hl hto h hi _ 0 true rfl (by omega);rw[e9,eV] at this;have D:zE (λ(x:Bool×Int)=>uP l (i:Int) out x.1 x.2) (true,0)=some (zRW l out i):=this;simp only[zCF,yY hi,dO,D,zA,zW (show i<out.length by omega),zHJ (show i<out.length by omega),zL (k:=i) (by omega)]) (λ_ _ _ _ _=>trivial) (λout=>by simp only[zCF,kU (d9 _),dN];rfl) l.length 0 out (by omega) h trivial
 have H:=zYK (upd:=zRW l) (n:=l.length) (Inv:=λ_=>True) (body:=λ(x:Int×(List Bool))=>zCG l x.1 x.2) (λi out=>((i:Int),out)) id (N:=l.length) (λr out O h _=>by
  simp only[zCG,yY O,dO,G out h,zA,zL (k:=r) (by omega)]) (λ_ _ _ _ _=>trivial) (λout=>by simp only[zCG,kU (d9 _),dN];rfl) l.length 0 (List.replicate l.length false) (by omega) (by simp) trivial
 have K:zE (λ(x:Int×(List Bool))=>zCG l x.1 x.2) (0,List.replicate l.length false)=some (zK8 (zRW l) l.length l.length (List.replicate l.length false)):=H;rw[K];rfl
theorem yQ5 {b:Bool} (ho:out.length=l.length) (hv:z4R out) (hi:i<l.length):∀(d k:Nat) (n:Int),(nth l i).To.length-k=d->k<=(nth l i).To.length->0<=n->n<=100*(k:Int)->
  zE (λ(x:Int×Int)=>wM l (i:Int) b out x.1 x.2) (n,(k:Int))=some (n+(((nth l i).To.drop k).map (lenOf l b out)).sum):=by
 have H:=hto _ (wP hi);intro d
 induction d with
 | zero=>
  intro k n K O h T;rw[eJ (show (nth l i).To.length<=k by omega)];refine zP ?_;simp only[wM,zW hi,zA,kU (show (nth l i).To.length<=k by omega),dN,gE,List.sum_nil,Int.add_zero]
 | succ d ih=>
  intro k n K O h T;have G:k<(nth l i).To.length:=by omega
  have Z:0<=lenOf l b out (nth l i).To[k]/\lenOf l b out (nth l i).To[k]<=65:=by
   unfold lenOf;cases D:fi l (nth l i).To[k] b with
   | none=>have:=zRU (nth l i).To[k];simp only[];omega
   | some m=>obtain⟨h,_,_⟩:=zTH D;exact hv _ (wP (by omega))
  have hb:wM l (i:Int) b out n (k:Int)=some (.next (n+lenOf l b out (nth l i).To[k],((k+1:Nat):Int))):=by
   have hw:wi (n+lenOf l b out (nth l i).To[k])=n+lenOf l b out (nth l i).To[k]:=j9 (by omega) (by omega);simp only[wM,zW hi,zA,yY G,dO,z8 G,yB8 hl,zL (k:=k) (by omega),yXT];rw[<-hw];unfold lenOf fiI;cases D:fi l (nth l i).To[k] b with
   | none=>rfl
   | some m=>
    obtain⟨h,_,_⟩:=zTH D;have e:decide (0<=((m:Nat):Int))=true:=by simp
    simp only[e,dO,zW (show m<out.length by omega),zA]
  rw[zI (body:=λ(x:Int×Int)=>wM l (i:Int) b out x.1 x.2) (x:=(n,(k:Int))) hb,ih (k+1) _ (by omega) (by omega) (by omega) (by omega),eA G,fp,i9,Int.add_assoc]
theorem yEQ (b:Bool):zEI l b=some (zK8 (updL l b) l.length l.length (List.replicate l.length 0)):=by
 unfold zEI;rw[zRT (by omega),zA];have H:z4R (List.replicate l.length 0):=λx hx=>by rw[(List.mem_replicate.1 hx).2];omega
 have K:∀(out:LI),out.length=l.length->z4R out->zE (λ(x:Int×LI)=>uB l b x.1 x.2) (0,out)=some (zUT (updL l b) l.length 0 out):=λout h D=>
  zYJ (upd:=updL l b) (n:=l.length) (Inv:=z4R) (body:=λ(x:Int×LI)=>uB l b x.1 x.2) (λi out=>((i:Int),out)) id (λi out hi h D=>by
   have:=yQ5 hl hto (b:=b) h D hi _ 0 0 rfl (by omega) (by omega) (by omega);rw[e9,Int.zero_add] at this;have G:zE (λ(x:Int×Int)=>wM l (i:Int) b out x.1 x.2) (0,0)=some (((nth l i).To.map (lenOf l b out)).sum):=this;simp only[uB,yY hi,dO,G,zA,zW (show i<out.length by omega),zHJ (show i<out.length by omega),zW hi,zN,zL (k:=i) (by omega)];unfold updL;cases b with
   | true=>simp
   | false=>
    cases ht:((nth l i).bU== []) with
    | true=>simp
    | false=>simp[zW (show i<(out.set i (min (max (List.map (lenOf l false out) (nth l i).To).sum 1) 65)).length by simp;omega),zHJ (show i<(out.set i (min (max (List.map (lenOf l false out) (nth l i).To).sum 1) 65)).length by simp;omega)]) zUU (λout=>by simp only[uB,kU (d9 _),dN];rfl) l.length 0 out (by omega) h D
 have O:=zYK (upd:=updL l b) (n:=l.length) (Inv:=z4R) (body:=λ(x:Int×LI)=>uC l b x.1 x.2) (λi out=>((i:Int),out)) id (N:=l.length) (λr out Z h D=>by
  simp only[uC,yY Z,dO,K out h D,zA,zL (k:=r) (by omega)]) zUU (λout=>by simp only[uC,kU (d9 _),dN];rfl) l.length 0 (List.replicate l.length 0) (by omega) (by simp) H
 have T:zE (λ(x:Int×LI)=>uC l b x.1 x.2) (0,List.replicate l.length 0)=some (zK8 (updL l b) l.length l.length (List.replicate l.length 0)):=O;rw[T];rfl
end
theorem z4W {D:Type} [Inhabited D] {upd:List D->Nat->D} {n:Nat} {out:List D} (h:out.length=n):(zK8 upd n k out).length=n:=
 (z4Q (upd:=upd) (n:=n) (Inv:=λ_=>True) (λ_ _ _ _ _=>trivial) k out h trivial).2
theorem z83 (h:∀k,k+1<l.length->(nth l k).aN<(nth l (k+1)).aN):∀(d i:Nat),i+d+1<l.length->(nth l i).aN<(nth l (i+d+1)).aN
 | 0,i,hi=>h i hi
 | d+1,i,hi=>by
  have D:=z83 h d i (by omega);have G:=h (i+d+1) (by omega);have:i+(d+1)+1=i+d+1+1:=by omega
  rw[this];omega
theorem yH7 (T:∀k,k+1<l.length->mlt (nth l k) (nth l (k+1))):(∀k,k<l.length->¬fiI l (nth l k).aN true<(k:Int))↔∀k,k+1<l.length->(nth l (k+1)).aN≠(nth l k).aN:=by
 constructor;intro h k H e;have G:k<l.length:=by omega
 have hp:pM (nth l (k+1)).aN true (0+k) l[k]≠none:=by
  unfold pM;rw[eG ⟨by rw[e,zCQ G],rfl⟩];simp
 obtain⟨i,hi,ab,Z⟩:=z12 (p:=pM (nth l (k+1)).aN true) (l:=l) (k:=0) G hp;have O:fi l (nth l (k+1)).aN true=some i:=by
  unfold fi;rw[Z];unfold pM;split;simp;rename_i hn;exfalso;have:chk (pM (nth l (k+1)).aN true) l 0=none:=by rw[Z];unfold pM;rw[dU hn]
  exact hp (zYB this k G)
 refine h (k+1) H ?_;unfold fiI;rw[O];simp only[];omega;intro h k H D;have hs:∀k,k+1<l.length->(nth l k).aN<(nth l (k+1)).aN:=λk H=>by
  have a:=T k H;have b:=h k H;unfold mlt at a;omega
 unfold fiI at D;cases K:fi l (nth l k).aN true with
 | none=>exact absurd ⟨rfl,rfl⟩ (yEJ K _ (wP H))
 | some i=>
  rw[K] at D;simp only[] at D;obtain⟨h1,h2,_⟩:=zTH K;have:=z83 hs (k-i-1) i (by omega);rw[show i+(k-i-1)+1=k by omega] at this;omega
theorem yU9 (T:NSm n) (bi:uV n):∃e,zIU n=some e/\(e=0->VD0 n):=by
 obtain⟨e1,au,p1⟩:=yMR (l:=n.aI) (by have:=T.cl;omega)
 obtain⟨e2,aw,p2⟩:=yU6 (l:=n.aA) (by have:=T.de;omega) (λm G=>by have:=T.to m G;omega) (λm G=>by have:=T.tg m G;unfold MX;omega)
 obtain⟨e3,ax,p3⟩:=yM5 (s:=n.aL) T.ex;have bg:=T.de;have hl:n.aA.length<=30000:=by omega
 have Z:∀m∈n.aA,m.To.length<=30000:=λm G=>by have:=T.to m G;omega
 unfold zIU;rw[au,zA];by_cases h1:e1=0
 case neg=>
  have:(!decide (e1=0))=true:=by simp[h1]
  rw[this,dO];exact⟨e1,rfl,λh=>absurd h h1⟩
 rw[h1];simp only[eH,dY,dN];have cv:=p1.1 h1;rw[aw,zA];by_cases h2:e2=0
 case neg=>
  have:(!decide (e2=0))=true:=by simp[h2]
  rw[this,dO];exact⟨e2,rfl,λh=>absurd h h2⟩
 rw[h2];simp only[eH,dY,dN];have mv:=p2.1 h2;rw[ax,zA];cases e3 with
 | false=>exact⟨11,rfl,λh=>by cases h⟩
 | true=>
 have ca:=p3.1 rfl;simp only[dY,dN];have l0:=kA (body:=λ(x:Int)=>zC4 n x) n.aA.length (λk=> ¬fiI n.aA (nth n.aA k).aN true<(k:Int)) (λy=>y≠0) (λk D=>by
  simp only[zC4,yY D,dO,zW D,zA,yB8 hl,zL (k:=k) (by omega)];exact zAW (by simp) (by decide)) (λk D=>by simp only[zC4,kU D,dN])
 rw[yH7 mv.lt] at l0;rcases l0 with ⟨l0,ne⟩ | ⟨y,O,l0,ne⟩
 case inr=>rw[l0];exact⟨y,rfl,λh=>absurd h O⟩
 rw[l0];simp only[zA,fw];have aj:∀m:aG,(m.bU== [])=decide (m.bU= []):=λm=>by cases m.bU<;>rfl
 have l1:=kA (body:=λ(x:Int)=>zC5 n x) n.aA.length (λk=>(nth n.aA k).bU= []->(nth n.aA k).To.length=1\/(nth n.aA k).To.length=2) (λy=>y≠0) (λk D=>by
  simp only[zC5,yY D,dO,zW D,zA,zN,zL (k:=k) (by omega),aj];by_cases ht:(nth n.aA k).bU= []
  ·
   simp only[ht,eH,vN,zA,eV,true_implies];by_cases h5:((nth n.aA k).To.length:Int)=1
   ·
    simp only[h5,eH,dY,zBR,zA,fj,dN];exact .inl ⟨.inl (by omega),trivial⟩
   ·
    simp only[h5,e6,eD,vN,zA,eV];exact zAW (by simp only[fG,dS];omega) (by decide)
  ·
   simp only[ht,e6,zBR,zA,fj,dN,false_implies];exact .inl ⟨trivial,trivial⟩) (λk D=>by simp only[zC5,kU D,dN])
 rw[zAP (p:=λm:aG=>m.bU= []->m.To.length=1\/m.To.length=2)] at l1;rcases l1 with ⟨l1,kd⟩ | ⟨y,O,l1,kd⟩
 case inr=>rw[l1];exact⟨y,rfl,λh=>absurd h O⟩
 rw[l1];simp only[zA,fw];have l2:=kA (body:=λ(x:Int)=>zC6 n x) n.aA.length (λk=>hkE (nth n.aA k).aN=0/\((nth n.aA k).bU≠[]->clE n.aI (nth n.aA k).aN=0)) (λy=>y≠0) (λk D=>by
  simp only[zC6,yY D,dO,zW D,zA,zN,yM6,zL (k:=k) (by omega),aj];by_cases h5:hkE (nth n.aA k).aN=0
  ·
   simp only[h5,eH,dY,eD,vN,zA,eV,fo,true_and];by_cases ht:(nth n.aA k).bU= []
   ·
    simp only[ht,eH,dY,zBR,zA,fj,dN];exact .inl ⟨λh=>absurd rfl h,trivial⟩
   ·
    simp only[ht,e6,eD,vN,zA,eV,yMS (show n.aI.length<=30000 by have:=T.cl;omega) cv]
    exact zAW (by simp[ht]) (by decide)
  ·
   have:(!decide (hkE (nth n.aA k).aN=0))=true:=by simp[h5]
   simp only[this,dY,zBR,zA,fj,fS,dO];exact .inr ⟨λh=>h5 h.1,11,by decide,rfl⟩) (λk D=>by simp only[zC6,kU D,dN])
 rw[zAP (p:=λm:aG=>hkE m.aN=0/\(m.bU≠[]->clE n.aI m.aN=0))] at l2;rcases l2 with ⟨l2,D⟩ | ⟨y,O,l2,D⟩
 case inr=>rw[l2];exact⟨y,rfl,λh=>absurd h O⟩
 rw[l2];simp only[zA,fw];have K:DS n.aA:=⟨λk ak=>by
  have a:=mv.lt k ak;have b:=ne k ak;unfold mlt at a;omega,λm G=>(D m G).1,λm G=>by have:=mv.sz m G;omega⟩
 rw[yQ4 hl Z,zA];have l3:=kA (body:=λ(x:Int)=>zC7 n (zK8 (zRW n.aA) n.aA.length n.aA.length (List.replicate n.aA.length false)) x) n.aA.length (λk=>nth (zK8 (zRW n.aA) n.aA.length n.aA.length (List.replicate n.aA.length false)) k=true) (λy=>y≠0) (λk D=>by
  simp only[zC7,yY D,dO,zW (show k<(zK8 (zRW n.aA) n.aA.length n.aA.length (List.replicate n.aA.length false)).length by rw[z4W (by simp)];exact D),zA,zL (k:=k) (by omega)]
  exact zAW (by simp) (by decide)) (λk D=>by simp only[zC7,kU D,dN])
 rw[yMX K] at l3;rcases l3 with ⟨l3,H⟩ | ⟨y,O,l3,H⟩
 case inr=>rw[l3];exact⟨y,rfl,λh=>absurd h O⟩
 rw[l3];simp only[zA,fw];have hD:=zYF K H;rw[yEQ hl Z false,zA,yEQ hl Z true,zA];have l4:=kA (body:=λ(x:Int)=>zC8 n (zK8 (updL n.aA false) n.aA.length n.aA.length (List.replicate n.aA.length 0)) (zK8 (updL n.aA true) n.aA.length n.aA.length (List.replicate n.aA.length 0)) x) n.aA.length (λk=>wt n.aA true (nth n.aA k).aN<=64) (λy=>y≠0) (λk D=>by
  have bh:wt n.aA false (nth n.aA k).aN<=wt n.aA true (nth n.aA k).aN:=yD6 K _ _;simp only[zC8,yY D,dO,zW (show k<(zK8 (updL n.aA false) n.aA.length n.aA.length (List.replicate n.aA.length 0)).length by rw[z4W (by simp)];exact D),zW (show k<(zK8 (updL n.aA true) n.aA.length n.aA.length (List.replicate n.aA.length 0)).length by rw[z4W (by simp)];exact D),zA,zN,yEK K hD (b:=false) k D,yEK K hD (b:=true) k D,zL (k:=k) (by omega)]
  by_cases h6:64<wt n.aA false (nth n.aA k).aN
  ·
   simp only[h6,eH,dY,zBR,zA,fS,dO];exact .inr ⟨by omega,13,by decide,rfl⟩
  ·
   simp only[h6,e6,eD,vN,zA,fo];exact zAW (by simp) (by decide)) (λk D=>by simp only[zC8,kU D,dN])
 rw[zAP (p:=λm:aG=>wt n.aA true m.aN<=64)] at l4;rcases l4 with ⟨l4,W⟩ | ⟨y,O,l4,W⟩
 ·
  rw[l4];exact⟨0,rfl,λ_=>⟨cv,mv,ca,ne,kd,λm G=>(D m G).1,λm G=>(D m G).2,H,W⟩⟩
 · rw[l4];exact⟨y,rfl,λh=>absurd h O⟩
section
theorem yB9 (h:key x=0) (b:LI):∀(a run:LI),rsE key (a++x::b) run=rsE key a run++rsE key (x::b) []
 | [],run=>by
  have e:srt key []= []:=rfl;show (if key x=0 then srt key run++x::rsE key b [] else _)=srt key run++(if key x=0 then srt key []++x::rsE key b [] else _);rw[eG h,eG h,e,eN]
 | y::a,run=>by
  show (if key y=0 then srt key run++y::rsE key (a++x::b) [] else rsE key (a++x::b) (run++ [y]))=(if key y=0 then srt key run++y::rsE key a [] else rsE key a (run++ [y]))++_;split;rw[yB9 h b a []];simp;rw[yB9 h b a (run++ [y])]
theorem yVA (h:∀x,0<=key x) (D:key x=0) (a b:LI):csE key (a++x::b)=csE key a++csE key (x::b):=by rw[zRV h,zRV h,zRV h,yB9 D]
end
open Go
theorem yM7 (D:a<4611686018427387904) (hb:b<4611686018427387904):zRF .i64 (a:Int) (b:Int)=((a &&& b:Nat):Int):=by
 have h:a &&& b<=a:=Nat.and_le_left;unfold zRF;have e:(BitVec.ofInt (IntKind.bits .i64) (a:Int) &&& BitVec.ofInt (IntKind.bits .i64) (b:Int)).toNat=a &&& b:=by
  show (BitVec.ofInt 64 (a:Int) &&& BitVec.ofInt 64 (b:Int)).toNat=a &&& b;rw[BitVec.ofInt_natCast,BitVec.ofInt_natCast,BitVec.toNat_and,BitVec.toNat_ofNat,BitVec.toNat_ofNat,Nat.mod_eq_of_lt (by omega),Nat.mod_eq_of_lt (by omega)]
 rw[e];exact w64 (by omega) (by omega)
theorem z4X (D:a<4611686018427387904) (hb:b<4611686018427387904):bOr .i64 (a:Int) (b:Int)=((a ||| b:Nat):Int):=by
 have h:a ||| b<2 ^ 62:=Nat.or_lt_two_pow D hb;unfold bOr;have e:(BitVec.ofInt (IntKind.bits .i64) (a:Int) ||| BitVec.ofInt (IntKind.bits .i64) (b:Int)).toNat=a ||| b:=by
  show (BitVec.ofInt 64 (a:Int) ||| BitVec.ofInt 64 (b:Int)).toNat=a ||| b
  rw[BitVec.ofInt_natCast,BitVec.ofInt_natCast,BitVec.toNat_or,BitVec.toNat_ofNat,BitVec.toNat_ofNat,Nat.mod_eq_of_lt (by omega),Nat.mod_eq_of_lt (by omega)]
 rw[e];exact w64 (by omega) (by omega)
theorem yXU (a:Nat):a &&& 63=a%64:=Nat.and_two_pow_sub_one_eq_mod a 6
theorem zYM (h:b<2 ^ i):a*2 ^ i ||| b=a*2 ^ i+b:=by rw[<-Nat.shiftLeft_eq,Nat.shiftLeft_add_eq_or_of_lt h]
set_option maxRecDepth 100000 in
theorem yZU (hb:b<256):wi (zRF .u8 (b:Int) 63)=((b%64:Nat):Int):=by
 have:∀b:Fin 256,wi (zRF .u8 ((b.val:Nat):Int) 63)=((b.val%64:Nat):Int):=by decide
 exact this ⟨b,hb⟩
def x9 (b:Nat):Nat:=if 128<=b/\b<194 then 0 else if 244<b then 0 else if 240<=b then 4 else if 224<=b then 3 else if 192<=b then 2 else 1
def zET (b:Nat):Nat×Nat:=if b=224 then (160,191) else if b=237 then (128,159) else if b=240 then (144,191) else if b=244 then (128,143) else (128,191)
def zBQ (b:Nat):Nat:=if x9 b=2 then b%32 else if x9 b=3 then b%16 else if x9 b=4 then b%8 else b
set_option maxRecDepth 100000 in
theorem yQ6 (hb:b<256):zF3 (b:Int)=some ((x9 b:Nat):Int):=by
 have:∀b:Fin 256,zF3 ((b.val:Nat):Int)=some ((x9 b.val:Nat):Int):=by decide
 exact this ⟨b,hb⟩
set_option maxRecDepth 100000 in
theorem yVB (hb:b<256):zD8 (b:Int)=some (((zET b).1:Int),((zET b).2:Int)):=by
 have:∀b:Fin 256,zD8 ((b.val:Nat):Int)=some (((zET b.val).1:Int),((zET b.val).2:Int)):=by decide
 exact this ⟨b,hb⟩
set_option maxRecDepth 100000 in
theorem yQ7 (hb:b<256):(cond (decide (1<((x9 b:Nat):Int))) ((z62 .i64 127 ((x9 b:Nat):Int)).bind λh=>some (zRF .i64 (wi (b:Int)) h)) (some (wi (b:Int))))=some ((zBQ b:Nat):Int):=by
 have:∀b:Fin 256,(cond (decide (1<((x9 b.val:Nat):Int))) ((z62 .i64 127 ((x9 b.val:Nat):Int)).bind λh=>some (zRF .i64 (wi ((b.val:Nat):Int)) h)) (some (wi ((b.val:Nat):Int))))=some ((zBQ b.val:Nat):Int):=by decide
 exact this ⟨b,hb⟩
def xG:Nat->Str->Nat->Nat->Nat->Nat->Nat×Nat×Bool
 | 0,_,k,_,_,c=>(c,k,true)
 | _+1,[],k,_,_,_=>(0,k,false)
 | n+1,b::r,k,lo,hi,c=>if b.toNat<lo\/hi<b.toNat then (0,k,false) else xG n r (k+1) 128 191 (c*64+b.toNat%64)
def kK:Str->Nat×Nat×Bool
 | []=>(0,0,false)
 | b::r=>if x9 b.toNat=0 then (0,1,false) else xG (x9 b.toNat-1) r 1 (zET b.toNat).1 (zET b.toNat).2 (zBQ b.toNat)
theorem yM8:∀(n:Nat) (r:Str) (k lo hi c:Nat),(xG n r k lo hi c).2.2=false->(xG n r k lo hi c).1=0
 | 0,_,k,_,_,c,h=>by simp[xG] at h
 | _+1,[],k,_,_,_,_=>rfl
 | n+1,b::r,k,lo,hi,c,h=>by
  unfold xG at h ⊢;split;rfl;rename_i D;rw[dU D] at h;exact yM8 n r _ _ _ _ h
theorem yH8 (h:k<s.length):zM0 s (k:Int)=some ((s[k].toNat:Nat):Int):=by unfold zM0;rw[z8 h];rfl
theorem yH9 (hs:s.length<=1000) {L:Nat} (hL:L<=4):∀(n k lo hi c:Nat),k+n=L->k<=s.length->c<64 ^ (k+1)->
  zE (λ(x:Int×Int×Int×Int)=>uL (L:Int) s x.1 x.2.1 x.2.2.1 x.2.2.2) ((c:Int),(lo:Int),(hi:Int),(k:Int))=
   some (if (xG n (s.drop k) k lo hi c).2.2=true then .inl (((xG n (s.drop k) k lo hi c).1:Nat):Int) else .inr (0,(((xG n (s.drop k) k lo hi c).2.1:Nat):Int),false))/\((xG n (s.drop k) k lo hi c).2.2=true->(xG n (s.drop k) k lo hi c).2.1=L):=by
 intro n
 induction n with
 | zero=>
  intro k lo hi c h1 h2 hc;have:k=L:=by omega
  subst this;refine⟨?_,λ_=>rfl⟩;rw[yQ];simp only[uL,kU (d9 _),dN,xG,eK]
 | succ n ih=>
  intro k lo hi c h1 h2 hc;have O:k<L:=by omega
  rw[yQ];simp only[uL,yY O,dO,zN];by_cases hk:k=s.length
  ·have K:decide ((k:Int)=(s.length:Int))=true:=by simp[hk]
   have T:s.drop k= []:=eJ (by omega);simp only[K,T,dY,zBR,zA,fS,dO,xG];exact⟨by simp,λh=>by simp at h⟩
  ·have K:decide ((k:Int)=(s.length:Int))=false:=by simp;omega
   have H:k<s.length:=by omega
   have hb:s[k].toNat<256:=s[k].toNat_lt;simp only[K,eD,vN,yH8 H,zA,fo];rw[eA H];by_cases h3:s[k].toNat<lo
   ·have D:decide (((s[k].toNat:Nat):Int)<(lo:Int))=true:=by simp;omega
    have G:(s[k].toNat<lo\/hi<s[k].toNat):= .inl h3;simp only[D,dY,zBR,zA,fS,dO,xG,G,eK];exact⟨by simp,λh=>by simp at h⟩
   ·have D:decide (((s[k].toNat:Nat):Int)<(lo:Int))=false:=by simp;omega
    simp only[D,eD,vN,zA,fo];by_cases h4:hi<s[k].toNat
    ·have D:decide ((hi:Int)<((s[k].toNat:Nat):Int))=true:=by simp;omega
     have G:(s[k].toNat<lo\/hi<s[k].toNat):= .inr h4;simp only[D,dO,xG,G,eK];exact⟨by simp,λh=>by simp at h⟩
    ·have D:decide ((hi:Int)<((s[k].toNat:Nat):Int))=false:=by simp;omega
     have G:¬(s[k].toNat<lo\/hi<s[k].toNat):=by omega
     have hp:(64:Nat) ^ (k+1)<=64 ^ 4:=Nat.pow_le_pow_right (by omega) (by omega);have ai:c<16777216:=by have:(64:Nat) ^ 4=16777216:=rfl;omega
     have Z:yKI .i64 (c:Int) 6=some ((c*64:Nat):Int):=by
      unfold yKI;rw[dU (by omega)];have:IntKind.wrap .i64 ((c:Int)*2 ^ min (6:Int).toNat (IntKind.bits .i64))=((c*64:Nat):Int):=by
       have e:((c:Int)*2 ^ min (6:Int).toNat (IntKind.bits .i64))=((c*64:Nat):Int):=by
        have:(2:Int) ^ min (6:Int).toNat (IntKind.bits .i64)=64:=by decide
        rw[this];omega
       rw[e];exact w64 (by omega) (by omega)
      rw[this]
     have e4:bOr .i64 ((c*64:Nat):Int) ((s[k].toNat%64:Nat):Int)=((c*64+s[k].toNat%64:Nat):Int):=by
      rw[z4X (by omega) (by omega)];congr 1;exact zYM (i:=6) (Nat.mod_lt _ (by decide))
     simp only[D,dN,Z,zA,yZU hb,e4,zL (k:=k) (by omega),xG,G,eE];refine ih (k+1) 128 191 _ (by omega) (by omega) ?_;have:(64:Nat) ^ (k+1+1)=64 ^ (k+1)*64:=Nat.pow_succ ..;omega
theorem zYN (Z:s.length<=1000):zEK s=some (((kK s).1:Int),((kK s).2.1:Int),(kK s).2.2):=by
 cases s with
 | nil=>rfl
 | cons b r=>
  have hb:b.toNat<256:=b.toNat_lt;unfold zEK;have K:((b::r)==([]:Str))=false:=rfl;have i0:zM0 (b::r) 0=some ((b.toNat:Nat):Int):=rfl;simp only[K,dN,i0,zA,yQ6 hb,yVB hb];by_cases h:x9 b.toNat=0
  ·
   have:decide (((x9 b.toNat:Nat):Int)=0)=true:=by simp[h]
   simp only[this,dO,kK,h,eK];rfl
  ·
   have:decide (((x9 b.toNat:Nat):Int)=0)=false:=by simp;omega
   have T:x9 b.toNat<=4:=by unfold x9;split<;>(try split)<;>(try split)<;>(try split)<;>(try split)<;>omega
   have hi:zBQ b.toNat<64 ^ 2:=by
    unfold zBQ;split
    · omega
    ·
     split
     · omega
     · split<;>omega
   obtain⟨O,G⟩:=yH9 Z T (x9 b.toNat-1) 1 (zET b.toNat).1 (zET b.toNat).2 (zBQ b.toNat) (by omega) (by simp) hi;simp only[this,dN,yQ7 hb,zA,kK,h,eE];have D:zE (λ(x:Int×Int×Int×Int)=>uL ((x9 b.toNat:Nat):Int) (b::r) x.1 x.2.1 x.2.2.1 x.2.2.2) (((zBQ b.toNat:Nat):Int),((zET b.toNat).1:Int),((zET b.toNat).2:Int),1)=_:=O;rw[D];simp only[List.drop_succ_cons,e9] at G ⊢;have H:=yM8 (x9 b.toNat-1) r 1 (zET b.toNat).1 (zET b.toNat).2 (zBQ b.toNat);generalize xG (x9 b.toNat-1) r 1 (zET b.toNat).1 (zET b.toNat).2 (zBQ b.toNat)=q at G H ⊢;obtain⟨c,n,ok⟩:=q;cases ok with
   | true=>simp only[eK,zA,fw];have:=G rfl;simp only at this;rw[this]
   | false=>have:=H rfl;simp only at this;subst this;simp
theorem zWP:∀(n:Nat) (r:Str) (k lo hi c:Nat),k<=(xG n r k lo hi c).2.1/\(xG n r k lo hi c).2.1<=k+r.length
 | 0,_,k,_,_,_=>by simp[xG]
 | _+1,[],k,_,_,_=>by simp[xG]
 | n+1,b::r,k,lo,hi,c=>by
  unfold xG;split;simp;have:=zWP n r (k+1) 128 191 (c*64+b.toNat%64);simp only[eF];omega
theorem zEO (b:UInt8) (r:Str):kK (b::r)=if x9 b.toNat=0 then (0,1,false) else xG (x9 b.toNat-1) r 1 (zET b.toNat).1 (zET b.toNat).2 (zBQ b.toNat):=rfl
theorem zII (h:s≠[]):1<=(kK s).2.1/\(kK s).2.1<=s.length:=by
 cases s with
 | nil=>exact absurd rfl h
 | cons b r=>
  rw[zEO];split;simp;have:=zWP (x9 b.toNat-1) r 1 (zET b.toNat).1 (zET b.toNat).2 (zBQ b.toNat);simp only[eF];omega
theorem z14:∀(n:Nat) (r:Str) (k lo hi c m:Nat),(xG n r k lo hi c).2.1<=k+m->xG n (r.take m) k lo hi c=xG n r k lo hi c
 | 0,_,k,_,_,_,_,_=>rfl
 | _+1,[],k,_,_,_,_,_=>by simp
 | n+1,b::r,k,lo,hi,c,m,h=>by
  cases m with
  | zero=>
   unfold xG at h ⊢;simp only[iT];split;rfl;rename_i D;rw[dU D] at h;have:=(zWP n r (k+1) 128 191 (c*64+b.toNat%64)).1;omega
  | succ m=>
   rw[List.take_succ_cons];unfold xG at h ⊢;split;rfl;rename_i D;rw[dU D] at h;exact z14 n r _ _ _ _ m (by omega)
theorem yIA {m:Nat} (G:1<=m) (h:(kK s).2.1<=m):kK (s.take m)=kK s:=by
 cases s with
 | nil=>simp
 | cons b r=>
  obtain⟨m,rfl⟩:∃j,m=j+1:=⟨m-1,by omega⟩;rw[List.take_succ_cons];rw[zEO] at h ⊢
  try rw[zEO]
  split;rfl;rename_i D;rw[dU D] at h;exact z14 _ r _ _ _ _ m (by omega)
theorem z84:∀(n:Nat) (r t:Str) (k lo hi c:Nat),((xG n r k lo hi c).2.2=true\/(xG n r k lo hi c).2.1<k+r.length)->xG n (r++t) k lo hi c=xG n r k lo hi c
 | 0,_,_,k,_,_,_,_=>rfl
 | n+1,[],_,k,_,_,_,h=>by simp[xG] at h
 | n+1,b::r,t,k,lo,hi,c,h=>by
  rw[fV];unfold xG at h ⊢;split;rfl;rename_i D;rw[dU D] at h;exact z84 n r t _ _ _ _ (by simp only[eF] at h;rcases h with h | h;exact .inl h;exact .inr (by omega))
def z0J (s:Str):Bool:=match s with
 | []=>false
 | b::_=>decide ((kK s).2.1=s.length)&&decide (194<=b.toNat)&&decide (b.toNat<=244)
theorem yM9 (O:s≠[]) (t:Str) (h:¬((kK s).2.2=false/\z0J s=true)):kK (s++t)=kK s:=by
 cases s with
 | nil=>exact absurd rfl O
 | cons b r=>
  rw[fV];have T:z0J (b::r)=(decide ((kK (b::r)).2.1=(b::r).length)&&decide (194<=b.toNat)&&decide (b.toNat<=244)):=rfl;rw[T] at h;rw[zEO] at h ⊢
  try rw[zEO]
  split
  ·rfl
  ·rename_i G
   rw[dU G] at h;refine z84 _ r t _ _ _ _ ?_;by_cases D:(xG (x9 b.toNat-1) r 1 (zET b.toNat).1 (zET b.toNat).2 (zBQ b.toNat)).2.2=true
   ·exact .inl D
   ·have Z:=(zWP (x9 b.toNat-1) r 1 (zET b.toNat).1 (zET b.toNat).2 (zBQ b.toNat)).2
    by_cases K:(xG (x9 b.toNat-1) r 1 (zET b.toNat).1 (zET b.toNat).2 (zBQ b.toNat)).2.1<1+r.length
    ·exact .inr K
    ·exfalso
     by_cases H:x9 b.toNat=1
     ·rw[H] at D;exact D rfl
     ·have hb:194<=b.toNat/\b.toNat<=244:=by
       have:x9 b.toNat≠0/\x9 b.toNat≠1:=⟨G,H⟩;unfold x9 at this
       revert this
       split
       ·simp
       ·split
        ·simp
        ·split
         ·omega
         ·split
          ·omega
          ·split
           ·omega
           ·simp
      apply h;refine⟨by simpa using D,?_⟩;simp only[eF,eC,d7];omega
def zUW:Nat->Str->LI
 | 0,_=>[]
 | f+1,s=>if s= [] then [] else (if (kK s).2.2=true then ((kK s).1:Int) else 65533)::zUW f (s.drop (kK s).2.1)
theorem z4Y:∀(f g:Nat) (s:Str),s.length<=f->s.length<=g->zUW f s=zUW g s
 | 0,g,s,h,_=>by have:s= []:=dQ (by omega);subst this;cases g<;>rfl
 | f+1,0,s,_,h=>by have:s= []:=dQ (by omega);subst this;rfl
 | f+1,g+1,s,G,H=>by
  unfold zUW;split;rfl;rename_i D;have:=zII D;rw[z4Y f g _ (by simp;omega) (by simp;omega)]
def zDM (s:Str):LI:=zUW s.length s
theorem zTJ:zDM []= []:=rfl
theorem zWQ (h:s≠[]):zDM s=(if (kK s).2.2=true then ((kK s).1:Int) else 65533)::zDM (s.drop (kK s).2.1):=by have D:=zII h;have:zDM s=zUW ((s.length-1)+1) s:=z4Y _ _ s (d9 _) (by omega);rw[this];unfold zUW;rw[dU h];congr 1;exact z4Y _ _ _ (by simp;omega) (d9 _)
def yCA:Nat->Str->Nat
 | 0,_=>0
 | f+1,s=>if s= [] then 0 else if (kK s).2.2=false/\z0J s=true then 0 else (kK s).2.1+yCA f (s.drop (kK s).2.1)
theorem z4Z:∀(f g:Nat) (s:Str),s.length<=f->s.length<=g->yCA f s=yCA g s
 | 0,g,s,h,_=>by have:s= []:=dQ (by omega);subst this;cases g<;>rfl
 | f+1,0,s,_,h=>by have:s= []:=dQ (by omega);subst this;rfl
 | f+1,g+1,s,G,H=>by
  unfold yCA;split;rfl;rename_i D;have:=zII D;rw[z4Z f g _ (by simp;omega) (by simp;omega)]
def zKU (s:Str):Nat:=yCA s.length s
theorem zWR (h:s≠[]):zKU s=if (kK s).2.2=false/\z0J s=true then 0 else (kK s).2.1+zKU (s.drop (kK s).2.1):=by have D:=zII h;have:zKU s=yCA ((s.length-1)+1) s:=z4Z _ _ s (d9 _) (by omega);rw[this];unfold yCA;rw[dU h];congr 2;exact z4Z _ _ _ (by simp;omega) (d9 _)
theorem yER:∀(n:Nat) (s:Str),s.length<=n->zKU s<=s.length
 | 0,s,h=>by have:s= []:=dQ (by omega);subst this;exact d9 _
 | n+1,s,h=>by
  by_cases D:s= [];subst D;exact d9 _;have G:=zII D;rw[zWR D];split;omega;have:=yER n (s.drop (kK s).2.1) (by simp;omega)
  simp only[fD] at this;omega
theorem yES:∀(n:Nat) (s t:Str),s.length<=n->zDM (s++t)=zDM (s.take (zKU s))++zDM (s.drop (zKU s)++t)
 | 0,s,t,h=>by have:s= []:=dQ (by omega);subst this;rfl
 | n+1,s,t,h=>by
  by_cases D:s= [];subst D;rfl;have T:=zII D;by_cases K:(kK s).2.2=false/\z0J s=true;have:zKU s=0:=by rw[zWR D,eG K]
  rw[this];rfl;have e:zKU s=(kK s).2.1+zKU (s.drop (kK s).2.1):=by rw[zWR D,dU K]
  have G:s++t≠[]:=by simp[D]
  have Z:=yM9 D t K;have ih:=yES n (s.drop (kK s).2.1) t (by simp;omega)
  rw[zWQ G,Z,List.drop_append_of_le_length T.2,ih,e];have H:s.take ((kK s).2.1+zKU (s.drop (kK s).2.1))≠[]:=by
   intro O;have:=congrArg List.length O;simp only[fU,fE] at this;omega
  rw[zWQ H,yIA (by omega) (by omega),fV,iC];congr 3;rw[List.drop_take];congr 1;omega
theorem z40 {G:Type} {l:List G} (h:a<=b) (D:b<=l.length):∃r,slc l (a:Int) (b:Int)=some r:=⟨_,yB0 h D⟩
theorem yCB (h:s.length<=1000):jC ({ }:bR) s=some (((kK s).1:Int),((kK s).2.1:Int),(kK s).2.2):=by unfold jC;rw[zYN h];rfl
theorem zNI (h:k<s.length):s.drop k≠[]:=by intro D;have:=congrArg List.length D;simp at this;omega
theorem yIB (hs:s.length<=1000):∀(n k:Nat) (out:LI),s.length-k<=n->k<=s.length->out.length<=k->
  zE (λ(x:Int×LI)=>xY s (λx0=>jC ({ }:bR) x0) 2 x.1 x.2) ((k:Int),out)=some (out++zDM (s.drop k)):=by
 intro n
 induction n with
 | zero=>
  intro k out h1 H h3;have:k=s.length:=by omega
  subst this;rw[yQ];simp only[xY,kU (d9 _),dN,gR,zTJ,fm]
 | succ n ih=>
  intro k out h1 H h3;by_cases h:k<s.length
  ·have hz:=zII (zNI h)
   simp only[fD] at hz;have Z:wi ((k:Int)+(((kK (s.drop k)).2.1:Nat):Int))=((k+(kK (s.drop k)).2.1:Nat):Int):=by rw[j9 (by omega) (by omega)];omega
   obtain⟨q,hq⟩:=z40 (l:=s) (a:=k) (b:=k+(kK (s.drop k)).2.1) (by omega) (by omega);have hb:xY s (λx0=>jC ({ }:bR) x0) 2 (k:Int) out=some (.next (((k+(kK (s.drop k)).2.1:Nat):Int),out++ [if (kK (s.drop k)).2.2=true then (((kK (s.drop k)).1:Nat):Int) else 65533])):=by
    simp only[xY,yY h,dO,zHK H,zA,yCB (s:=s.drop k) (by simp;omega),Z,hq]
    by_cases D:(kK (s.drop k)).2.2=true
    ·simp only[D,dO,j7 (show out.length+ [(((kK (s.drop k)).1:Nat):Int)].length<=4294967296 by simp;omega),zA,eK]
    ·have G:(kK (s.drop k)).2.2=false:=by simpa using D
     have K:decide ((2:Int)=1)=false:=rfl;have O:decide ((2:Int)=2)=true:=rfl;have T:decide ((2:Int)=3)=false:=rfl;rw[dU D];simp only[G,dN,K,O,T,eH,dO,j7 (show out.length+ [(65533:Int)].length<=4294967296 by simp;omega),zA,iX]
   rw[zI (body:=λ(x:Int×LI)=>xY s (λx0=>jC ({ }:bR) x0) 2 x.1 x.2) (x:=((k:Int),out)) hb,ih _ _ (by omega) (by omega) (by simp;omega),zWQ (zNI h),iC,dW]
   rfl
  ·have:k=s.length:=by omega
   subst this;rw[yQ];simp only[xY,kU (d9 _),dN,gR,zTJ,fm]
abbrev e8U:bC:={bK:=1,Charset:={bB:=[]}}
theorem zWS:zAU e8U=some ((),true):=rfl
theorem yCC (D:s.length<=1000):zE6 e8U s 2=some (zDM s,{cK:=0,At:=0}):=by unfold zE6 zHD;rw[zWS,zA];have h:zEL 2=some true:=rfl;have:=yIB D s.length 0 [] (by omega) (by omega) (by simp);simp only[eN,e9] at this;simp only[dY,dN,h,zA];rw[show ((0:Int),([]:LI))=(((0:Nat):Int),([]:LI)) from rfl,this];rfl
theorem yIC (hs:s.length<=1000):∀(n k:Nat) (out:LI),s.length-k<=n->k<=s.length->out.length<=k->
  zE (λ(x:Int×LI)=>yX s 2 x.1 x.2) ((k:Int),out)=some (out++zDM (s.drop k)):=by
 intro n
 induction n with
 | zero=>
  intro k out h1 H h3;have:k=s.length:=by omega
  subst this;rw[yQ];simp only[yX,kU (d9 _),dN,gR,zTJ,fm]
 | succ n ih=>
  intro k out h1 H h3;by_cases h:k<s.length
  ·have hz:=zII (zNI h)
   simp only[fD] at hz;have Z:wi ((k:Int)+(((kK (s.drop k)).2.1:Nat):Int))=((k+(kK (s.drop k)).2.1:Nat):Int):=by rw[j9 (by omega) (by omega)];omega
   obtain⟨q,hq⟩:=z40 (l:=s) (a:=k) (b:=k+(kK (s.drop k)).2.1) (by omega) (by omega);have hb:yX s 2 (k:Int) out=some (.next (((k+(kK (s.drop k)).2.1:Nat):Int),out++ [if (kK (s.drop k)).2.2=true then (((kK (s.drop k)).1:Nat):Int) else 65533])):=by
    simp only[yX,yY h,dO,zHK H,zA,zYN (s:=s.drop k) (by simp;omega),Z,hq]
    by_cases D:(kK (s.drop k)).2.2=true
    ·simp only[D,dO,j7 (show out.length+ [(((kK (s.drop k)).1:Nat):Int)].length<=4294967296 by simp;omega),zA,eK]
    ·have G:(kK (s.drop k)).2.2=false:=by simpa using D
     have K:decide ((2:Int)=1)=false:=rfl;have O:decide ((2:Int)=2)=true:=rfl;have T:decide ((2:Int)=3)=false:=rfl;rw[dU D];simp only[G,dN,K,O,T,eH,dO,j7 (show out.length+ [(65533:Int)].length<=4294967296 by simp;omega),zA,iX]
   rw[zI (body:=λ(x:Int×LI)=>yX s 2 x.1 x.2) (x:=((k:Int),out)) hb,ih _ _ (by omega) (by omega) (by simp;omega),zWQ (zNI h),iC,dW]
   rfl
  ·have:k=s.length:=by omega
   subst this;rw[yQ];simp only[yX,kU (d9 _),dN,gR,zTJ,fm]
theorem yCD (D:s.length<=1000):vQ s 2=some (zDM s,{cK:=0,At:=0}):=by unfold vQ;have h:zBF 2=some true:=rfl;have:=yIC D s.length 0 [] (by omega) (by omega) (by simp);simp only[eN,e9] at this;simp only[h,zA,dY,dN];rw[show ((0:Int),([]:LI))=(((0:Nat):Int),([]:LI)) from rfl,this];rfl
theorem yVC (T:s.length<=1000) (h:s≠[]):vV 1 s=some (z0J s):=by
 cases s with
 | nil=>exact absurd rfl h
 | cons b r=>
  unfold vV;have G:decide ((1:Int)=1)=true:=rfl;have D:zCA ({bK:=1,Charset:=(({bB:=[]}):Charset)}:bC) (b::r)=some (((kK (b::r)).1:Int),((kK (b::r)).2.1:Int),(kK (b::r)).2.2):=by
   unfold zCA;rw[show zAU ({bK:=1,Charset:=(({bB:=[]}):Charset)}:bC)=some ((),true) from rfl,zA,yCB T];rfl
  have i0:zM0 (b::r) 0=some ((b.toNat:Nat):Int):=rfl;have Z:z0J (b::r)=(decide ((kK (b::r)).2.1=(b::r).length)&&decide (194<=b.toNat)&&decide (b.toNat<=244)):=rfl;rw[Z];simp only[G,dO,D,zA,zN,i0];have H:decide ((((kK (b::r)).2.1:Nat):Int)=((b::r).length:Int))=decide ((kK (b::r)).2.1=(b::r).length):=by
   by_cases h:(kK (b::r)).2.1=(b::r).length<;>simp only[h,eH,e6]<;>simp<;>(try omega);simp only[eF] at h;omega
  have K:decide (194<=((b.toNat:Nat):Int))=decide (194<=b.toNat):=by by_cases h:194<=b.toNat<;>simp[h]<;>omega
  have O:decide (((b.toNat:Nat):Int)<=244)=decide (b.toNat<=244):=by by_cases h:b.toNat<=244<;>simp[h]<;>omega
  rw[H];cases decide ((kK (b::r)).2.1=(b::r).length) with
  | false=>simp[gM]
  | true=>
   simp only[vN,zA,eV,K];cases decide (194<=b.toNat) with
   | false=>simp[gM]
   | true=>simp only[vN,zA,eV,O];rfl
theorem yID (hs:s.length<=1000):∀(n k:Nat),s.length-k<=n->k<=s.length->
  zE (λ(x:Int)=>kN s e8U x) (k:Int)=some ((k+zKU (s.drop k):Nat):Int):=by
 intro n
 induction n with
 | zero=>
  intro k O H;have:k=s.length:=by omega
  subst this;rw[yQ];simp only[kN,kU (d9 _),dN,gR];rfl
 | succ n Z=>
  intro k O H;by_cases h:k<s.length
  ·have T:=zII (zNI h)
   simp only[fD] at T;have K:wi ((k:Int)+(((kK (s.drop k)).2.1:Nat):Int))=((k+(kK (s.drop k)).2.1:Nat):Int):=by rw[j9 (by omega) (by omega)];omega
   have D:zCA e8U (s.drop k)=some (((kK (s.drop k)).1:Int),((kK (s.drop k)).2.1:Int),(kK (s.drop k)).2.2):=by
    unfold zCA;rw[zWS,zA,yCB (by simp;omega)]
    rfl
   have hb:kN s e8U (k:Int)=some (if (kK (s.drop k)).2.2=false/\z0J (s.drop k)=true then .done (k:Int) else .next ((k+(kK (s.drop k)).2.1:Nat):Int)):=by
    simp only[kN,yY h,dO,zHK H,zA,D,zN,K];cases ho:(kK (s.drop k)).2.2 with
    | true=>simp[gM]
    | false=>
     simp only[eD,vN,zA,eV,yVC (s:=s.drop k) (by simp;omega) (zNI h)]
     cases G:z0J (s.drop k)<;>simp
   rw[zWR (zNI h),iC];by_cases G:(kK (s.drop k)).2.2=false/\z0J (s.drop k)=true
   ·rw[eG G] at hb ⊢
    exact zP (body:=λ(x:Int)=>kN s e8U x) hb
   ·rw[dU G] at hb ⊢
    rw[zI (body:=λ(x:Int)=>kN s e8U x) hb,Z _ (by omega) (by omega)];congr 2;omega
  ·have:k=s.length:=by omega
   subst this;rw[yQ];simp only[kN,kU (d9 _),dN,gR];rfl
theorem yQ8 (D:s.length<=1000):uM e8U s=some ((zKU s:Nat):Int):=by unfold uM;have:=yID D s.length 0 (by omega) (by omega);simp only[e9,fM] at this;have h:zE (λ(x:Int)=>kN s e8U x) 0=some ((zKU s:Nat):Int):=this;have d:decide ((e8U:bC).bK=4)=false:=rfl;rw[d,dN,h];rfl
def scN (c:Nat):Prop:=c<=1114111/\¬(55296<=c/\c<=57343)
theorem yQ9 (h:(kK s).2.2=true):scN (kK s).1:=by
 cases s with
 | nil=>simp[kK] at h
 | cons b r=>
  rw[zEO] at h ⊢;have hb:b.toNat<256:=b.toNat_lt;generalize b.toNat=b at h hb ⊢;by_cases K:x9 b=0;rw[eG K] at h;simp at h;rw[dU K] at h ⊢;unfold scN;by_cases h1:b<128;have G:x9 b=1:=by unfold x9;rw[dU (by omega),dU (by omega),dU (by omega),dU (by omega),dU (by omega)]
  have H:zBQ b=b:=by unfold zBQ;simp[G]
  rw[G,H];simp only[Nat.sub_self,xG];omega;by_cases h2:b<224;have O:194<=b:=by unfold x9 at K;split at K<;>omega
  have G:x9 b=2:=by unfold x9;split;omega;split;omega;split;omega;split;omega;split;rfl;omega
  have H:zBQ b=b%32:=by unfold zBQ;simp[G]
  have Z:zET b=(128,191):=by unfold zET;rw[dU (by omega),dU (by omega),dU (by omega),dU (by omega)]
  rw[G,H,Z] at h ⊢;cases r with
  | nil=>simp[xG] at h
  | cons x r=>
   simp only[Nat.add_one_sub_one,xG] at h ⊢;split at h;simp at h;rename_i D;rw[dU D];simp only;omega
  by_cases h3:b<240;have G:x9 b=3:=by unfold x9;split;omega;split;omega;split;omega;split;rfl;omega
  have H:zBQ b=b%16:=by unfold zBQ;simp[G]
  rw[G,H] at h ⊢;cases r with
  | nil=>simp[xG] at h
  | cons x r=>
   simp only[Nat.add_one_sub_one,xG] at h ⊢;split at h;simp at h;rename_i D;rw[dU D];cases r with
   | nil=>simp[xG] at h
   | cons y r=>
    simp only[xG] at h ⊢;split at h;simp at h;rename_i T;rw[dU T];simp only;unfold zET at D;split at D;simp only at D;omega;split at D;simp only at D;omega;split at D;omega;split at D;omega;simp only at D;omega
  have O:b<=244:=by unfold x9 at K;split at K;omega;split at K;omega;omega
  have G:x9 b=4:=by unfold x9;split;omega;split;omega;split;rfl;omega
  have H:zBQ b=b%8:=by unfold zBQ;simp[G]
  rw[G,H] at h ⊢;cases r with
  | nil=>simp[xG] at h
  | cons x r=>
   simp only[Nat.add_one_sub_one,xG] at h ⊢;split at h;simp at h;rename_i D;rw[dU D];cases r with
   | nil=>simp[xG] at h
   | cons y r=>
    simp only[xG] at h ⊢;split at h;simp at h;rename_i T;rw[dU T];cases r with
    | nil=>simp[xG] at h
    | cons z r=>
     simp only[xG] at h ⊢;split at h;simp at h;rename_i hz;rw[dU hz];simp only;unfold zET at D;split at D;omega;split at D;omega;split at D;simp only at D;omega;split at D;simp only at D;omega;simp only at D;omega
def scI (c:Int):Prop:= ∃k:Nat,c=k/\scN k
theorem yET:∀(f:Nat) (s:Str),∀c∈zUW f s,scI c
 | 0,_,c,h=>by simp[zUW] at h
 | f+1,s,c,h=>by
  unfold zUW at h;split at h;simp at h;rcases eP.1 h with rfl | h
  split;rename_i D;exact⟨_,rfl,yQ9 D⟩;exact⟨65533,rfl,by unfold scN;omega⟩
  exact yET f _ c h
theorem z42:∀c∈zDM s,scI c:=yET _ s
theorem z85:∀(f:Nat) (s:Str),(zUW f s).length<=s.length
 | 0,s=>by simp[zUW]
 | f+1,s=>by
  unfold zUW;split;simp;rename_i h;have D:=zII h;have:=z85 f (s.drop (kK s).2.1);simp only[fD,eF] at this ⊢;omega
theorem zYO (s:Str):(zDM s).length<=s.length:=z85 _ s
def by8 (n:Nat):UInt8:=UInt8.ofNat n
theorem zIJ {n:Nat} (h:n<256):(by8 n).toNat=n:=by simp[by8];omega
def zFO (c:Nat):Str:=if c<=127 then [by8 c] else if c<=2047 then [by8 (192+c/64),by8 (128+c%64)] else if c<=65535 then [by8 (224+c/4096),by8 (128+c/64%64),by8 (128+c%64)] else [by8 (240+c/262144),by8 (128+c/4096%64),by8 (128+c/64%64),by8 (128+c%64)]
theorem zMS {n:Nat} {b:UInt8} {r:Str} {lo hi c x:Nat} (hb:b.toNat=x) (h:lo<=x/\x<=hi):xG (n+1) (b::r) k lo hi c=xG n r (k+1) 128 191 (c*64+x%64):=by subst hb;rw[xG,dU (by omega)]
theorem yIE {c:Nat} (h:scN c) (t:Str):kK (zFO c++t)=(c,(zFO c).length,true):=by
 unfold scN at h;unfold zFO;split;rename_i T;have hb:(by8 c).toNat=c:=zIJ (by omega);have D:x9 c=1:=by unfold x9;rw[dU (by omega),dU (by omega),dU (by omega),dU (by omega),dU (by omega)]
 have G:zBQ c=c:=by unfold zBQ;simp[D]
 rw[gV,zEO,hb,D,G];rfl;rename_i T;split;rename_i Z;have hb:(by8 (192+c/64)).toNat=192+c/64:=zIJ (by omega);have K:(by8 (128+c%64)).toNat=128+c%64:=zIJ (by omega);have D:x9 (192+c/64)=2:=by unfold x9;split;omega;split;omega;split;omega;split;omega;split;rfl;omega
 have G:zBQ (192+c/64)=(192+c/64)%32:=by unfold zBQ;simp[D]
 have H:zET (192+c/64)=(128,191):=by unfold zET;rw[dU (by omega),dU (by omega),dU (by omega),dU (by omega)]
 rw[fV,gV,zEO,hb,D,G,H,dU (by omega),zMS K (by simp only;omega),xG]
 simp only[Prod.mk.injEq,and_true];exact⟨by omega,rfl⟩;rename_i Z;split;rename_i h3;have hb:(by8 (224+c/4096)).toNat=224+c/4096:=zIJ (by omega);have O:(by8 (128+c/64%64)).toNat=128+c/64%64:=zIJ (by omega);have K:(by8 (128+c%64)).toNat=128+c%64:=zIJ (by omega);have D:x9 (224+c/4096)=3:=by unfold x9;split;omega;split;omega;split;omega;split;rfl;omega
 have G:zBQ (224+c/4096)=(224+c/4096)%16:=by unfold zBQ;simp[D]
 have H:(zET (224+c/4096)).1<=128+c/64%64/\128+c/64%64<=(zET (224+c/4096)).2:=by
  unfold zET;split;simp only;omega;split;simp only;omega;split;omega;split;omega;simp only;omega
 rw[fV,fV,gV,zEO,hb,D,G,dU (by omega),zMS O H,zMS K (by omega),xG];simp only[Prod.mk.injEq,and_true];exact⟨by omega,rfl⟩;rename_i h3;have hb:(by8 (240+c/262144)).toNat=240+c/262144:=zIJ (by omega);have hw:(by8 (128+c/4096%64)).toNat=128+c/4096%64:=zIJ (by omega);have O:(by8 (128+c/64%64)).toNat=128+c/64%64:=zIJ (by omega);have K:(by8 (128+c%64)).toNat=128+c%64:=zIJ (by omega);have D:x9 (240+c/262144)=4:=by unfold x9;split;omega;split;omega;split;rfl;omega
 have G:zBQ (240+c/262144)=(240+c/262144)%8:=by unfold zBQ;simp[D]
 have H:(zET (240+c/262144)).1<=128+c/4096%64/\128+c/4096%64<=(zET (240+c/262144)).2:=by
  unfold zET;split;omega;split;omega;split;simp only;omega;split;simp only;omega;simp only;omega
 rw[fV,fV,fV,gV,zEO,hb,D,G,dU (by omega),zMS hw H,zMS O (by omega),zMS K (by omega),xG];simp only[Prod.mk.injEq,and_true];exact⟨by omega,rfl⟩
theorem zMT (c:Nat):1<=(zFO c).length/\(zFO c).length<=4:=by
 unfold zFO
 repeat (split;simp)
 simp
theorem yEU {c:Nat} (h:scN c):zA7 (c:Int)=some true:=by
 unfold scN at h;unfold zA7 wI zCS;have G:decide ((0:Int)<=(c:Int))=true:=by simp
 have H:decide ((c:Int)<=1114111)=true:=by simp;omega
 simp only[zN,G,H,g9,zA,vN];by_cases K:55296<=c;have D:decide ((c:Int)<=57343)=false:=by simp;omega
 simp[D];have D:decide (55296<=(c:Int))=false:=by simp;omega
 simp[D]
def yVD (c:Nat):Nat:=if c<=127 then 1 else if c<=2047 then 2 else if c<=65535 then 3 else 4
theorem yRA {c:Nat} (h:scN c):zD9 (c:Int)=some ((yVD c:Nat):Int):=by
 unfold zD9;rw[yEU h,zA];have K:decide ((c:Int)<=127)=decide (c<=127):=by by_cases D:c<=127<;>simp[D]<;>omega
 have O:decide ((c:Int)<=2047)=decide (c<=2047):=by by_cases D:c<=2047<;>simp[D]<;>omega
 have T:decide ((c:Int)<=65535)=decide (c<=65535):=by by_cases D:c<=65535<;>simp[D]<;>omega
 rw[K,O,T];unfold yVD;by_cases G:c<=127;simp[G];by_cases H:c<=2047;simp[G,H];by_cases Z:c<=65535<;>simp[G,H,Z]
theorem wu8 {n:Nat} (h:n<256):IntKind.u8.wrap (n:Int)=(n:Int):=by simp[IntKind.wrap,IntKind.bits,IntKind.signed];omega
theorem zIC {c:Nat} {r:LI} (Z:0<k) (h:k<r.length) (O:k<=100) (T:c<4294967296):kQ (c:Int) (k:Int) r=some (.next (((c/64:Nat):Int),((k-1:Nat):Int),r.set k ((128+c%64:Nat):Int))):=by
 have D:decide ((0:Int)<(k:Int))=true:=by simp;omega
 have G:zRF .i64 (c:Int) 63=((c%64:Nat):Int):=by
  have:=yM7 (a:=c) (b:=63) (by omega) (by omega);rw[yXU] at this;exact this
 have H:bOr .i64 128 ((c%64:Nat):Int)=((128+c%64:Nat):Int):=by
  have:=z4X (a:=128) (b:=c%64) (by omega) (by omega);rw[show (128:Nat)=2*2 ^ 6 from rfl,zYM (Nat.mod_lt _ (by decide))] at this;exact this
 unfold kQ;simp only[D,dO,z8 h,zA,G,H,wu8 (show 128+c%64<256 by omega),zHJ h];have K:wi ((k:Int)-1)=((k-1:Nat):Int):=by rw[j9 (by omega) (by omega)];omega
 rw[show (c:Int)/2 ^ 6=((c/64:Nat):Int) by rw[show ((2:Int) ^ 6)=((64:Nat):Int) from rfl];exact(Int.natCast_ediv c 64).symm]
 rw[K]
theorem zUX (c:Int) (r:LI):kQ c 0 r=some (.done (c,r)):=rfl
theorem zYP {L w:Int} {m v q:Nat} {r:LI} (Z:z62 .i64 3840 L=some w) (hb:zRF .i64 w 255=((m:Nat):Int)) (O:m ||| v=q) (hm:m<256) (hv:v<256) (T:q<256) (G:0<r.length):
  ((z62 .i64 3840 L).bind λD=>(yO r (0:Int)).bind λaa=>(zCV r (0:Int) ((IntKind.u8.wrap) (bOr .i64 (zRF .i64 D 255) (v:Int)))).bind λh=>some (yGB h))=some (yGB (r.set 0 (q:Int))):=by
 have H:yO r (0:Int)=some r[0]:=z8 (k:=0) G;have K:zCV r (0:Int) (q:Int)=some (r.set 0 (q:Int)):=zHJ (k:=0) G _;rw[Z,zA,H,zA,hb,z4X (by omega) (by omega),O,wu8 T,K,zA]
theorem yNB {c:Nat} (h:scN c):zF4 (c:Int)=some (zFO c):=by have K:c<=1114111:=h.1;unfold zF4;rw[yRA h,zA];unfold yVD zFO;by_cases D:c<=127;rw[eG D,eG D];have:decide (((1:Nat):Int)=1)=true:=rfl;rw[this,dO,wu8 (by omega)];rfl;rw[dU D,dU D];by_cases G:c<=2047;rw[eG G,eG G];have d:decide (((2:Nat):Int)=1)=false:=rfl;have w:wi (((2:Nat):Int)-1)=((1:Nat):Int):=rfl;have m:mkM (0:Int) ((2:Nat):Int)=some [0,0]:=zRT (n:=2) (by omega);rw[d,dN,m,zA,w,zI (body:=λ(x:Int×Int×LI)=>kQ x.1 x.2.1 x.2.2) (zIC (k:=1) (r:=[0,0]) (by omega) (by simp) (by omega) (by omega)),zP (body:=λ(x:Int×Int×LI)=>kQ x.1 x.2.1 x.2.2) (zUX _ _),zA];refine(zYP (m:=192) (q:=192+c/64) rfl (by decide) ?_ (by omega) (by omega) (by omega) (by simp)).trans rfl;rw[show (192:Nat)=6*2 ^ 5 from rfl,zYM (by omega)];rw[dU G,dU G];by_cases H:c<=65535;rw[eG H,eG H];have d:decide (((3:Nat):Int)=1)=false:=rfl;have w:wi (((3:Nat):Int)-1)=((2:Nat):Int):=rfl;have m:mkM (0:Int) ((3:Nat):Int)=some [0,0,0]:=zRT (n:=3) (by omega);rw[d,dN,m,zA,w,zI (body:=λ(x:Int×Int×LI)=>kQ x.1 x.2.1 x.2.2) (zIC (k:=2) (r:=[0,0,0]) (by omega) (by simp) (by omega) (by omega)),zI (body:=λ(x:Int×Int×LI)=>kQ x.1 x.2.1 x.2.2) (zIC (k:=1) (c:=c/64) (by omega) (by simp) (by omega) (by omega)),zP (body:=λ(x:Int×Int×LI)=>kQ x.1 x.2.1 x.2.2) (zUX _ _),zA];rw[show c/64/64=c/4096 by rw[Nat.div_div_eq_div_mul]];refine(zYP (m:=224) (q:=224+c/4096) rfl (by decide) ?_ (by omega) (by omega) (by omega) (by simp)).trans rfl;rw[show (224:Nat)=14*2 ^ 4 from rfl,zYM (by omega)];rw[dU H,dU H];have d:decide (((4:Nat):Int)=1)=false:=rfl;have w:wi (((4:Nat):Int)-1)=((3:Nat):Int):=rfl;have m:mkM (0:Int) ((4:Nat):Int)=some [0,0,0,0]:=zRT (n:=4) (by omega);rw[d,dN,m,zA,w,zI (body:=λ(x:Int×Int×LI)=>kQ x.1 x.2.1 x.2.2) (zIC (k:=3) (r:=[0,0,0,0]) (by omega) (by simp) (by omega) (by omega)),zI (body:=λ(x:Int×Int×LI)=>kQ x.1 x.2.1 x.2.2) (zIC (k:=2) (c:=c/64) (by omega) (by simp) (by omega) (by omega)),zI (body:=λ(x:Int×Int×LI)=>kQ x.1 x.2.1 x.2.2) (zIC (k:=1) (c:=c/64/64) (by omega) (by simp) (by omega) (by omega)),zP (body:=λ(x:Int×Int×LI)=>kQ x.1 x.2.1 x.2.2) (zUX _ _),zA];rw[show c/64/64/64=c/262144 by rw[Nat.div_div_eq_div_mul,Nat.div_div_eq_div_mul],show c/64/64=c/4096 by rw[Nat.div_div_eq_div_mul]];refine(zYP (m:=240) (q:=240+c/262144) rfl (by decide) ?_ (by omega) (by omega) (by omega) (by simp)).trans rfl;rw[show (240:Nat)=30*2 ^ 3 from rfl,zYM (by omega)]
theorem yEV (c:Nat):(zFO c).isEmpty=false:=by
 have:=zMT c;cases h:zFO c with
 | nil=>rw[h] at this;simp at this
 | cons _ _=>rfl
theorem yNC {c:Nat} (h:scN c):zHE () (c:Int)=some (zFO c,true):=by
 unfold zHE zGD;have D:zBF 1=some true:=rfl;have:=zMT c;simp only[D,zA,dO,yEU h,yNB h,j7 (show ([]:Str).length+(zFO c).length<=4294967296 by simp;omega),eN,yEV,dN]
 rfl
def zBM (l:LI):Str:=l.flatMap λc=>zFO c.toNat
theorem z86:∀l:LI,l.length<=(zBM l).length/\(zBM l).length<=4*l.length
 | []=>by simp[zBM]
 | c::l=>by
  have:=z86 l;have h:=zMT c.toNat;simp only[zBM,fC,d8,eF] at this ⊢;omega
theorem yND {l:LI} (hl:l.length<=1000) (Z:∀c∈l,scI c):∀(n k:Nat) (out:Str),k+n=l.length->out.length<=4*k->
  zE (λ(x:Int×Str)=>xZ l x.1 x.2) ((k:Int),out)=some (out++zBM (l.drop k)):=by
 intro n
 induction n with
 | zero=>
  intro k out O T;have:k=l.length:=by omega
  subst this;rw[yQ];simp only[xZ,kU (d9 _),dN,gR];simp[zBM]
 | succ n ih=>
  intro k out O T;have D:k<l.length:=by omega
  obtain⟨c,K,H⟩:=Z l[k] (fI D);have hz:=zMT c;have hb:xZ l (k:Int) out=some (.next (((k+1:Nat):Int),out++zFO c)):=by
   have G:(out++zFO c).isEmpty=false:=by have:=yEV c;cases h:zFO c with
    | nil=>rw[h] at this;simp at this
    | cons _ _=>simp
   simp only[xZ,yY D,dO,z8 D,zA,K,yNC H,j7 (show out.length+(zFO c).length<=4294967296 by omega),G,dN,zL (k:=k) (by omega)]
  rw[zI (body:=λ(x:Int×Str)=>xZ l x.1 x.2) hb,ih _ _ (by omega) (by simp;omega),eA D,K]
  simp[zBM]
theorem yCE {l:LI} (G:l.length<=1000) (H:∀c∈l,scI c):zE7 e8U l 2=some (zBM l,{cK:=0,At:=0}):=by unfold zE7;have D:zEL 2=some true:=rfl;have:=yND G H l.length 0 [] (by omega) (by simp);simp only[eN,e9] at this;have h:zE (λ(x:Int×Str)=>xZ l x.1 x.2) (0,[])=some (zBM l):=this;simp only[zWS,zA,dO,D,h]
theorem yRB (h:s.length<=1000):zBW e8U e8U s 2=some (zBM (zDM s),{cK:=0,At:=0}):=by unfold zBW;have d:decide ((2:Int)=1)=false:=rfl;simp only[zWS,zA,zN,dY,je,dN,d,yCC h,eH,yCE (fA (zYO s) h) z42]
theorem yCF {l:LI} (hl:l.length<=250) (hs:∀c∈l,scI c):∀(n k:Nat) (out:LI),k+n=l.length->out.length<=k->
  zE (λ(x:Int×LI)=>yX (zBM l) 1 x.1 x.2) ((((zBM (l.take k)).length:Nat):Int),out)=some (out++l.drop k):=by
 intro n
 induction n with
 | zero=>
  intro k out T Z;have:k=l.length:=by omega
  subst this;rw[yQ,iD];simp only[yX,kU (d9 _),dN,gR,fm]
 | succ n ih=>
  intro k out T Z;have D:k<l.length:=by omega
  obtain⟨c,H,K⟩:=hs l[k] (fI D);have hz:=zMT c;have hB:=(z86 l).2;have O:zBM l=zBM (l.take k)++(zFO c++zBM (l.drop (k+1))):=by
   have:l=l.take k++l[k]::l.drop (k+1):=by rw[<-eA D,fh]
   conv=>lhs;rw[this]
   simp[zBM,H]
  have G:zBM (l.take (k+1))=zBM (l.take k)++zFO c:=by
   rw[List.take_succ_eq_append_getElem D,H];simp[zBM]
  have hL:(zBM (l.take k)).length+((zFO c).length+(zBM (l.drop (k+1))).length)=(zBM l).length:=by rw[O];simp
  have hd:(zBM l).drop (zBM (l.take k)).length=zFO c++zBM (l.drop (k+1)):=by rw[O];simp
  have h:(zBM (l.take k)).length<(zBM l).length:=by omega
  have ew:wi ((((zBM (l.take k)).length:Nat):Int)+(((zFO c).length:Nat):Int))=((((zBM (l.take (k+1))).length:Nat)):Int):=by rw[j9 (by omega) (by omega),G];simp
  obtain⟨q,hq⟩:=z40 (l:=zBM l) (a:=(zBM (l.take k)).length) (b:=(zBM (l.take (k+1))).length) (by rw[G];simp) (by rw[G];simp;omega)
  have hb:yX (zBM l) 1 (((zBM (l.take k)).length:Nat):Int) out=some (.next ((((zBM (l.take (k+1))).length:Nat):Int),out++ [l[k]])):=by
   simp only[yX,yY h,dO,zHK (Nat.le_of_lt h),zA,hd];rw[zYN (by simp;omega),yIE K,zA]
   simp only[ew,hq,zA,dO,H,j7 (show out.length+ [((c:Nat):Int)].length<=4294967296 by simp;omega)]
  rw[zI (body:=λ(x:Int×LI)=>yX (zBM l) 1 x.1 x.2) hb,ih _ _ (by omega) (by simp;omega),eA D]
  simp
theorem yNE {l:LI} (G:l.length<=250) (H:∀c∈l,scI c):vQ (zBM l) 1=some (l,{cK:=0,At:=0}):=by unfold vQ;have D:zBF 1=some true:=rfl;have:=yCF G H l.length 0 [] (by omega) (by simp);simp only[eN,e9,iT] at this;have h:zE (λ(x:Int×LI)=>yX (zBM l) 1 x.1 x.2) (0,[])=some l:=this;simp only[D,zA,dY,dN,h]
def csU (rest:Str) (done:Int):aJ:={aD:={rest:=rest,done:=done},aO:=true,aY:=e8U,cO:=e8U,bJ:=2}
theorem yVE:zE4 e8U e8U 2=some (csU [] 0,0):=rfl
theorem yNF {d:Int} (h:k<=s.length):xJ (csU s d) (k:Int)=some (s.take k,csU (s.drop k) (wi (d+k))):=by unfold xJ;have D:slc (csU s d).aD.rest 0 (k:Int)=some (s.take k):=zYA h;have G:slc (csU s d).aD.rest (k:Int) (((csU s d).aD.rest.length:Nat):Int)=some (s.drop k):=zHK h;rw[D,zA,G,zA];rfl
theorem z87 {d:Int} (h:k<=s.length) (D:s.length<=1000):xK (csU s d) (k:Int)=some (zBM (zDM (s.take k)),{cK:=0,At:=0},csU (s.drop k) (wi (d+k))):=by
 unfold xK;rw[yNF h,zA];have:zBW (csU s d).aY (csU s d).cO (s.take k) (csU s d).bJ=some (zBM (zDM (s.take k)),{cK:=0,At:=0}):=yRB (by simp;omega)
 rw[this,zA];rfl
theorem yIF {t:Str} {d:Int} (h:(s++t).length<=1000):∃D,wC (csU s d) t=some (zBM (zDM ((s++t).take (zKU (s++t)))),{cK:=0,At:=0},csU ((s++t).drop (zKU (s++t))) D):=by
 unfold wC;have G:xP (csU s d)=some (false,csU s d):=rfl;have H:vU (csU s d) t=some (csU (s++t) d):=by
  unfold vU;have:app (csU s d).aD.rest t=some (s++t):=j7 (by simp at h;show s.length+t.length<=_;omega)
  rw[this,zA];rfl
 have K:uM (csU (s++t) d).aY (csU (s++t) d).aD.rest=some ((zKU (s++t):Nat):Int):=yQ8 h;rw[G,zA];simp only[dN];rw[H,zA,K,zA,z87 (yER _ _ (d9 _)) h,zA];exact⟨_,rfl⟩
theorem yIG {d:Int} (H:s.length<=1000):∃S,wD (csU s d)=some (zBM (zDM s),{cK:=0,At:=0},S):=by
 unfold wD;have D:xP (csU s d)=some (false,csU s d):=rfl;have G:xK (csU s d) (((csU s d).aD.rest.length:Nat):Int)=some (zBM (zDM (s.take s.length)),{cK:=0,At:=0},csU (s.drop s.length) (wi (d+(s.length:Int)))):=z87 (d9 _) H;rw[D,zA];simp only[dN];rw[G,zA,iD,gR];have h:∃S,vM (csU [] (wi (d+(s.length:Int))))=some S:=by
  unfold vM;have:xJ ({csU [] (wi (d+(s.length:Int))) with aO:=false}:aJ) ((0:Nat):Int)=some ([],{csU [] (wi (wi (d+(s.length:Int))+0)) with aO:=false}):=rfl;exact⟨_,by
   refine(congrArg (λo=>Option.bind o _) this).trans ?_;rfl⟩
 obtain⟨S,h⟩:=h;simp only[h,zA];exact⟨_,rfl⟩
theorem yIH {s:Set} (K:s.Ranges.length<=30000):∀(d i:Nat),s.Ranges.length-i=d->i<=s.Ranges.length->
  zE (λ(x:Int)=>uQ s c x) (i:Int)=some (if (s.Ranges.drop i).any (λr=>decide (r.Lo<=c)&&decide (c<=r.Hi))=true then .inr true else .inl ()):=by
 intro d
 induction d with
 | zero=>
  intro i D G;rw[yQ,eJ (by omega)];simp only[uQ,kU (show s.Ranges.length<=i by omega),dN];rfl
 | succ d H=>
  intro i D G;have hi:i<s.Ranges.length:=by omega
  rw[eA hi,List.any_cons];have hb:uQ s c (i:Int)=some (if (decide (s.Ranges[i].Lo<=c)&&decide (c<=s.Ranges[i].Hi))=true then .done (.inr true) else .next ((i+1:Nat):Int)):=by
   simp only[uQ,yY hi,dO,z8 hi,zA,zN,zL (k:=i) (by omega)];cases (decide (s.Ranges[i].Lo<=c)&&decide (c<=s.Ranges[i].Hi))<;>rfl
  cases h:(decide (s.Ranges[i].Lo<=c)&&decide (c<=s.Ranges[i].Hi)) with
  | true=>
   rw[h] at hb;rw[zP (body:=λ(x:Int)=>uQ s c x) hb];simp
  | false=>
   rw[h] at hb;rw[zI (body:=λ(x:Int)=>uQ s c x) hb,H (i+1) (by omega) (by omega)];simp
theorem yRC {s:Set} (G:s.Ranges.length<=30000) (c:Int):zG2 s c=some (zDL s.Ranges c):=by
 unfold zG2 zDL;rw[zTC,zA];cases H:vld c with
 | false=>simp
 | true=>
  have:=yIH (c:=c) G s.Ranges.length 0 (by omega) (by omega);have D:zE (λ(x:Int)=>uQ s c x) 0=_:=this;simp only[dY,dN,D,zA,e9,eV];split;rename_i h;simp only[iX];rw[h];rename_i h;simp only[fw];simp only[iW] at h;rw[h]
theorem zYQ {l:List bL} (G:l.length<=30000) (D:∀x∈l,cZ x) (h:CV l) (c:Int):uI l c=some (decide (clE l c=0)):=by unfold uI zBC;rw[zP6 G D h,zA,zHL h G,zA,zA]
theorem yII {l:List bL} (G:l.length<=30000) (D:∀x∈l,cZ x) (h:CV l) (c:Int):zBC l c=some (clE l c):=by unfold zBC;rw[zP6 G D h,zA,zHL h G,zA]
noncomputable def hcE (a b:Int):Int×Bool:=(uZ a b).getD (0,false)
theorem z88 (a b:Int):uZ a b=some (hcE a b):=by
 unfold hcE uZ;rw[zIG,zA,zIG,zA];cases decide (({x0:=hkE a,x1:=hkE b}:bD)=({x0:=1,x1:=2}:bD)) with
 | true=>rfl
 | false=>cases decide (({x0:=hkE a,x1:=hkE b}:bD)=({x0:=4,x1:=3}:bD))<;>rfl
theorem yNG {a b:Int} (h:(hcE a b).2=true):hkE b=2\/hkE b=3:=by unfold hcE uZ at h;rw[zIG,zA,zIG,zA] at h;by_cases D:({x0:=hkE a,x1:=hkE b}:bD)=({x0:=1,x1:=2}:bD);simp only[bD.mk.injEq] at D;exact .inl D.2;by_cases G:({x0:=hkE a,x1:=hkE b}:bD)=({x0:=4,x1:=3}:bD);simp only[bD.mk.injEq] at G;exact .inr G.2;rw[jd D,jd G] at h;simp at h
noncomputable def jnE (m:List (bD×Int)) (a b:Int):Int×Bool:=if (hcE a b).2=true then ((hcE a b).1,true) else (wR m {x0:=a,x1:=b} 0,zB0 m {x0:=a,x1:=b})
theorem yRD (m:List (bD×Int)) (a b:Int):zHA m a b=some (jnE m a b):=by unfold zHA jnE;rw[z88,zA];cases (hcE a b).2<;>rfl
noncomputable def cmS (cl:Int->Int) (m:List (bD×Int)) (st:Int×Int×LI) (x:Int):Int×Int×LI:=
 if 0<=st.1/\¬(st.1<(st.2.2.length:Int)-1/\cl x<=st.2.1)/\(jnE m (st.2.2.getD st.1.toNat 0) x).2=true then (st.1,st.2.1,st.2.2.set st.1.toNat (jnE m (st.2.2.getD st.1.toNat 0) x).1)
 else (if cl x=0 then (st.2.2.length:Int) else st.1,cl x,st.2.2++ [x])
theorem z43 {st:Int×Int×LI} (h:st.1<(st.2.2.length:Int)):(cmS cl m st x).1<((cmS cl m st x).2.2.length:Int)/\(cmS cl m st x).2.2.length<=st.2.2.length+1:=by unfold cmS;split;simp;exact h;simp only[d8,gL];split<;>omega
noncomputable def cmT (cl:Int->Int) (m:List (bD×Int)) (text:LI):LI:=(text.foldl (cmS cl m) (-1,0,[])).2.2
section
variable {cls:List bL} (hl:cls.length<=30000) (hok:∀x∈cls,cZ x) (h:CV cls) (hn:n.aI=cls)
include hl hok h hn
theorem yRE (ht:text.length<=30000):∀(d i:Nat) (st:Int×Int×LI),text.length-i=d->i<=text.length->st.2.2.length<=i->st.1<(st.2.2.length:Int)-> -1<=st.1->
  zE (λ(x:Int×Int×Int×LI)=>wW text n m x.1 x.2.1 x.2.2.1 x.2.2.2) (st.1,st.2.1,(i:Int),st.2.2)=some ((text.drop i).foldl (cmS (clE cls) m) st).2.2:=by
 intro d
 induction d with
 | zero=>
  intro i st h1 h2 h3 h4 h5;rw[yQ,eJ (by omega)];simp only[wW,kU (show text.length<=i by omega),dN];rfl
 | succ d ih=>
  intro i st h1 h2 h3 h4 h5;obtain⟨D,G,out⟩:=st;simp only at h3 h4 h5;have hi:i<text.length:=by omega
  rw[eA hi,gG];have hb:wW text n m D G (i:Int) out=some (.next ((cmS (clE cls) m (D,G,out) text[i]).1,(cmS (clE cls) m (D,G,out) text[i]).2.1,((i+1:Nat):Int),(cmS (clE cls) m (D,G,out) text[i]).2.2)):=by
   have ew:wi ((out.length:Int)-1)=(out.length:Int)-1:=j9 (by omega) (by omega);have ea:app out [text[i]]=some (out++ [text[i]]):=j7 (by simp;omega)
   have aa:((cond (decide (clE cls text[i]=0)) (some (out.length:Int)) (some D)).bind λ(y5:Int)=>(some (out++ [text[i]])).bind λH=>(some (y5,clE cls text[i],H):Option (Int×Int×LI)))=some (if clE cls text[i]=0 then (out.length:Int) else D,clE cls text[i],out++ [text[i]]):=by
    by_cases O:clE cls text[i]=0<;>simp[O]
   simp only[wW,yY hi,dO,z8 hi,zA,hn,yII hl hok h,zN,ew,ea,zL (k:=i) (by omega)];by_cases K:0<=D/\¬(D<(out.length:Int)-1/\clE cls text[i]<=G)
   ·have Z:(decide (0<=D)&& !(decide (D<(out.length:Int)-1)&&decide (clE cls text[i]<=G)))=true:=by
     simp only[eC,d7,fG,eY,dS];refine⟨K.1,?_⟩;have:=K.2;omega
    obtain⟨k,rfl⟩:∃k:Nat,D=k:=⟨D.toNat,by omega⟩;have hk:k<out.length:=by omega
    have eg:out.getD k 0=out[k]:=by simp[hk]
    simp only[Z,dO,z8 hk,zA,yRD,zHJ hk];by_cases T:(jnE m out[k] text[i]).2=true
    ·have:cmS (clE cls) m ((k:Int),G,out) text[i]=((k:Int),G,out.set k (jnE m out[k] text[i]).1):=by
      unfold cmS;simp only[hP,eg];rw[eG ⟨K.1,K.2,T⟩]
     simp only[T,dO,zA,fw,this]
    ·have:cmS (clE cls) m ((k:Int),G,out) text[i]=(if clE cls text[i]=0 then (out.length:Int) else (k:Int),clE cls text[i],out++ [text[i]]):=by
      unfold cmS;simp only[hP,eg];rw[dU (λq=>T q.2.2)]
     have ad:(jnE m out[k] text[i]).2=false:=by simpa using T
     simp only[ad,dN,zA,iX];rw[this];by_cases O:clE cls text[i]=0<;>simp[O]
   ·have Z:(decide (0<=D)&& !(decide (D<(out.length:Int)-1)&&decide (clE cls text[i]<=G)))=false:=by
     rw[iM];intro q;simp only[eC,d7,fG,eY,dS] at q;exact K ⟨q.1,by have:=q.2;omega⟩
    have:cmS (clE cls) m (D,G,out) text[i]=(if clE cls text[i]=0 then (out.length:Int) else D,clE cls text[i],out++ [text[i]]):=by
     unfold cmS;rw[dU (λq=>K ⟨q.1,q.2.1⟩)]
    simp only[Z,dN,zA,iX];rw[this];by_cases O:clE cls text[i]=0<;>simp[O]
  have hv:=z43 (cl:=clE cls) (m:=m) (st:=(D,G,out)) (x:=text[i]) h4;have ah: -1<=(cmS (clE cls) m (D,G,out) text[i]).1:=by
   unfold cmS;split
   ·exact h5
   ·simp only;split<;>omega
  have ai:=hv.2;simp only at ai;rw[zI (body:=λ(x:Int×Int×Int×LI)=>wW text n m x.1 x.2.1 x.2.2.1 x.2.2.2) (x:=(D,G,(i:Int),out)) hb,ih (i+1) _ (by omega) (by omega) (by omega) hv.1 ah]
end
theorem z89 {D G:Type} [DecidableEq D]:∀(m:List (D×G)) (k: D) (v: G),∀e∈vS m k v,e=(k,v)\/e∈m
 | [],k,v,e,h=>by simp[vS] at h;exact .inl h
 | (H,K)::r,k,v,e,h=>by
  unfold vS at h;split at h;rcases eP.1 h with h | h
  exact .inl h;exact .inr (by simp[h]);rcases eP.1 h with h | h
  exact .inr (by simp[h]);rcases z89 r k v e h with h | h
  exact .inl h;exact .inr (by simp[h])
theorem z9A {h D:Type} [DecidableEq h]:∀(m:List (h×D)) (k: h) (v: D),(vS m k v).length<=m.length+1
 | [],k,v=>by simp[vS]
 | (G,H)::r,k,v=>by
  unfold vS;split;simp;have:=z9A r k v;simp only[eF];omega
def z15 (n:Norm) (m:List (bD×Int)):Prop:= ∀e∈m,vld e.1.x1=true
theorem yIJ (hs:NSm n) (aa:uV n) (hv:VD0 n) (hi:i<n.aA.length) (m:List (bD×Int)) (G:z15 n m):
  ∃m',jO n (i:Int) m=some (.next (((i+1:Nat):Int),m'))/\z15 n m'/\m'.length<=m.length+1:=by
 have hM:=fI hi;have Z:n.aL.Ranges.length<=30000:=by have:=hs.ex;omega
 have T:n.aI.length<=30000:=by have:=hs.cl;omega
 have K:=(hv.mv.co _ hM).2;have O:=λc=>zYQ T aa.1.2 hv.cv c;simp only[jO,yY hi,dO,z8 hi,zA,zN,zL (k:=i) (show i+1<=9223372036854775807 by have:=hs.de;omega)]
 generalize n.aA[i]=M at K ⊢;by_cases hA:(!(M.bU== []) || !decide ((M.To.length:Int)=2))=true
 ·simp only[hA,dY,zBR,zA,fS,dO]
  exact⟨m,rfl,G,by omega⟩
 ·have H:(!(M.bU== []) || !decide ((M.To.length:Int)=2))=false:=by simpa using hA
  have hL:M.To.length=2:=by
   simp only[fR,Bool.not_eq_false',d7] at H;omega
  obtain⟨a,b,D⟩:∃a b,M.To= [a,b]:=by
   match h:M.To,hL with
   | [a,b],_=>exact⟨a,b,rfl⟩
  have i0:yO M.To 0=some a:=by rw[D];rfl
  have i1:yO M.To 1=some b:=by rw[D];rfl
  simp only[H,eD,vN,yRC Z,zA,fo];cases zDL n.aL.Ranges M.aN with
  | true=>simp only[dO,zA];exact⟨m,rfl,G,by omega⟩
  | false=>
   simp only[dN,O,zA,zN];by_cases h1:clE n.aI M.aN=0
   ·simp only[h1,eH,dY,eD,vN,i0,i1,O,zA,fo]
    by_cases h2:clE n.aI a=0
    ·simp only[h2,eH,dY,dN,z88,zA]
     cases (hcE a b).2 with
     | true=>simp only[dO,zA];exact⟨m,rfl,G,by omega⟩
     | false=>
      simp only[dN];cases (!(zB0 m ({x0:=a,x1:=b}:bD)) ||decide (M.aN<(wR m ({x0:=a,x1:=b}:bD) 0))) with
      | false=>simp only[dN,zA];exact⟨m,rfl,G,by omega⟩
      | true=>
       simp only[dO,zA];refine⟨_,rfl,λe he=>?_,z9A _ _ _⟩;rcases z89 _ _ _ e he with rfl | he
       ·exact K b (by rw[D];simp)
       ·exact G e he
    ·simp only[h2,e6,eD,dO,zA];exact⟨m,rfl,G,by omega⟩
   ·simp only[h1,e6,eD,dY,zBR,zA,fS,dO]
    exact⟨m,rfl,G,by omega⟩
theorem yRF (Z:NSm n) (T:uV n) (hv:VD0 n):∃m,xI n=some m/\z15 n m/\m.length<=40:=by
 have key:∀(d i:Nat) (m:List (bD×Int)),n.aA.length-i=d->i<=n.aA.length->z15 n m->m.length<=i->∃h,zE (λ(x:Int×(List (bD×Int)))=>jO n x.1 x.2) ((i:Int),m)=some h/\z15 n h/\h.length<=n.aA.length:=by
  intro d
  induction d with
  | zero=>
   intro i m G K D h4;refine⟨m,?_,D,by omega⟩;rw[yQ];simp only[jO,kU (show n.aA.length<=i by omega),dN]
  | succ d ih=>
   intro i m G K D h4;obtain⟨h,hb,O,ac⟩:=yIJ Z T hv (show i<n.aA.length by omega) m D;rw[zI (body:=λ(x:Int×(List (bD×Int)))=>jO n x.1 x.2) (x:=((i:Int),m)) hb];exact ih (i+1) h (by omega) (by omega) O (by omega)
 obtain⟨m,G,K,D⟩:=key n.aA.length 0 [] (by omega) (by omega) (λe he=>by cases he) (by simp);refine⟨m,?_,K,by have:=Z.de;omega⟩
 unfold xI;have H:zE (λ(x:Int×(List (bD×Int)))=>jO n x.1 x.2) (0,[])=some m:=G;rw[H,zA]
noncomputable def zKV (n:Norm):List (bD×Int):=(xI n).getD []
theorem zWT (K:NSm n) (h:uV n) (O:VD0 n):xI n=some (zKV n)/\z15 n (zKV n)/\(zKV n).length<=40:=by
 obtain⟨m,D,G,H⟩:=yRF K h O;have:zKV n=m:=by unfold zKV;rw[D];rfl
 rw[this];exact⟨D,G,H⟩
theorem yEW (H:NSm n) (D:uV n) (G:VD0 n):zBB n=some n:=by have h:=yED H D G;have e:zBB n=uJ n:=rfl;rw[e,h];unfold usN;rw[eG G]
theorem yNH (G:NSm n) (h:uV n) (H:VD0 n) (Z:text.length<=30000):zFI n text=some (cmT (clE n.aI) (zKV n) text):=by
 unfold zFI;have O:zBB ({aI:=n.aI,aA:=n.aA,aL:=({Ranges:=n.aL.Ranges}:Set)}:Norm)=some n:=yEW G h H;have T:xI ({aI:=n.aI,aA:=n.aA,aL:=({Ranges:=n.aL.Ranges}:Set)}:Norm)=some (zKV n):=(zWT G h H).1;rw[O,zA,T,zA];have K:=yRE (cls:=n.aI) (by have:=G.cl;omega) h.1.2 H.cv (m:=zKV n) (n:=n) rfl Z text.length 0 (-1,0,[]) (by omega) (by omega) (by simp) (by simp) (by simp)
 simp only[e9] at K;have D:zE (λ(x:Int×Int×Int×LI)=>wW text n (zKV n) x.1 x.2.1 x.2.2.1 x.2.2.2) ((-1),0,0,[])=some (cmT (clE n.aI) (zKV n) text):=K;rw[D,zA]
theorem yNI {X Y:List Range} (h:X.Perm Y):zA0 rlt X []=zA0 rlt Y []:=by have H:=zBJ rlt X [];have K:=zBJ rlt Y [];rw[eN] at H K;refine List.Perm.eq_of_pairwise (le:=LeB rlt) (λa b _ _ D G=>?_) (zDX rlt zUM zP4 X [] List.Pairwise.nil) (zDX rlt zUM zP4 Y [] List.Pairwise.nil) (H.trans (h.trans K.symm));unfold LeB rlt at D G;obtain⟨al,O⟩:=a;obtain⟨Z,T⟩:=b;simp only[fR,eY,dS] at D G;simp only[Range.mk.injEq];omega
theorem yVF {X Y:List Range} (h:X.Perm Y):mkE X=mkE Y:=by unfold mkE;rw[yNI (show (zBP X).Perm (zBP Y) by unfold zBP;exact(h.map zQK).filter _)]
def inR (c:Int) (r:Range):Prop:=r.Lo<=c/\c<=r.Hi
theorem yNJ {o:List Range} {r:Range} (K:∀q,o.head? =some q->q.Lo<=r.Lo) (h:inR c r\/∃q∈o,inR c q):∃q∈mrg o r,inR c q:=by
 cases o with
 | nil=>
  rcases h with h | ⟨q,H,_⟩;exact⟨r,by simp[mrg],h⟩;cases H
 | cons q l=>
  have H:=K q rfl;rw[zI2];split;rename_i O;rcases h with h | ⟨G,D,h⟩
  exact⟨_,List.mem_cons_self,by unfold inR at h ⊢;simp only;omega⟩
  rcases eP.1 D with rfl | D;exact⟨_,List.mem_cons_self,by unfold inR at h ⊢;simp only;omega⟩
  exact⟨G,gI _ D,h⟩;rcases h with h | ⟨G,D,h⟩
  exact⟨r,by simp,h⟩;exact⟨G,gI _ D,h⟩
theorem yNK {o:List Range} {r:Range} (D:∀q,o.head? =some q->q.Lo<=r.Lo):∀q,(mrg o r).head? =some q->q.Lo<=r.Lo:=by
 cases o with
 | nil=>intro q h;simp[mrg] at h;subst h;omega
 | cons p l=>
  have G:=D p rfl;intro q h;rw[zI2] at h;split at h;simp at h;subst h;exact G;simp at h;subst h;omega
theorem yEX:∀(l o:List Range),l.Pairwise (λa b=>a.Lo<=b.Lo)->(∀q,o.head? =some q->∀r∈l,q.Lo<=r.Lo)->((∃r∈l,inR c r)\/∃q∈o,inR c q)->∃q∈l.foldl mrg o,inR c q
 | [],o,_,_,h=>by
  rcases h with ⟨r,D,_⟩ | h;cases D;exact h
 | x::l,o,G,O,h=>by
  rw[gG];have K:∀q,o.head? =some q->q.Lo<=x.Lo:=λq H=>O q H x (by simp);rw[gB] at G;refine yEX l _ G.2 (λq H r D=>Int.le_trans (yNK K q H) (G.1 r D)) ?_;rcases h with ⟨r,D,h⟩ | h
  rcases eP.1 D with rfl | D;exact .inr (yNJ K (.inl h));exact .inl ⟨r,D,h⟩;exact .inr (yNJ K (.inr h))
theorem yRG {l:List Range} (H:vld c=true) {r:Range} (T:r∈l) (h:inR c r):zDL (mkE l) c=true:=by
 have hv:0<=c/\c<=1114111:=by unfold vld at H;simpa using H
 have D:zQK r∈zBP l:=by
  unfold zBP;rw[fX];refine⟨List.mem_map_of_mem T,?_⟩;unfold inR at h;have D:(zQK r).Lo=max r.Lo 0:=rfl;have G:(zQK r).Hi=min r.Hi 1114111:=rfl;rw[D,G];simp only[d7];omega
 have O:=zBJ rlt (zBP l) [];rw[eN] at O;have Z:=zDX rlt zUM zP4 (zBP l) [] List.Pairwise.nil;obtain⟨q,K,hi⟩:=yEX (c:=c) (zA0 rlt (zBP l) []) [] (Z.imp (λ{a b} h=>by unfold LeB rlt at h;simp only[fR,dS] at h;omega)) (λq K=>by simp at K) (.inl ⟨zQK r,O.mem_iff.2 D,by unfold inR at h ⊢;have D:(zQK r).Lo=max r.Lo 0:=rfl;have G:(zQK r).Hi=min r.Hi 1114111:=rfl;rw[D,G];omega⟩)
 unfold zDL mkE;rw[gX];refine⟨q,by simpa using K,?_⟩;unfold inR at hi;simp[H,hi.1,hi.2]
def zYR (m:List (bD×Int)):List Range:=[({Lo:=4449,Hi:=4469}:Range),({Lo:=4520,Hi:=4546}:Range)]++m.map λu=>{Lo:=u.1.x1,Hi:=u.1.x1}
theorem yEY:∀(p:List (bD×Int)) (o:List Range),o.length+p.length<=30000->
  zT2 (λ(u:bD×Int) (x:(List Range))=>uN u.1 u.2 x) (λ(x:(List Range))=>zBG x) p o=some (o++p.map λu=>({Lo:=u.1.x1,Hi:=u.1.x1}:Range))
 | [],o,_=>by simp[zT2,zBG]
 | e::p,o,h=>by
  simp only[eF] at h;have D:app o [({Lo:=e.1.x1,Hi:=e.1.x1}:Range)]=some (o++ [{Lo:=e.1.x1,Hi:=e.1.x1}]):=j7 (by simp;omega)
  have hb:uN e.1 e.2 o=some (.next (o++ [{Lo:=e.1.x1,Hi:=e.1.x1}])):=by unfold uN;rw[D,zA]
  rw[zT2,hb,zA];simp only;rw[yEY p _ (by simp;omega)]
  simp
noncomputable def zYS (n:Norm):List Range:=mkE (zYR (zKV n))
theorem yIK (G:NSm n) (h:uV n) (H:VD0 n):zDI n=some {Ranges:=zYS n}:=by
 unfold zDI;obtain⟨K,O,T⟩:=zWT G h H;rw[yEW G h H,zA,K,zA];refine yGD λp D=>?_;have Z:=D.length_eq;rw[yEY p _ (by simp;omega),zA,z8P (by simp;omega),zA]
 unfold zYS zYR;rw[yVF (Y:=[({Lo:=4449,Hi:=4469}:Range),({Lo:=4520,Hi:=4546}:Range)]++(zKV n).map λu=>{Lo:=u.1.x1,Hi:=u.1.x1}) ((List.perm_append_left_iff _).2 (D.map _))]
theorem zYT {D O:Type} [DecidableEq D]:∀(m:List (D×O)) (k: D),zB0 m k=true->∃v,(k,v)∈m
 | [],k,h=>by simp[zB0,mget] at h
 | (T,K)::r,k,h=>by
  unfold zB0 mget at h;split at h;rename_i G;subst G;exact⟨K,by simp⟩;obtain⟨v,H⟩:=zYT r k h;exact⟨v,by simp[H]⟩
theorem yRH (hs:NSm n) (O:uV n) (hv:VD0 n) (Z:vld x=true) (h:zDL (zYS n) x=false) (a:Int):(jnE (zKV n) a x).2=false:=by
 have D:∀r∈zYR (zKV n),¬inR x r:=λr T hi=>by
  have:=yRG Z T hi;unfold zYS at h;rw[this] at h;cases h
 unfold jnE;split;rename_i H;exfalso;rcases yNG H with hk | hk
 refine D {Lo:=4449,Hi:=4469} (by simp[zYR]) ?_;unfold hkE at hk;unfold inR;simp only;split at hk;omega;split at hk;omega;split at hk;omega;split at hk;omega;split at hk<;>omega;refine D {Lo:=4520,Hi:=4546} (by simp[zYR]) ?_;unfold hkE at hk;unfold inR;simp only;split at hk;omega;split at hk;omega;split at hk;omega;split at hk;omega;split at hk<;>omega;simp only;cases K:zB0 (zKV n) ({x0:=a,x1:=x}:bD) with
 | false=>rfl
 | true=>
  exfalso;obtain⟨v,G⟩:=zYT _ _ K;refine D {Lo:=x,Hi:=x} ?_ ⟨iq _,iq _⟩;unfold zYR;rw[fk,fL];exact .inr ⟨_,G,rfl⟩
theorem yRI (K:NSm n) (h:uV n) (O:VD0 n):(zYS n).length<=100:=by
 have H:∀(l o:List Range),(l.foldl mrg o).length<=o.length+l.length:=by
  intro l
  induction l with
  | nil=>intro o;simp
  | cons x l T=>
   intro o;rw[gG];have:=T (mrg o x);have:=yDT o x;simp only[eF];omega
 unfold zYS mkE;have G:=zBJ rlt (zBP (zYR (zKV n))) [];rw[eN] at G;have D:=H (zA0 rlt (zBP (zYR (zKV n))) []) [];have Z:=zUN (zYR (zKV n));have h3:(zYR (zKV n)).length<=42:=by unfold zYR;have:=(zWT K h O).2.2;simp;omega
 rw[List.length_reverse];rw[G.length_eq] at D;simp only[fE] at D;omega
theorem zYU (h:VD0 n):usN n=n:=by unfold usN;rw[eG h]
noncomputable def cpE (n:Norm) (t:LI):LI:=cmT (clE n.aI) (zKV n) t
noncomputable def foE (n:Norm) (f:Int) (t:LI):LI:=
 if f=1 then cpE n (u5 n false t) else if f=2 then u5 n false t else if f=3 then cpE n (u5 n true t) else u5 n true t
section
variable (hs:NSm n) (hok:uV n) (hv:VD0 n)
include hs hok hv
theorem zYV (h1:1<=f) (h4:f<=4) (ht:t.length<=400):jM n f t=some (foE n f t):=by
 have G:=λb=>zQB hs hok b t;have K:k8 {norm:=n} t=some (u5 n false t):=by
  unfold k8;show (jL n t false).bind _=_;rw[zTG hs hok hv (by omega) (by have:=G false;omega)]
  rfl
 have O:jV {norm:=n} t=some (u5 n true t):=by
  unfold jV;show (jL n t true).bind _=_;rw[zTG hs hok hv (by omega) (by have:=G true;omega)]
  rfl
 have T:∀u:LI,u.length<=30000->jP {norm:=n} u=some (cpE n u):=λu hu=>by
  unfold jP;show (zFI n u).bind _=_;rw[yNH hs hok hv hu];rfl
 have d:=λb=>zYI n b t;have Z:zD4 n t=some (cpE n (u5 n false t)):=by
  unfold zD4;simp only[zA];show ((k8 {norm:=n} t).bind λh=>((jP {norm:=n} h).bind λD=>some D).bind λH=>some H)=_;rw[K,zA,T _ (by have:=G false;have:=d false;omega),zA,zA]
 have e2:zD5 n t=some (u5 n false t):=by
  unfold zD5;simp only[zA];show ((k8 {norm:=n} t).bind λh=>some h)=_;rw[K,zA]
 have e3:zDF n t=some (cpE n (u5 n true t)):=by
  unfold zDF;simp only[zA];show ((jV {norm:=n} t).bind λh=>((jP {norm:=n} h).bind λD=>some D).bind λH=>some H)=_;rw[O,zA,T _ (by have:=G true;have:=d true;omega),zA,zA]
 have e4:zDG n t=some (u5 n true t):=by
  unfold zDG;simp only[zA];show ((jV {norm:=n} t).bind λh=>some h)=_;rw[O,zA]
 unfold jM foE;rw[Z,e2,e3,e4];obtain rfl | rfl | rfl | rfl:f=1\/f=2\/f=3\/f=4:=by omega
 all_goals rfl
end
def shC (p:LI) (st:Int×Int×LI):Int×Int×LI:=(st.1+p.length,st.2.1,p++st.2.2)
theorem yVH (p:LI) {st:Int×Int×LI} (Z:0<=st.1) (h:st.1<(st.2.2.length:Int)):cmS cl m (shC p st) x=shC p (cmS cl m st x)/\0<=(cmS cl m st x).1:=by
 obtain⟨v,b,o⟩:=st;simp only at Z h;obtain⟨k,rfl⟩:∃k:Nat,v=k:=⟨v.toNat,by omega⟩;have hk:k<o.length:=by omega
 have K:((k:Int)+(p.length:Int)).toNat=p.length+k:=by omega
 have O:(p++o).getD (p.length+k) 0=o.getD k 0:=by simp[eT,eU]
 have T:∀y,(p++o).set (p.length+k) y=p++o.set k y:=λy=>by rw[List.set_append_right _ _ (by omega)];congr 2;omega
 unfold cmS shC;simp only[K,O,T,hP,d8];have c:(0<=(k:Int)+(p.length:Int)/\¬((k:Int)+(p.length:Int)<((p.length+o.length:Nat):Int)-1/\cl x<=b)/\(jnE m (o.getD k 0) x).2=true)↔(0<=(k:Int)/\¬((k:Int)<(o.length:Int)-1/\cl x<=b)/\(jnE m (o.getD k 0) x).2=true):=by
  constructor
  rintro⟨_,G,H⟩;exact⟨by omega,λq=>G ⟨by omega,q.2⟩,H⟩
  rintro⟨_,G,H⟩;exact⟨by omega,λq=>G ⟨by omega,q.2⟩,H⟩
 by_cases D:0<=(k:Int)/\¬((k:Int)<(o.length:Int)-1/\cl x<=b)/\(jnE m (o.getD k 0) x).2=true;rw[eG D,eG (c.2 D)];exact⟨rfl,by simp⟩;rw[dU D,dU (λq=>D (c.1 q))];refine⟨?_,?_⟩;simp only[Prod.mk.injEq,dW,true_and,and_true];split;omega;rfl;simp only;split<;>omega
theorem yEZ {cl:Int->Int} {m:List (bD×Int)} (p:LI):∀(l:LI) (st:Int×Int×LI),0<=st.1->st.1<(st.2.2.length:Int)->l.foldl (cmS cl m) (shC p st)=shC p (l.foldl (cmS cl m) st)
 | [],_,_,_=>rfl
 | x::l,st,D,h=>by
  obtain⟨e,G⟩:=yVH (cl:=cl) (m:=m) p (x:=x) D h;rw[gG,gG,e];exact yEZ p l _ G (z43 h).1
theorem yVI {y:Int} (D:cl y=0) (H:∀a,(jnE m a y).2=false) (a b:LI):cmT cl m (a++y::b)=cmT cl m a++cmT cl m (y::b):=by
 have e:∀st,cmS cl m st y=(((st.2.2.length:Nat):Int),0,st.2.2++ [y]):=λst=>by
  unfold cmS;rw[dU (λq=>by have:=q.2.2;rw[H] at this;cases this),eG D,D]
 unfold cmT;rw[List.foldl_append,gG,gG,e,e];generalize a.foldl (cmS cl m) (-1,0,[])=st;have h:=yEZ (cl:=cl) (m:=m) st.2.2 b ((0:Int),0,[y]) (by simp) (by simp);have G:shC st.2.2 ((0:Int),0,[y])=(((st.2.2.length:Nat):Int),0,st.2.2++ [y]):=by unfold shC;simp
 rw[<-G,h];rfl
theorem yE0:∀(l run:LI),run≠[]->(∀x∈run,key x≠0)->∀h t,rsE key l run=h::t->key h≠0
 | [],run,H,K,h,t,e=>by
  have D:srt key run=h::t:=e;have O:(srt key run).Perm run:=by have:=zBJ (ltK key) run [];rw[eN] at this;exact this
  exact K h (O.mem_iff.1 (by rw[D];simp))
 | y::l,run,H,K,h,t,e=>by
  have D:(if key y=0 then srt key run++y::rsE key l [] else rsE key l (run++ [y]))=h::t:=e;split at D;have O:(srt key run).Perm run:=by have:=zBJ (ltK key) run [];rw[eN] at this;exact this
  cases T:srt key run with
  | nil=>have:=O.length_eq;rw[T] at this;cases run with | nil=>exact absurd rfl H | cons=>simp at this
  | cons a r=>
   rw[T] at D;injection D with Z e2;subst Z;exact K _ (O.mem_iff.1 (by rw[T];simp))
  rename_i hy;exact yE0 l (run++ [y]) (by simp) (λx G=>by rcases fk.1 G with G | G;exact K x G;simp at G;subst G;exact hy) h t D
theorem yRJ (G:∀x,0<=key x) {l:LI} {h:Int} (e:csE key l=h::t) (O:key h=0):∃r,l=h::r:=by
 rw[zRV G] at e;cases l with
 | nil=>have D:srt key []=h::t:=e;cases (show ([]:LI)=h::t from D)
 | cons x l=>
  have D:(if key x=0 then srt key []++x::rsE key l [] else rsE key l ([]++ [x]))=h::t:=e;split at D;injection (show x::rsE key l []=h::t from D) with K _;subst K;exact⟨l,rfl⟩;rename_i T;exact absurd O (yE0 l [x] (by simp) (λy H=>by simp at H;subst H;exact T) h t D)
theorem yE1 (h:∀x,0<=key x) (D:key x=0) (l:LI):csE key (x::l)=x::csE key l:=by rw[zRV h,zRV h];show (if key x=0 then srt key []++x::rsE key l [] else _)=_;rw[eG D];rfl
noncomputable def zNJ (n:Norm) (f:Int):List Range:=if f=1\/f=3 then zYS n else []
def cpB (f:Int):Bool:=decide (f=3) ||decide (f=4)
noncomputable def zV5 (n:Norm) (f c:Int):Bool:=match u5 n (cpB f) [c] with
 | []=>true
 | h::_=>!decide (clE n.aI h=0) ||zDL (zNJ n f) h
section
variable (hs:NSm n) (hok:uV n) (hv:VD0 n)
include hs hok hv
theorem yNL (h:zDL (zYS n) x=false) (a:Int):(jnE (zKV n) a x).2=false:=by
 cases D:vld x with
 | true=>exact yRH hs hok hv D h a
 | false=>
  cases G:(jnE (zKV n) a x).2 with
  | false=>rfl
  | true=>
   exfalso;unfold jnE at G;split at G
   ·
    rename_i K;have:0<=x/\x<=1114111:=by
     rcases yNG K with hk | hk
     all_goals
      unfold hkE at hk
      repeat' split at hk
      all_goals first | omega | cases hk
    unfold vld at D;simp at D;omega
   ·
    obtain⟨v,H⟩:=zYT _ _ G;have:=(zWT hs hok hv).2.1 _ H;simp only at this;rw[D] at this;cases this
theorem z9B {b:Bool} {B:LI} (hb:zDK n b B=x::t) (h:clE n.aI x=0) (A:LI):u5 n b (A++B)=u5 n b A++u5 n b B:=by
 have e:zDK n b (A++B)=zDK n b A++zDK n b B:=by unfold zDK;rw[List.flatMap_append]
 unfold u5;rw[e,hb,yVA (yEA (z4O hs hok).cv) (by rw[zYU hv];exact h)]
theorem yVJ (f1:1<=f) (f4:f<=4) (hi:zV5 n f c=false) (a b:LI):foE n f (a++c::b)=foE n f a++foE n f (c::b):=by
 have H:=yEA hv.cv;unfold zV5 at hi;cases G:u5 n (cpB f) [c] with
 | nil=>rw[G] at hi;cases hi
 | cons h t=>
  rw[G] at hi;simp only[fR,Bool.not_eq_false',d7] at hi;obtain⟨Z,h2⟩:=hi;have hf:∃r,zDK n (cpB f) [c]=h::r:=by
   unfold u5 at G;rw[zYU hv] at G;exact yRJ H G Z
  obtain⟨r,hr⟩:=hf;have D:zDK n (cpB f) (c::b)=h::(r++zDK n (cpB f) b):=by
   have:zDK n (cpB f) (c::b)=zDK n (cpB f) [c]++zDK n (cpB f) b:=by unfold zDK;rw[<-List.flatMap_append];rfl
   rw[this,hr];rfl
  have hD:u5 n (cpB f) (a++c::b)=u5 n (cpB f) a++u5 n (cpB f) (c::b):=z9B hs hok hv D Z a;have hH:u5 n (cpB f) (c::b)=h::csE (clE n.aI) (r++zDK n (cpB f) b):=by
   unfold u5;rw[D,zYU hv,yE1 H Z]
  have hC:(f=1\/f=3)->cpE n (u5 n (cpB f) (a++c::b))=cpE n (u5 n (cpB f) a)++cpE n (u5 n (cpB f) (c::b)):=λhf=>by
   unfold zNJ at h2;rw[eG hf] at h2;rw[hD,hH];unfold cpE;exact yVI Z (yNL hs hok hv h2) _ _
  unfold foE;by_cases T:f=1;subst T;exact hC (.inl rfl);rw[dU T,dU T,dU T];by_cases K:f=2;subst K;exact hD;rw[dU K,dU K,dU K];by_cases O:f=3;subst O;exact hC (.inr rfl);rw[dU O,dU O,dU O];obtain rfl:f=4:=by omega
  exact hD
end
theorem yVK (n:Norm) (f:Int):foE n f []= []:=by unfold foE;have:∀b,u5 n b []= []:=λb=>rfl;rw[this,this];have:cpE n []= []:=rfl;rw[this];simp
def zYW (m:List (Int×Bool)) (c:Int):Bool:=!wR m c false
theorem zUZ {G H:Type} [DecidableEq G] (z: H):∀(m:List (G×H)) (c: G) (v: H) (x: G),wR (vS m c v) x z=if x=c then v else wR m x z
 | [],c,v,x=>by
  by_cases h:x=c;subst h;simp[wR,vS,mget];simp[wR,vS,mget,h]
 | (k,w)::r,c,v,x=>by
  have K:=zUZ z r c v x;unfold wR at K ⊢;by_cases D:c=k;subst D;by_cases h:x=c;subst h;simp[vS,mget];simp[vS,mget,h];by_cases h:x=k;subst h;have:¬x=c:=λq=>D q.symm;simp[vS,mget,D,this];simp only[vS,D,eE,mget,h];exact K
theorem yIL (ht:text.length<=400):∀(d i k:Nat) (m:List (Int×Bool)),text.length-i=d->i<=text.length->(vG text).drop k=(vG (text.drop i)).filter (zYW m)->k<=(vG text).length->
  ∃y,zE (λ(x:Int×Nat×(List (Int×Bool)))=>z7 text (vG text) false x.1 x.2.1 x.2.2) ((i:Int),k,m)=some y/\y=Sum.inl (vG text).length:=by
 intro d
 induction d with
 | zero=>
  intro i k m h1 h2 h O;have:text.drop i= []:=eJ (by omega);rw[this] at h;have K:(vG text).drop k= []:=h;rw[List.drop_eq_nil_iff] at K;have:k=(vG text).length:=by omega
  subst this;refine⟨_,?_,rfl⟩;rw[yQ];simp only[z7,kU (show text.length<=i by omega),dN]
 | succ d T=>
  intro i k m h1 h2 h O;have hi:i<text.length:=by omega
  rw[eA hi] at h;by_cases Z:0<=text[i]/\text[i]<=1114111
  ·have e:vG (text[i]::text.drop (i+1))=text[i]::(vG (text.drop (i+1))).filter (λx=>!decide (x=text[i])):=by unfold vG;rw[eG Z];cases text.drop (i+1)<;>rfl
   rw[e] at h;cases D:wR m text[i] false with
   | true=>
    have hb:z7 text (vG text) false (i:Int) k m=some (.next (((i+1:Nat):Int),k,m)):=by
     simp only[z7,yY hi,dO,z8 hi,zA,zN,D,Bool.or_true,fw,zL (k:=i) (by omega)]
    rw[zI (body:=λ(x:Int×Nat×(List (Int×Bool)))=>z7 text (vG text) false x.1 x.2.1 x.2.2) (x:=((i:Int),k,m)) hb];refine T (i+1) k m (by omega) (by omega) ?_ O;rw[h,gW (by unfold zYW;rw[D];simp),List.filter_filter]
    refine List.filter_congr λx _=>?_;by_cases G:x=text[i]
    ·subst G;unfold zYW;rw[D];rfl
    ·simp[G]
   | false=>
    rw[gP (by unfold zYW;rw[D];rfl)] at h
    obtain⟨hg,hd,hl⟩:=zTF h;have hb:z7 text (vG text) false (i:Int) k m=some (.next (((i+1:Nat):Int),k+1,vS m text[i] true)):=by
     have H:decide (text[i]<0)=false:=by simp;omega
     have b2:decide (1114111<text[i])=false:=by simp;omega
     have b3:goB false (vG text).length k=true:=rfl;simp only[z7,yY hi,dO,z8 hi,zA,zN,D,H,b2,Bool.or_false,dN,yMC hg,b3,dY,fw,zL (k:=i) (by omega)]
    rw[zI (body:=λ(x:Int×Nat×(List (Int×Bool)))=>z7 text (vG text) false x.1 x.2.1 x.2.2) (x:=((i:Int),k,m)) hb];refine T (i+1) (k+1) _ (by omega) (by omega) ?_ hl;rw[hd,List.filter_filter];refine List.filter_congr λx _=>?_;unfold zYW;rw[zUZ];by_cases G:x=text[i]
    ·simp[G]
    ·simp[G]
  ·have e:vG (text[i]::text.drop (i+1))=vG (text.drop (i+1)):=by
    conv=>lhs;unfold vG
    rw[dU Z]
   rw[e] at h;have hb:z7 text (vG text) false (i:Int) k m=some (.next (((i+1:Nat):Int),k,m)):=by
    have H:(decide (text[i]<0) ||decide (1114111<text[i]))=true:=by simp;omega
    simp only[z7,yY hi,dO,z8 hi,zA,zN,H,fS,fw,zL (k:=i) (by omega)]
   rw[zI (body:=λ(x:Int×Nat×(List (Int×Bool)))=>z7 text (vG text) false x.1 x.2.1 x.2.2) (x:=((i:Int),k,m)) hb];exact T (i+1) k m (by omega) (by omega) h O
theorem yRK (G:text.length<=400):vX (vG text) false text=some ():=by
 obtain⟨y,h,rfl⟩:=yIL G text.length 0 0 [] (by omega) (by omega) (by rw[e9,e9];exact(List.filter_eq_self.2 (λx _=>rfl)).symm) (by omega)
 unfold vX;have D:zE (λ(x:Int×Nat×(List (Int×Bool)))=>z7 text (vG text) false x.1 x.2.1 x.2.2) (0,0,[])=_:=h;rw[D,zA];unfold zZL;simp
theorem z9C:∀t:LI,(vG t).length<=t.length
 | []=>by simp[vG]
 | c::r=>by
  have:=z9C r;unfold vG;split;have:=i7 (λx=>!decide (x=c)) (vG r);simp only[eF];omega;simp only[eF];omega
theorem zYX:∀{t:LI} {c:Int},c∈vG t↔c∈t/\vld c=true
 | [],c=>by simp[vG]
 | x::r,c=>by
  have K:=zYX (t:=r) (c:=c);have H:vld c=true↔0<=c/\c<=1114111:=by unfold vld;simp
  unfold vG;split;rename_i G;simp only[eP,fX,K,fG,dS];constructor
  rintro (rfl | ⟨h,_⟩)
  exact⟨.inl rfl,H.2 G⟩;exact⟨.inr h.1,h.2⟩
  rintro⟨rfl | h,D⟩
  exact .inl rfl;by_cases e:c=x;exact .inl e;exact .inr ⟨⟨h,D⟩,e⟩;rename_i G;rw[K,eP];constructor
  rintro⟨h,D⟩;exact⟨.inr h,D⟩
  rintro⟨rfl | h,D⟩
  exact absurd (H.1 D) G;exact⟨h,D⟩
def zMU (l:LI):LI:=l.flatMap λc=>[c,-1]
theorem yE2:∀l:LI,(zMU l).length=2*l.length
 | []=>rfl
 | c::l=>by have:=yE2 l;unfold zMU at this ⊢;simp only[fC,d8,eF,fE,this];omega
theorem yNM (T:codes.length<=400):∀(d i:Nat) (h:LI),codes.length-i=d->i<=codes.length->h.length<=2*i->
  zE (λ(x:Int×LI)=>wQ codes x.1 x.2) ((i:Int),h)=some (h++zMU (codes.drop i)):=by
 intro d
 induction d with
 | zero=>
  intro i h G H K;rw[yQ,eJ (by omega)];simp only[wQ,kU (show codes.length<=i by omega),dN];simp[zMU]
 | succ d O=>
  intro i h G H K;have hi:i<codes.length:=by omega
  have D:app h [codes[i],-1]=some (h++ [codes[i],-1]):=j7 (by simp;omega)
  rw[zI (x':=(((i+1:Nat):Int),h++ [codes[i],-1])) (by simp only[wQ,yY hi,dO,z8 hi,zA,D,zL (k:=i) (by omega)]),O (i+1) _ (by omega) (by omega) (by simp;omega),eA hi]
  show some ((h++ [codes[i],-1])++zMU (codes.drop (i+1)))=some (h++([codes[i],-1]++zMU (codes.drop (i+1))));rw[dW]
def zYY:LI->List LI->LI->List LI
 | [],o,_=>o
 | c::r,o,p=>if c= -1 then zYY r (o++ [p]) [] else zYY r o (p++ [c])
theorem yIM (Z:t.length<=30000):∀(d i:Nat) (o:List LI) (p:LI),t.length-i=d->i<=t.length->o.length<=i->p.length<=i->
  zE (λ(x:Int×(List LI)×LI)=>xS t x.1 x.2.1 x.2.2) ((i:Int),o,p)=some (zYY (t.drop i) o p):=by
 intro d
 induction d with
 | zero=>
  intro i o p H K O T;rw[yQ,eJ (by omega)];simp only[xS,kU (show t.length<=i by omega),dN];rfl
 | succ d D=>
  intro i o p H K O T;have hi:i<t.length:=by omega
  have G:app p [t[i]]=some (p++ [t[i]]):=j7 (by simp;omega)
  have eb:app o [p]=some (o++ [p]):=j7 (by simp;omega)
  rw[eA hi];unfold zYY;by_cases h:t[i]= -1
  ·rw[eG h,zI (x':=(((i+1:Nat):Int),o++ [p],[])) (by simp only[xS,yY hi,dO,z8 hi,zA,h,eH,dY,dN,eb,zL (k:=i) (by omega)]),D (i+1) _ _ (by omega) (by omega) (by simp;omega) (by simp)]
  ·rw[dU h,zI (x':=(((i+1:Nat):Int),o,p++ [t[i]])) (by simp only[xS,yY hi,dO,z8 hi,zA,h,e6,eD,G,zL (k:=i) (by omega)]),D (i+1) _ _ (by omega) (by omega) (by omega) (by simp;omega)]
theorem yNN {s:LI} (h:∀c∈s,c≠ -1) (r:LI) (o:List LI):∀p,zYY (s++ -1::r) o p=zYY r (o++ [p++s]) []:=by
 induction s with
 | nil=>intro p;simp[zYY]
 | cons c s H=>
  intro p;have D:=h c (by simp);show (if c= -1 then _ else zYY (s++ -1::r) o (p++ [c]))=_;rw[dU D,H (λx G=>h x (by simp[G]))];simp
theorem z9D {f:Int->LI}:∀(l:LI),(∀c∈l,∀x∈f c,x≠ -1)->∀o,zYY (l.flatMap λc=>f c++ [-1]) o []=o++l.map f
 | [],_,o=>by simp[zYY]
 | c::l,h,o=>by
  have e:((c::l).flatMap λc=>f c++ [-1])=f c++ -1::(l.flatMap λc=>f c++ [-1]):=by simp
  rw[e,yNN (h c (by simp)),z9D l (λc D=>h c (by simp[D]))];simp
section
variable (hs:NSm n) (hok:uV n) (hv:VD0 n)
include hs hok hv
omit hs hok in
theorem yVL:clE n.aI (-1)=0:=by
 unfold clE;cases D:n.aI.find? (zUP (-1)) with
 | none=>rfl
 | some s=>
  exfalso;have h:=jc D;have H:=gU D;have G:=(zAP (p:=spOk)).1 hv.cv.sp s H;unfold zUP at h;unfold spOk at G;simp at h;omega
omit hs hok in
theorem yNO {b:Bool} {H:LI} (h:fnB n.aA b c=some H):vld c=true/\∀x∈H,vld x=true:=by obtain⟨m,G,K,_⟩:=zKS h;have O:=gU G;have D:=jc G;have:=hv.mv.co m O;unfold isF at D;simp only[d7] at D;subst D;subst K;exact this
omit hs hok hv in
theorem yNP (h:vld c=true):∀x∈hdE c,vld x=true:=λx D=>by
 by_cases H:syl c=true
 ·
  have:=zTD H D;have G:=this.2;unfold hkE at G;unfold vld;simp only[eC,d7]
  repeat' split at G
  all_goals first | omega | exact absurd rfl G
 ·
  unfold hdE at D;rw[dU H] at D;simp at D;subst D;exact h
omit hs hok in
theorem yE3 (b:Bool):∀(k:Nat) (c:Int),vld c=true->∀x∈exF n.aA b k c,vld x=true
 | 0,c,h,x,D=>yNP h x D
 | k+1,c,h,x,D=>by
  unfold exF at D;cases G:fnB n.aA b c with
  | none=>rw[G] at D;exact yNP h x D
  | some K=>
   rw[G] at D;simp only[List.mem_flatMap] at D;obtain⟨y,H,D⟩:=D;exact yE3 b k y ((yNO hv G).2 y H) x D
omit hs hok in
theorem yVM (b:Bool):fu n.aA b (-1)= [-1]:=by
 unfold fu;have D:fnB n.aA b (-1)=none:=by
  cases h:fnB n.aA b (-1) with
  | none=>rfl
  | some G=>have:=(yNO hv h).1;cases this
 cases n.aA.length with
 | zero=>rfl
 | succ k=>unfold exF;rw[D];rfl
theorem z44 (b:Bool):∀l:LI,u5 n b (zMU l)=l.flatMap λc=>u5 n b [c]++ [-1]
 | []=>rfl
 | c::l=>by
  have h:=yVL hv;have D:∀r,zDK n b (-1::r)= -1::zDK n b r:=λr=>by
   have:zDK n b (-1::r)=fu (usN n).aA b (-1)++zDK n b r:=by unfold zDK;rw[fC]
   rw[this,zYU hv,yVM hv];rfl
  have e:zMU (c::l)= [c]++(-1::zMU l):=by simp[zMU]
  rw[e,z9B hs hok hv (D _) h];have G:u5 n b (-1::zMU l)= -1::u5 n b (zMU l):=by
   unfold u5;rw[D,zYU hv,yE1 (yEA hv.cv) h]
  rw[G,z44 b l];simp
omit hs hok in
theorem z9E (b:Bool) (h:vld c=true):∀x∈u5 n b [c],x≠ -1:=λx G H=>by unfold u5 at G;have D:=(z80 _).mem_iff.1 G;unfold zDK at D;rw[zYU hv] at D;simp only[fC,List.flatMap_nil,fm] at D;have:=yE3 hv b _ c h x D;subst H;cases this
theorem yNQ {s:List Range} (T:codes.length<=100) (h:∀c∈codes,vld c=true):
  wU {norm:=n,form:=f,cX:=cpB f,cU:={Ranges:=s}} codes=some (codes.map λc=>u5 n (cpB f) [c]):=by
 unfold wU zFJ;have G:zE (λ(x:Int×LI)=>wQ codes x.1 x.2) (0,[])=some ([]++zMU (codes.drop 0)):=yNM (by omega) codes.length 0 [] (by omega) (by omega) (by simp);rw[eN,e9] at G;have Z:=yE2 codes;have O:=zQB hs hok (cpB f) (zMU codes);have H:xD (zMU codes) {norm:=n,form:=f,cX:=cpB f,cU:={Ranges:=s}}=some (u5 n (cpB f) (zMU codes)):=by
  unfold xD;show (jL n (zMU codes) (cpB f)).bind _=_;rw[zTG hs hok hv (by omega) (by omega)];rfl
 have K:zE (λ(x:Int×(List LI)×LI)=>xS (u5 n (cpB f) (zMU codes)) x.1 x.2.1 x.2.2) (0,[],[])=some (zYY ((u5 n (cpB f) (zMU codes)).drop 0) [] []):=
  yIM (by rw[zYI];omega) _ 0 [] [] (Nat.sub_zero _) (by omega) (by simp) (by simp)
 rw[e9,z44 hs hok hv,z9D codes (λc D=>z9E hv _ (h c D)),eN] at K;rw[z44 hs hok hv] at H;rw[G,zA,zRT (by omega),zA];show (((xD (zMU codes) {norm:=n,form:=f,cX:=cpB f,cU:={Ranges:=s}}).bind _).bind _)=_;rw[H,zA,K,zA,zA]
theorem yNR:xN n=some 0:=ySO hs hok hv
theorem yRL (G:1<=f) (H:f<=4):zBH n f=some ({norm:=n,form:=f,cX:=cpB f,cU:={Ranges:=zNJ n f}},true):=by
 unfold zBH;have h:xN ({aI:=n.aI,aA:=n.aA,aL:=({Ranges:=n.aL.Ranges}:Set)}:Norm)=some 0:=yNR hs hok hv;have D:zDI ({aI:=n.aI,aA:=n.aA,aL:=({Ranges:=n.aL.Ranges}:Set)}:Norm)=some {Ranges:=zYS n}:=yIK hs hok hv;rw[h,zA,D];obtain rfl | rfl | rfl | rfl:f=1\/f=2\/f=3\/f=4:=by omega
 have e:zNJ n 1=zYS n:=by unfold zNJ;rw[eG (.inl rfl)]
 rw[e];rfl;have e:zNJ n 2= []:=by unfold zNJ;rw[dU (by omega)]
 rw[e];rfl;have e:zNJ n 3=zYS n:=by unfold zNJ;rw[eG (.inr rfl)]
 rw[e];rfl;have e:zNJ n 4= []:=by unfold zNJ;rw[dU (by omega)]
 rw[e];rfl
theorem yRM (f:Int):(zNJ n f).length<=100:=by unfold zNJ;split;exact yRI hs hok hv;simp
theorem yNS (hc:codes.length<=400):∀(d i:Nat) (m:List (Int×Bool)),codes.length-i=d->i<=codes.length->(∀j (G:j<codes.length),j<i->wR m codes[j] false=zV5 n f codes[j])->
  ∃O,zE (λ(x:Int×(List (Int×Bool)))=>kR (codes.map λc=>u5 n (cpB f) [c]) codes ({norm:=n,form:=f,cX:=cpB f,cU:={Ranges:=zNJ n f}},true) x.1 x.2) ((i:Int),m)=some O/\∀c∈codes,wR O c false=zV5 n f c:=by
 intro d
 induction d with
 | zero=>
  intro i m Z h2 H;refine⟨m,?_,λc K=>?_⟩
  ·rw[yQ]
   simp only[kR,fO,kU (show codes.length<=i by omega),dN]
  ·obtain⟨j,G,rfl⟩:=gK K
   exact H j G (by omega)
 | succ d ih=>
  intro i m Z h2 H;have hi:i<codes.length:=by omega
  have hb:kR (codes.map λc=>u5 n (cpB f) [c]) codes ({norm:=n,form:=f,cX:=cpB f,cU:={Ranges:=zNJ n f}},true) (i:Int) m=some (.next (((i+1:Nat):Int),vS m codes[i] (zV5 n f codes[i]))):=by
   have D:i<(codes.map λc=>u5 n (cpB f) [c]).length:=by simp;exact hi
   simp only[kR,yY D,dO,z8 D,z8 hi,zA,zN,List.getElem_map,zL (k:=i) (by omega)];unfold zV5;cases hd:u5 n (cpB f) [codes[i]] with
   | nil=>simp only[fE];rfl
   | cons h t=>
    have T:decide ((((h::t).length:Nat):Int)=0)=false:=by simp;omega
    simp only[T,eD,vN,z8F,zA,fo,zYQ (by have:=hs.cl;omega) hok.1.2 hv.cv]
    cases hz:decide (clE n.aI h=0) with
    | false=>rfl
    | true=>
     simp only[dY,eD,vN,zA,yRC (s:={Ranges:=zNJ n f}) (by have:=yRM hs hok hv f;simp only;omega),fo]
  rw[zI (body:=λ(x:Int×(List (Int×Bool)))=>kR (codes.map λc=>u5 n (cpB f) [c]) codes ({norm:=n,form:=f,cX:=cpB f,cU:={Ranges:=zNJ n f}},true) x.1 x.2) (x:=((i:Int),m)) hb];refine ih (i+1) _ (by omega) (by omega) (λj G ab=>?_);rw[zUZ];by_cases e:codes[j]=codes[i]
  ·rw[eG e,e]
  ·rw[dU e]
   have:j≠i:=λq=>by subst q;exact e rfl
   exact H j G (by omega)
def BdL (n:Norm) (f:Int) (text:LI) (l:LI):Prop:= ∀x∈l,∃k:Nat,∃h:k<text.length,x=(k:Int)/\zV5 n f text[k]=false
omit hs hok hv in
theorem yRN (ht:text.length<=400) {m:List (Int×Bool)} (hm:∀c∈text,wR m c false=zV5 n f c):∀(d i:Nat) (h:LI),text.length-i=d->i<=text.length->h.length<=i->BdL n f text h->
  ∃l,zE (λ(x:Int×LI)=>jG text m x.1 x.2) ((i:Int),h)=some l/\l.length<=text.length/\BdL n f text l:=by
 intro d
 induction d with
 | zero=>
  intro i h O T Z D;refine⟨h,?_,by omega,D⟩;rw[yQ];simp only[jG,kU (show text.length<=i by omega),dN]
 | succ d H=>
  intro i h O T Z D;have hi:i<text.length:=by omega
  have G:=hm _ (fI hi);have K:app h [(i:Int)]=some (h++ [(i:Int)]):=j7 (by simp;omega)
  cases hb:zV5 n f text[i] with
  | true=>
   rw[hb] at G;rw[zI (x':=(((i+1:Nat):Int),h)) (by simp only[jG,yY hi,dO,z8 hi,zA,G,dY,dN,zL (k:=i) (by omega)])];exact H (i+1) h (by omega) (by omega) (by omega) D
  | false=>
   rw[hb] at G;rw[zI (x':=(((i+1:Nat):Int),h++ [(i:Int)])) (by simp only[jG,yY hi,dO,z8 hi,zA,G,eD,K,zL (k:=i) (by omega)])];refine H (i+1) _ (by omega) (by omega) (by simp;omega) (λx hx=>?_)
   rcases fk.1 hx with hx | hx
   ·exact D x hx
   ·simp only[fY] at hx
    exact⟨i,hi,hx,hb⟩
theorem yIN (O:1<=f) (T:f<=4) (ht:text.length<=100) (D:∀c∈text,vld c=true):∃l,xV n f text=some l/\l.length<=text.length/\BdL n f text l:=by
 have ag:=z9C text;obtain⟨m,Z,h2⟩:=yNS hs hok hv (f:=f) (codes:=vG text) (by omega) (vG text).length 0 [] (by omega) (by omega) (λj _ hj=>by omega);have hm:∀c∈text,wR m c false=zV5 n f c:=λc G=>h2 c (zYX.2 ⟨G,D c G⟩);obtain⟨l,h3,h4,h5⟩:=yRN (n:=n) (f:=f) (text:=text) (by omega) hm text.length 0 [] (by omega) (by omega) (by simp) (λx hx=>by cases hx);refine⟨l,?_,h4,h5⟩;have h:z7H (vG text)=some (vG text):=by unfold z7H;rw[eG (by unfold LIM;omega)]
 have H:zE (λ(x:Int×(List (Int×Bool)))=>kR ((vG text).map λc=>u5 n (cpB f) [c]) (vG text) ({norm:=n,form:=f,cX:=cpB f,cU:={Ranges:=zNJ n f}},true) x.1 x.2) (0,[])=some m:=Z;have K:zE (λ(x:Int×LI)=>jG text m x.1 x.2) (0,[])=some l:=h3;unfold xV;rw[yRL hs hok hv O T,zA];simp only[dO,yRK (show text.length<=400 by omega),zA,h,yNQ hs hok hv (s:=zNJ n f) (codes:=vG text) (by omega) (λc G=>(zYX.1 G).2),H,K]
end
def nsS (n:Norm) (f:Int) (p:LI):aM:={aD:={pending:=p},norm:=n,form:=f,aO:=true}
theorem z17 {h:Type} {l:List h} (hi:i<l.length):zCV l (i:Int) l[i]=some l:=by rw[zHJ hi];simp
theorem zFE {D:Type} (l:List D) (h:l.length<=4294967296):app [] l=some l:=by rw[j7 (by simpa using h)];rfl
theorem z9F (O:l.length<=30000) (H:∀m∈l,m.To.length<=30000):∀(d i:Nat),l.length-i=d->i<=l.length->
  zE (λ(x:Int×(List aG))=>wG l x.1 x.2) ((i:Int),l)=some l:=by
 intro d
 induction d with
 | zero=>
  intro i h D;rw[yQ];simp only[wG,kU (show l.length<=i by omega),dN]
 | succ d K=>
  intro i h D;have hi:i<l.length:=by omega
  have G:yR l[i].To=some l[i].To:=zFE _ (by have:=H _ (fI hi);omega)
  rw[zI (x':=(((i+1:Nat):Int),l)) (by
   simp only[wG,yY hi,dO,z8 hi,zA,G,zL (k:=i) (by omega)];show ((zCV l (i:Int) l[i]).bind _)=_;rw[z17 hi];rfl)]
  exact K (i+1) (by omega) (by omega)
section
variable (hs:NSm n) (hok:uV n) (hv:VD0 n)
include hs hok hv
theorem yRO (T:1<=f) (Z:f<=4):zE5 n f=some (nsS n f [],0):=by
 have h:zB8 n=some n:=by
  unfold zB8;have D:wO n.aI=some n.aI:=zFE _ (by have:=hs.cl;omega)
  have G:xA n.aA=some n.aA:=zFE _ (by have:=hs.de;omega)
  have H:yS n.aL.Ranges=some n.aL.Ranges:=zFE _ (by have:=hs.ex;omega)
  have K:zE (λ(x:Int×(List aG))=>wG n.aA x.1 x.2) (0,n.aA)=some n.aA:=z9F (by have:=hs.de;omega) (λm O=>by have:=hs.to m O;omega) n.aA.length 0 (by omega) (by omega)
  rw[D,zA,G,zA,H,zA,K,zA]
 unfold zE5;rw[yNR hs hok hv,h];obtain rfl | rfl | rfl | rfl:f=1\/f=2\/f=3\/f=4:=by omega
 all_goals rfl
theorem yIO (T:1<=f) (Z:f<=4) (hl:(p++t).length<=100) (G:∀c∈t,vld c=true):
  ∃k,k<=(p++t).length/\xE (nsS n f p) t=some (foE n f ((p++t).take k),0,nsS n f ((p++t).drop k))/\(k=0\/∃c r,(p++t).drop k=c::r/\zV5 n f c=false):=by
 have an:p.length+t.length<=100:=by simpa using hl
 obtain⟨l,h1,h2,h3⟩:=yIN hs hok hv T Z (text:=t) (by omega) G;have ha:app p t=some (p++t):=j7 (by omega);have h:vW (nsS n f p) t=some (nsS n f (p++t)):=by
  unfold vW;show (app p t).bind _=_;rw[ha,zA];rfl
 cases H:l with
 | nil=>
  refine⟨0,by omega,?_,.inl rfl⟩;subst H;unfold xE;have e:(false || !(nsS n f p).aO)=false:=rfl;simp only[zN,e,dN,h,zA];show ((xV n f t).bind _)=_;rw[h1,zA];have K:decide ((0:Int)<(([]:LI).length:Int))=false:=rfl;have O:decide ((65536:Int)<((nsS n f (p++t)).aD.pending.length:Int))=false:=by
   show decide ((65536:Int)<(((p++t).length:Nat):Int))=false;simp;omega
  simp only[K,dN,zA,O];show ((jM n f []).bind _)=_;rw[zYV hs hok hv T Z (by simp),zA];rfl
 | cons x0 l0=>
  obtain⟨j,hj,hx,hi⟩:=h3 (l[l.length-1]'(by rw[H];simp)) (fI _)
  have hd:(p++t).drop (p.length+j)=t.drop j:=by rw[List.drop_append,eJ (by omega),eN];congr 1;omega
  refine⟨p.length+j,by simp;omega,?_,.inr ⟨t[j],t.drop (j+1),by rw[hd,eA hj],hi⟩⟩
  have am:0<l.length:=by rw[H];simp
  rw[<-H] at*;unfold xE;have e:(false || !(nsS n f p).aO)=false:=rfl;simp only[zN,e,dN,h,zA];show ((xV n f t).bind _)=_;rw[h1,zA];have K:decide ((0:Int)<(l.length:Int))=true:=by simp;omega
  have e3:wi ((l.length:Int)-1)=((l.length-1:Nat):Int):=by rw[j9 (by omega) (by omega)];omega
  have e4:yO l ((l.length-1:Nat):Int)=some (j:Int):=by rw[z8 (by omega),hx]
  have e5:wi (((nsS n f p).aD.pending.length:Int)+(j:Int))=((p.length+j:Nat):Int):=by
   show wi ((p.length:Int)+(j:Int))=_;rw[j9 (by omega) (by omega)];omega
  have D:vY (nsS n f (p++t)) ((p.length+j:Nat):Int)=some ((p++t).take (p.length+j),nsS n f ((p++t).drop (p.length+j))):=by
   unfold vY;show ((slc (p++t) 0 ((p.length+j:Nat):Int)).bind _)=_;rw[zYA (by simp;omega),zA,show yR ((p++t).take (p.length+j))=some ((p++t).take (p.length+j)) from zFE _ (by simp;omega),zA]
   show ((slc (p++t) ((p.length+j:Nat):Int) ((p++t).length:Int)).bind _)=_;rw[zHK (by simp;omega),zA,show yR ((p++t).drop (p.length+j))=some ((p++t).drop (p.length+j)) from zFE _ (by simp;omega),zA]
   rfl
  simp only[K,dO,e3,e4,zA,e5,D];have O:decide ((65536:Int)<((nsS n f ((p++t).drop (p.length+j))).aD.pending.length:Int))=false:=by
   show decide ((65536:Int)<(((p++t).drop (p.length+j)).length:Int))=false;simp;omega
  simp only[O,dN];show ((jM n f ((p++t).take (p.length+j))).bind _)=_;rw[zYV hs hok hv T Z (by simp;omega),zA]
theorem yIP (D:1<=f) (G:f<=4) (H:p.length<=100):∃S,wE (nsS n f p)=some (foE n f p,0,S):=by unfold wE;have e:(false || !(nsS n f p).aO)=false:=rfl;simp only[zN,e,dN];have h:jM (nsS n f p).norm (nsS n f p).form (nsS n f p).aD.pending=some (foE n f p):=zYV hs hok hv D G (t:=p) (by omega);rw[h,zA];exact⟨_,rfl⟩
def NInv (n:Norm) (f:Int) (all out p:LI):Prop:= ∀t,foE n f (all++t)=out++foE n f (p++t)
omit hs hok hv in
theorem yXV (f:Int):NInv n f [] [] []:=λt=>rfl
theorem yCH (D:1<=f) (G:f<=4) {all:LI} (h:NInv n f all out p) (K:k=0\/∃c r,(p++t).drop k=c::r/\zV5 n f c=false):NInv n f (all++t) (out++foE n f ((p++t).take k)) ((p++t).drop k):=by
 intro u;rw[dW,h,<-dW p,dW out];congr 1;rcases K with rfl | ⟨c,r,H,hi⟩
 · rw[iT,yVK,eN,e9]
 ·
  conv=>lhs;rw[<-fh k (p++t)]
  rw[H,dW,fV,yVJ hs hok hv D G hi]
end
abbrev nT:Norm:={aI:=[],aA:=[{aN:=225,To:=[97,769],bU:=[]}],aL:={Ranges:=[]}}
abbrev yIQ:bY:={b5:=[],cG:=[],cW:=0,b7:=0,cL:=0}
abbrev z9G:cM:={bO:=3,aV:=1,bX:=false,bQ:=false}
abbrev yRP:bH:={c:={b5:=[],cG:=[],cW:=64448,b7:=32,cL:=2},entries:=[],cD:=0,cY:=[],top:=0}
theorem yRQ:NSm nT:=⟨by decide,by decide,λm h=>(by simp only[fY] at h;subst h;decide),λm h=>(by simp only[fY] at h;subst h;decide),by decide⟩
theorem yE4:uV nT:=by unfold uV zT5 z1M;refine⟨⟨by simp,λx D=>by cases D⟩,⟨by simp,λm h=>?_⟩,by simp⟩;simp only[fY] at h;subst h;simp
theorem yXW:MV nT.aA:=by refine⟨λm h=>?_,λm h=>?_,λm h=>?_,λk D=>by simp at D⟩;simp only[fY] at h;subst h;unfold codesOk;decide;simp only[fY] at h;subst h;decide;simp only[fY] at h;subst h;exact .inl rfl
theorem yE5:VD0 nT:=by
 refine⟨⟨λk D=>(by cases D),λk D=>(by cases D),λk D=>(by cases D)⟩,yXW,trivial,λk D=>by simp at D,λm G=>?_,λm G=>?_,λm G=>?_,λm G=>?_,λm G=>?_⟩
 all_goals simp only[fY] at G;subst G
 · exact λ_=> .inr rfl
 · decide
 · intro h;exact absurd rfl h
 ·
  refine⟨2,λe H=>?_⟩;have K:e∈([97,769]:LI):=H;simp only[eP,List.not_mem_nil,or_false] at K;rcases K with rfl | rfl
  · exact λe H=>by cases (show e∈([]:LI) from H)
  · exact λe H=>by cases (show e∈([]:LI) from H)
 · decide
theorem yCI:u5 nT false [225]= [97,769]/\u5 nT false [97,769]= [97,769]/\u5 nT false [97]= [97]/\u5 nT false [98]= [98]:=by unfold u5 zDK;rw[zYU yE5];decide
theorem ySX (h:t.length<=2):jM nT 2 t=some (u5 nT false t):=zYV yRQ yE4 yE5 (by omega) (by omega) (by omega)
theorem yVN (h:c=97\/c=98):zBD nT yIQ [c]=some [{cJ:=64448,bZ:=32,b9:=2,aV:=false},{cJ:=32768+c,bZ:=0,b9:=0,aV:=false}]:=by
 have D:zE3 yIQ=some yRP:=by
  unfold zE3;show (((some (1:Int)).bind _)=_);rw[zA];show ((zE (λ(_:Unit)=>zEQ ([],[],64448,32,2)) ()).bind _)=_;rw[zP (y:=()) rfl];rfl
 have G:u0 yRP nT=some yRP:=by
  unfold u0;rw[yNR yRQ yE4 yE5,zA];show ((zE (λ(_:Unit)=>zAM []) ()).bind _)=_;rw[zP (y:=()) rfl];rfl
 have H:jL nT [c] false=some [c]:=by
  rw[zTG yRQ yE4 yE5 (by simp) (by have:=zQB yRQ yE4 false [c];simp at this ⊢;omega)]
  rcases h with rfl | rfl;rw[yCI.2.2.1];rw[yCI.2.2.2]
 have K:vT yRP [c]=some (1,[{cJ:=64448,bZ:=32,b9:=2,aV:=false},{cJ:=32768+c,bZ:=0,b9:=0,aV:=false}],false,[c]):=by
  unfold vT;rw[zP (y:=()) rfl,zA];rcases h with rfl | rfl
  rfl;rfl
 unfold zBD;rw[D,zA,G,zA,H,zA,zI (x':=([{cJ:=64448,bZ:=32,b9:=2,aV:=false},{cJ:=32768+c,bZ:=0,b9:=0,aV:=false}],[])) (by
  unfold zBL;rw[K];rfl),zP rfl,zA]
theorem z47 (D:c=97\/c=98):zDO nT yIQ z9G [c]=some [64448,32768+c,0,32,0,2]:=by
 have h:zB7 z9G=some z9G:=rfl;have G:zBU [{cJ:=64448,bZ:=32,b9:=2,aV:=false},{cJ:=32768+c,bZ:=0,b9:=0,aV:=false}] z9G=some [[64448,32768+c],[32],[2]]:=by
  unfold zBU;rw[h,zA];show ((zE _ _).bind _)=_;rw[zI (x':=(1,false,[64448],[32],[2],[65535])) (by
   unfold zBE;show ((zE _ _).bind _)=_;rw[zI (x':=(1,[64448],[],[],[])) rfl,zI (x':=(2,[64448],[32],[],[])) rfl,zI (x':=(3,[64448],[32],[2],[])) rfl,zI (x':=(4,[64448],[32],[2],[65535])) rfl,zP rfl];rfl)]
  rw[zI (x':=(2,false,[64448,32768+c],[32],[2],[65535,65535])) (by
   unfold zBE;rcases D with rfl | rfl
   all_goals
    show ((zE _ _).bind _)=_;rw[zI (x':=(1,[64448,32768+_],[32],[2],[65535])) rfl,zI (x':=(2,[64448,32768+_],[32],[2],[65535])) rfl,zI (x':=(3,[64448,32768+_],[32],[2],[65535])) rfl,zI (x':=(4,[64448,32768+_],[32],[2],[65535,65535])) rfl,zP rfl];rfl)]
  rw[zP rfl];rfl
 unfold zDO;rw[h,zA,yVN D,zA];show ((zBU _ z9G).bind _)=_;rw[G,zA,zI (x':=(1,[64448,32768+c])) rfl,zI (x':=(2,[64448,32768+c,0,32])) rfl,zI (x':=(3,[64448,32768+c,0,32,0,2])) rfl,zP rfl];rfl
theorem yIR:top_alive7=some true:=by
 have h:=ySX (t:=[225]) (by decide);have D:=ySX (t:=[97,769]) (by decide);obtain⟨G,H,Z,d4⟩:=yCI;rw[G] at h;rw[H] at D;have K:zG3 [97,769] [97,769]=some true:=by unfold zG3;rw[z8J (by simp)];simp
 have O:zDH nT [225] [97,769] false=some true:=by
  unfold zDH;rw[dN,zA,h,zA,D,zA];unfold zGC zAL;rw[zI (x':=1) rfl,zI (x':=2) rfl,zP rfl];rfl
 have T:zBV nT yIQ z9G [97] [98]=some (-1):=by
  unfold zBV;rw[z47 (.inl rfl),zA,z47 (.inr rfl),zA];unfold zAL;rw[zI (x':=1) rfl,zP rfl];rfl
 unfold top_alive7;show ((jM nT 2 [225]).bind _)=_;rw[h,zA,K,zA,zN,vN];show ((zDH nT [225] [97,769] false).bind _)=_;rw[O,zA,zN];show ((gM true (zBV nT yIQ z9G [97] [98])).bind _)=_;rw[vN,T,zA,zN];show ((gM true (zDO nT yIQ z9G [97])).bind _)=_;rw[vN,z47 (.inl rfl),zA];rfl
def u6 (r:aE):List Set:=r.aX++r.bP
structure RS (r:aE):Prop where
 m1:1<=r.aX.length
 m8:r.aX.length<=8
 b8:r.aR.length<=8
 a8:r.bP.length<=8
 re:r.Result.length<=16
 sb:∀s∈r.aR,s.Ranges.length<=12
 sm:∀s∈r.aX,s.Ranges.length<=12
 sa:∀s∈r.bP,s.Ranges.length<=12
 cb:∀s∈r.aR,Can s.Ranges/\s.Ranges≠[]
 cm:∀s∈r.aX,Can s.Ranges/\s.Ranges≠[]
 ca:∀s∈r.bP,Can s.Ranges/\s.Ranges≠[]
 pc:∀p∈r.Result,(p.bW=0/\vld p.Code=true)\/(p.bW≠0/\p.Code=0/\1<=p.bW/\p.bW<=(r.aX.length:Int))
theorem RS.len (h:RS r):(u6 r).length<=16:=by unfold u6;have:=h.m8;have:=h.a8;simp;omega
theorem RS.rl (h:RS r):∀s∈u6 r,s.Ranges.length<=12:=λs hs=>by
 unfold u6 at hs;rcases fk.1 hs with hs | hs
 exact h.sm s hs;exact h.sa s hs
def yCJ (r:aE) (d:Nat):Set:=((u6 r)[d]?).getD {Ranges:=[]}
def yNT (r:aE) (d:Nat) (c:Int):Bool:=decide (d<(u6 r).length)&&zDL (yCJ r d).Ranges c
theorem zWU (h:RS r) (O:d<=100000):zEM r (d:Int)=some (yCJ r d,decide (d<(u6 r).length)):=by
 have H:=h.m8;have K:=h.a8;unfold zEM yCJ u6;by_cases D:d<r.aX.length;rw[yY D,dO,z8 D,zA,eZ D];have:decide (d<(r.aX++r.bP).length)=true:=by simp;omega
 rw[this];simp[D];have e:wi ((d:Int)-(r.aX.length:Int))=((d-r.aX.length:Nat):Int):=by rw[j9 (by omega) (by omega)];omega
 rw[kU (by omega),dN,e,eU (by omega)];by_cases G:d-r.aX.length<r.bP.length;rw[yY G,dO,z8 G,zA];have:decide (d<(r.aX++r.bP).length)=true:=by simp;omega
 rw[this];simp[G];rw[kU (by omega),dN];have:decide (d<(r.aX++r.bP).length)=false:=by simp;omega
 rw[this,fN (by omega)];rfl
theorem yNU (h:RS r) (d:Nat):(yCJ r d).Ranges.length<=12:=by
 unfold yCJ;cases D:(u6 r)[d]? with
 | none=>simp
 | some s=>exact h.rl s (fH D)
def zYZ (r:aE) (pre:LI):Bool:=decide (r.aR.length<=pre.length/\∀i,i<r.aR.length->zDL (nth r.aR i).Ranges (nth pre (pre.length-r.aR.length+i))=true)
theorem yE6 (h:RS r) (ht:text.length<=100000) (ha:a<=text.length):zBI r text (a:Int)=some (zYZ r (text.take a)):=by
 have hb:=h.b8;have Z:(text.take a).length=a:=by simp;omega
 unfold zBI zYZ;rw[Z];have O:wi ((a:Int)-(r.aR.length:Int))=(a:Int)-(r.aR.length:Int):=j9 (by omega) (by omega);rw[O];by_cases T:r.aR.length<=a;have G:decide ((a:Int)-(r.aR.length:Int)<0)=false:=by simp;omega
 rw[G,dN];have hL:=kA (body:=λ(x:Int)=>wT r text (a:Int) x) r.aR.length (λk=>zDL (nth r.aR k).Ranges (nth (text.take a) (a-r.aR.length+k))=true) (λy=>y=false) (λk D=>by
  have e2:wi ((wi ((a:Int)-(r.aR.length:Int)))+(k:Int))=((a-r.aR.length+k:Nat):Int):=by rw[O,j9 (by omega) (by omega)];omega
  have hi:a-r.aR.length+k<text.length:=by omega
  have e3:nth (text.take a) (a-r.aR.length+k)=text[a-r.aR.length+k]:=by rw[zCQ (by rw[Z];omega),List.getElem_take]
  simp only[wT,yY D,dO,zW D,zA,e2,z8 hi,yRC (s:=nth r.aR k) (by have:=h.sb _ (wP D);omega),e3,zL (k:=k) (by omega)]
  cases zDL (nth r.aR k).Ranges text[a-r.aR.length+k] with
  | true=>exact .inl ⟨rfl,rfl⟩
  | false=>exact .inr ⟨by simp,false,rfl,rfl⟩) (λk D=>by simp only[wT,kU D,dN])
 rcases hL with ⟨H,K⟩ | ⟨y,rfl,H,K⟩;rw[H,zA];exact congrArg some (decide_eq_true (⟨T,K⟩:_/\_)).symm;rw[H,zA];exact congrArg some (jd (λq=>K q.2)).symm;have G:decide ((a:Int)-(r.aR.length:Int)<0)=true:=by simp;omega
 rw[G,dO];exact congrArg some (jd (λq=>T q.1)).symm
theorem yNV {x:LI} (h:r.aR.length<=pre.length):zYZ r (x++pre)=zYZ r pre:=by
 unfold zYZ;refine decide_eq_decide.2 ?_;have e:∀i,i<r.aR.length->nth (x++pre) ((x++pre).length-r.aR.length+i)=nth pre (pre.length-r.aR.length+i):=λi hi=>by
  unfold nth;rw[eT,eT,eU (by simp;omega)]
  congr 2;simp;omega
 constructor
 rintro⟨_,D⟩;exact⟨h,λi hi=>by rw[<-e i hi];exact D i hi⟩
 rintro⟨_,D⟩;exact⟨by simp;omega,λi hi=>by rw[e i hi];exact D i hi⟩
def ruA (rules:List aE) (i:Int):aE:=nth rules i.toNat
def zHN (rules:List aE) (d:Nat) (pre:LI) (best:Int):LI->Int
 | []=>best
 | i::r=>if 0<=best/\best<=i then best else if d<(u6 (ruA rules i)).length then zHN rules d pre best r else if zYZ (ruA rules i) pre=true then i else zHN rules d pre best r
def zTK (rules:List aE) (d:Nat) (c:Int) (al:LI):LI:=al.filter λi=>yNT (ruA rules i) d c
def zFP (rules:List aE) (pre:LI):LI->LI->Nat->Int->Int
 | [],al,d,best=>if al= [] then best else zHN rules d pre best al
 | c::r,al,d,best=>if al= [] then best else zFP rules pre r (zTK rules d c al) (d+1) (zHN rules d pre best al)
def IxA (rules:List aE) (al:LI):Prop:= ∀i∈al,0<=i/\i.toNat<rules.length
theorem yNW (h:IxA rules al) (d:Nat) (c:Int):IxA rules (zTK rules d c al):=λi hi=>h i (fX.1 hi).1
theorem z48 {best:Int}:∀(al:LI),zHN rules d pre best al=best\/(zHN rules d pre best al∈al/\(u6 (ruA rules (zHN rules d pre best al))).length<=d)
 | []=> .inl rfl
 | i::r=>by
  unfold zHN;split;exact .inl rfl;split;rcases z48 (best:=best) r with h | ⟨D,G⟩
  exact .inl h;exact .inr ⟨gI _ D,G⟩;rename_i H;split;exact .inr ⟨by simp,by omega⟩;rcases z48 (best:=best) r with h | ⟨D,G⟩
  exact .inl h;exact .inr ⟨gI _ D,G⟩
def FitW (rules:List aE) (m:Nat) (b:Int):Prop:=b= -1\/(0<=b/\b.toNat<rules.length/\(u6 (ruA rules b)).length<=m)
theorem FitW.mono {m D:Nat} {b:Int} (h:FitW rules m b) (O:m<=D):FitW rules D b:=by rcases h with h | ⟨G,H,K⟩;exact .inl h;exact .inr ⟨G,H,by omega⟩
theorem z9H (G:IxA rules al) (hb:FitW rules d best):FitW rules d (zHN rules d pre best al):=by rcases z48 (rules:=rules) (d:=d) (pre:=pre) (best:=best) al with h | ⟨D,H⟩;rw[h];exact hb;exact .inr ⟨(G _ D).1,(G _ D).2,H⟩
theorem z9I {pre:LI}:∀(h al:LI) (d:Nat) (best:Int),IxA rules al->FitW rules d best->FitW rules (d+h.length) (zFP rules pre h al d best)
 | [],al,d,best,D,hb=>by
  unfold zFP;split;exact hb;exact z9H D hb
 | c::r,al,d,best,D,hb=>by
  unfold zFP;split;exact hb.mono (by omega);have:=z9I (pre:=pre) r (zTK rules d c al) (d+1) (zHN rules d pre best al) (yNW D d c) ((z9H D hb).mono (by omega));simp only[eF];rw[show d+(r.length+1)=d+1+r.length by omega];exact this
theorem yRR (h:∀i,(u6 (ruA rules i)).length<=d) (c:Int) (al:LI):zTK rules d c al= []:=by
 unfold zTK;rw[i5];intro i _;unfold yNT;have:=h i;have:decide (d<(u6 (ruA rules i)).length)=false:=by simp;omega
 rw[this];simp
theorem z9J (G:∀i,(u6 (ruA rules i)).length<=A) (t:LI):∀(D al:LI) (d:Nat) (best:Int),A<=d+D.length->zFP rules pre (D++t) al d best=zFP rules pre D al d best
 | [],al,d,best,h=>by
  rw[eN];cases t with
  | nil=>rfl
  | cons c r=>
   unfold zFP;split;rfl;rw[yRR (λi=>fA (G i) (by simpa using h))];cases r<;>simp[zFP]
 | c::r,al,d,best,h=>by
  rw[fV];unfold zFP;rw[z9J G t r (zTK rules d c al) (d+1) _ (by simp only[eF] at h;omega)]
theorem zY0 (h:∀i,(ruA rules i).aR.length<=B) {x:LI} (D:B<=pre.length):∀al,zHN rules d (x++pre) best al=zHN rules d pre best al
 | []=>rfl
 | i::r=>by unfold zHN;rw[zY0 h D r,yNV (fA (h i) D)]
theorem z9K (D:∀i,(ruA rules i).aR.length<=B) {x:LI} (G:B<=pre.length):∀(h al:LI) (d:Nat) (best:Int),zFP rules (x++pre) h al d best=zFP rules pre h al d best
 | [],al,d,best=>by unfold zFP;rw[zY0 D G]
 | c::r,al,d,best=>by unfold zFP;rw[zY0 D G,z9K D G r]
def zMV (n:Nat):LI:=(List.range n).map λ(i:Nat)=>(i:Int)
theorem yNX (rules:List aE):IxA rules (zMV rules.length):=λi hi=>by unfold zMV at hi;rw[fL] at hi;obtain⟨k,h,rfl⟩:=hi;rw[fQ] at h;exact⟨by omega,by simpa using h⟩
def jY (rules:List aE) (items:LI) (a:Nat):Int:=zFP rules (items.take a) (items.drop a) (zMV rules.length) 0 (-1)
def zKW (rules:List aE) (b:Int):Nat:=if b<0 then 1 else (ruA rules b).aX.length
def zJC (rules:List aE) (items:LI) (a:Nat) (b:Int):LI:=
 if b<0 then [nth items a] else (ruA rules b).Result.map λp=>if p.bW=0 then p.Code else nth items (a+p.bW.toNat-1)
theorem zHO (rules:List aE) (items:LI) (a:Nat):FitW rules (items.length-a) (jY rules items a):=by have:=z9I (rules:=rules) (pre:=items.take a) (items.drop a) (zMV rules.length) 0 (-1) (yNX rules) (.inl rfl);rw[fD,fM] at this;exact this
def zFS (rules:List aE) (A:Nat):Nat->LI->Nat->LI×Nat
 | 0,_,a=>([],a)
 | f+1,items,a=>if items.length<A+a then ([],a) else (zJC rules items a (jY rules items a)++(zFS rules A f items (a+zKW rules (jY rules items a))).1,(zFS rules A f items (a+zKW rules (jY rules items a))).2)
def RSs (rules:List aE):Prop:= ∀r∈rules,RS r
theorem zID {b:Int} (h:b.toNat<rules.length):ruA rules b∈rules:=wP h
theorem zQD (H:RSs rules) (O:a<items.length):1<=zKW rules (jY rules items a)/\a+zKW rules (jY rules items a)<=items.length:=by rcases zHO rules items a with h | ⟨K,G,D⟩;unfold zKW;rw[h];simp;omega;have:=H _ (zID G);have T:=this.m1;unfold u6 at D;rw[d8] at D;unfold zKW;rw[dU (by omega)];omega
section
variable (hr:RSs rules)
include hr
theorem zY1 (H:1<=A) {items:LI}:∀(f g a:Nat),items.length-a<=f->items.length-a<=g->a<=items.length->zFS rules A f items a=zFS rules A g items a
 | 0,0,a,_,_,_=>rfl
 | 0,g+1,a,D,_,h=>by
  unfold zFS;rw[eG (by omega)]
 | f+1,0,a,_,G,h=>by
  unfold zFS;rw[eG (by omega)]
 | f+1,g+1,a,D,G,h=>by
  unfold zFS;split;rfl;have:=zQD hr (items:=items) (a:=a) (by omega);rw[zY1 H f g _ (by omega) (by omega) (by omega)]
theorem zU0 (G:1<=A) {items:LI}:∀(f a:Nat),a<=items.length->a<=(zFS rules A f items a).2/\(zFS rules A f items a).2<=items.length/\(zFS rules A f items a).1.length<=16*((zFS rules A f items a).2-a)
 | 0,a,h=>by unfold zFS;simp;omega
 | f+1,a,h=>by
  unfold zFS;split;simp;omega;have H:=zQD hr (items:=items) (a:=a) (by omega);have:=zU0 G (items:=items) f (a+zKW rules (jY rules items a)) H.2;have O:(zJC rules items a (jY rules items a)).length<=16:=by
   unfold zJC;split;simp;rename_i K;rcases zHO rules items a with h | ⟨_,D,_⟩
   omega;have:=(hr _ (zID D)).re;simpa using this
  simp only[d8];refine⟨by omega,by omega,?_⟩;omega
def zPJ (rules:List aE) (items:LI) (a:Nat):LI:=(zFS rules 1 (items.length-a) items a).1
theorem yRS (T:∀i,(u6 (ruA rules i)).length<=A) (h:A+a<=items.length) (K:a<items.length) (t:LI):jY rules (items++t) a=jY rules items a/\zJC rules (items++t) a (jY rules items a)=zJC rules items a (jY rules items a):=by
 have hs:jY rules (items++t) a=jY rules items a:=by
  unfold jY;rw[List.take_append_of_le_length (by omega),List.drop_append_of_le_length (by omega),z9J T t _ _ _ _ (by simp;omega)]
 refine⟨hs,?_⟩;have G:∀k,k<items.length->nth (items++t) k=nth items k:=λk hk=>by unfold nth;rw[eT,eT,eZ hk]
 unfold zJC;split;rw[G _ K];rename_i H;rcases zHO rules items a with h0 | ⟨_,O,D⟩
 omega;have Z:=hr _ (zID O);unfold u6 at D;rw[d8] at D;refine fZ λp hp=>?_;split;rfl;rename_i hc;rcases Z.pc p hp with ⟨q,_⟩ | ⟨_,_,q1,q2⟩
 exact absurd q hc;rw[G _ (by omega)]
theorem z18 (D:1<=A) (G:∀i,(u6 (ruA rules i)).length<=A) {items:LI} (t:LI):∀(f a:Nat),a<=items.length->zPJ rules (items++t) a=(zFS rules A f items a).1++zPJ rules (items++t) (zFS rules A f items a).2
 | 0,a,h=>by unfold zFS;simp
 | f+1,a,h=>by
  unfold zFS;split
  · simp
  ·
   rename_i T;have O:=zQD hr (items:=items) (a:=a) (by omega);obtain⟨H,K⟩:=yRS hr G (items:=items) (a:=a) (by omega) (by omega) t;have Z:=z18 D G t f (a+zKW rules (jY rules items a)) O.2;rw[dW,<-Z]
   conv=>lhs;unfold zPJ
   rw[zY1 hr (d9 1) _ ((items++t).length-a+1) a (by omega) (by omega) (by simp;omega)]
   unfold zFS;rw[dU (by simp;omega),H,K]
   simp only;congr 1;unfold zPJ;rw[zY1 hr (d9 1) _ ((items++t).length-(a+zKW rules (jY rules items a))) _ (by omega) (by omega) (by simp;omega)]
theorem z19 (H:∀i,(ruA rules i).aR.length<=B) {x items:LI}:∀(f a:Nat),B<=a->a<=items.length->(zFS rules 1 f (x++items) (x.length+a)).1=(zFS rules 1 f items a).1
 | 0,a,_,_=>rfl
 | f+1,a,hb,h=>by
  unfold zFS;by_cases D:items.length<1+a;rw[eG D,eG (by simp;omega)]
  rw[dU D,dU (by simp;omega)]
  have hc:=zQD hr (items:=items) (a:=a) (by omega);have T:jY rules (x++items) (x.length+a)=jY rules items a:=by
   unfold jY;rw[List.take_append,gS (by omega),List.drop_append,eJ (by omega),eN,show x.length+a-x.length=a by omega];exact z9K H (by simp;omega) _ _ _ _
  have K:∀k,nth (x++items) (x.length+k)=nth items k:=λk=>by
   unfold nth;rw[eT,eT,eU (by omega)];congr 2;omega
  have Z:zJC rules (x++items) (x.length+a) (jY rules items a)=zJC rules items a (jY rules items a):=by
   unfold zJC;split;rw[K];rename_i O;rcases zHO rules items a with h0 | ⟨_,h2,_⟩
   omega;have hR:=hr _ (zID h2);refine fZ λp hp=>?_;split;rfl;rename_i G;rcases hR.pc p hp with ⟨q,_⟩ | ⟨_,_,q1,_⟩
   exact absurd q G;rw[show x.length+a+p.bW.toNat-1=x.length+(a+p.bW.toNat-1) by omega,K]
  rw[T,Z];simp only;rw[hY,z19 H f _ (by omega) hc.2]
end
theorem z9L {G H:Type} [DecidableEq G]:∀(m:List (G×H)) (c: G) (v: H) (x: G),mget (vS m c v) x=if x=c then some v else mget m x
 | [],c,v,x=>by
  by_cases h:x=c;subst h;simp[vS,mget];simp[vS,mget,h]
 | (k,w)::r,c,v,x=>by
  have K:=z9L r c v x;by_cases D:c=k;subst D;by_cases h:x=c;subst h;simp[vS,mget];simp[vS,mget,h];by_cases h:x=k;subst h;have:¬x=c:=λq=>D q.symm;simp[vS,mget,D,this];simp only[vS,D,eE,mget,h];exact K
def alP (rules:List aE):LI->LI
 | []=>zMV rules.length
 | c::p=>zTK rules p.length c (alP rules p)
theorem yCK (rules:List aE):∀p,IxA rules (alP rules p)
 | []=>yNX rules
 | c::p=>yNW (yCK rules p) _ _
theorem z49 (rules:List aE):∀p,(alP rules p).length<=rules.length
 | []=>by simp[alP,zMV]
 | c::p=>fA (i7 _ _) (z49 rules p)
structure TI (rules:List aE) (nx:List (aP×Int)) (al:List LI) (pt:Nat->LI):Prop where
 p0:pt 0= []
 pos:0<al.length
 av:∀k,k<al.length->nth al k=alP rules (pt k)
 nx:∀l ch,mget nx l=some ch->∃a b:Nat,l.c9=a/\ch=b/\a<al.length/\b<al.length/\pt b=l.code::pt a
abbrev trT (rules:List aE) (nx:List (aP×Int)) (al:List LI):aW:={rules:=rules,next:=nx,cg:=al}
theorem zRX {i:Int} (h:0<=i/\i.toNat<rules.length):yO rules i=some (ruA rules i):=by obtain⟨k,rfl⟩:∃k:Nat,i=k:=⟨i.toNat,by omega⟩;exact zW (by simpa using h.2)
section
variable (hr:RSs rules) (hl:rules.length<=300)
include hr hl
omit hl in
theorem yCL {tal:List LI} (hx:IxA rules al) (aa:al.length<=300) (hd:d<=100000):∀(m i:Nat) (h:LI),al.length-i=m->i<=al.length->h.length<=i->
  zE (λ(x:Int×LI)=>k5 al (trT rules nx tal) (d:Int) c x.1 x.2) ((i:Int),h)=some (h++zTK rules d c (al.drop i)):=by
 intro m
 induction m with
 | zero=>
  intro i h O T Z;rw[yQ,eJ (by omega)];simp only[k5,kU (show al.length<=i by omega),dN];simp[zTK]
 | succ m ih=>
  intro i h O T Z;have hi:i<al.length:=by omega
  have D:=hx _ (fI hi);have H:=hr _ (zID D.2);have K:app h [al[i]]=some (h++ [al[i]]):=j7 (by simp;omega)
  have hb:k5 al (trT rules nx tal) (d:Int) c (i:Int) h=some (.next (((i+1:Nat):Int),if yNT (ruA rules al[i]) d c=true then h++ [al[i]] else h)):=by
   simp only[k5,yY hi,dO,z8 hi,zA,zRX D,zWU H hd,zN,zL (k:=i) (by omega)];unfold yNT;cases decide (d<(u6 (ruA rules al[i])).length) with
   | false=>simp only[zBR,zA,fj,dN];rfl
   | true=>
    simp only[vN,yRC (s:=yCJ (ruA rules al[i]) d) (by have:=yNU H d;omega),zA,eV]
    cases zDL (yCJ (ruA rules al[i]) d).Ranges c with
    | false=>simp only[dN,zA];rfl
    | true=>simp only[dO,K,zA];rfl
  rw[zI (body:=λ(x:Int×LI)=>k5 al (trT rules nx tal) (d:Int) c x.1 x.2) (x:=((i:Int),h)) hb];have G:(if yNT (ruA rules al[i]) d c=true then h++ [al[i]] else h).length<=i+1:=by
   split
   ·simp;omega
   ·omega
  rw[ih (i+1) _ (by omega) (by omega) G,eA hi];unfold zTK;rw[List.filter_cons];split<;>simp
theorem yN0 {al:List LI} {D:Nat->LI} (h:TI rules nx al D) (ha:a<al.length) (hd:(D a).length=d) (ah:d<=100000) (ar:al.length<=100000000) (c:Int):
  ∃(b:Nat) (O:List (aP×Int)) (G:List LI) (T:Nat->LI),u2 (trT rules nx al) (a:Int) (d:Int) c=some ((b:Int),trT rules O G)/\TI rules O G T/\b<G.length/\T b=c::D a/\G.length<=al.length+1:=by
 unfold u2;cases hm:mget nx ({c9:=(a:Int),code:=c}:aP) with
 | some ch=>
  obtain⟨K,b,e1,e2,h1,h2,Z⟩:=h.nx _ _ hm;simp only at e1 Z;have:K=a:=by omega
  subst this;refine⟨b,nx,al,D,?_,h,h2,Z,by omega⟩;have m1:zB0 nx ({c9:=(K:Int),code:=c}:aP)=true:=by unfold zB0;rw[hm];rfl
  have m2:wR nx ({c9:=(K:Int),code:=c}:aP) 0=(b:Int):=by unfold wR;rw[hm];exact e2
  simp only[m1,dO,m2]
 | none=>
  have m1:zB0 nx ({c9:=(a:Int),code:=c}:aP)=false:=by unfold zB0;rw[hm];rfl
  have ai:=yCK rules (D a);have ao:=z49 rules (D a);have hL:=yCL hr (nx:=nx) (tal:=al) ai (by omega) ah (c:=c) (alP rules (D a)).length 0 [] (by omega) (by omega) (by simp);rw[e9,eN] at hL;have ad:zE (λ(x:Int×LI)=>k5 (alP rules (D a)) (trT rules nx al) (d:Int) c x.1 x.2) (0,[])=some (zTK rules d c (alP rules (D a))):=hL;have ag:app al [zTK rules d c (alP rules (D a))]=some (al++ [zTK rules d c (alP rules (D a))]):=j7 (by simp;omega)
  refine⟨al.length,vS nx {c9:=(a:Int),code:=c} (al.length:Int),al++ [zTK rules d c (alP rules (D a))],λk=>if k=al.length then c::D a else D k,?_,⟨?_,?_,?_,?_⟩,?_,?_,?_⟩
  ·simp only[m1,dN,zW ha,zA,h.av a ha,ad,ag]
  ·have:=h.pos
   show (if 0=al.length then c::D a else D 0)= [];rw[dU (by omega)];exact h.p0
  ·simp
  ·intro k hk
   simp only[d8,gL] at hk;by_cases e:k=al.length
   ·subst e
    rw[eG rfl];simp only[alP,hd];unfold nth;simp
   ·rw[dU e,<-h.av k (by omega)]
    unfold nth;rw[eT,eT,eZ (by omega)]
  ·intro l ch H
   rw[z9L] at H;simp only[d8,gL];split at H
   ·rename_i e
    subst e;injection H with H;refine⟨a,al.length,rfl,H.symm,by omega,by omega,?_⟩;rw[eG rfl,dU (by omega)]
   ·obtain⟨K,b,e1,e2,h1,h2,Z⟩:=h.nx _ _ H
    refine⟨K,b,e1,e2,by omega,by omega,?_⟩;rw[dU (by omega),dU (by omega)];exact Z
  ·simp
  ·simp
  ·simp
omit hl in
theorem yIS (Z:text.length<=100000) (O:a<=text.length) (hx:IxA rules al) (ad:al.length<=300) (K:d<=100000):∀(m i:Nat),al.length-i=m->i<=al.length->
  zE (λ(x:Int)=>kS al best rules (d:Int) text (a:Int) x) (i:Int)=some (zHN rules d (text.take a) best (al.drop i)):=by
 intro m
 induction m with
 | zero=>
  intro i h1 h2;rw[yQ,eJ (by omega)];simp only[kS,kU (show al.length<=i by omega),dN];rfl
 | succ m ih=>
  intro i h1 h2;have hi:i<al.length:=by omega
  have h:=hx _ (fI hi);have G:=hr _ (zID h.2);rw[eA hi];unfold zHN;by_cases H:0<=best/\best<=al[i]
  ·rw[eG H]
   refine zP ?_;have e:(decide (0<=best)&&decide (best<=al[i]))=true:=by simp;exact H
   simp only[kS,yY hi,dO,z8 hi,zA,zN,e,fw]
  ·rw[dU H]
   have e:(decide (0<=best)&&decide (best<=al[i]))=false:=by rw[iM];intro q;simp only[eC,d7] at q;exact H q
   by_cases D:d<(u6 (ruA rules al[i])).length
   ·rw[eG D,zI (x':=((i+1:Nat):Int)) (by
     simp only[kS,yY hi,dO,z8 hi,zA,zN,e,dN,zRX h,zWU G K,D,eH,iX,zL (k:=i) (by omega)])]
    exact ih (i+1) (by omega) (by omega)
   ·rw[dU D]
    cases T:zYZ (ruA rules al[i]) (text.take a) with
    | true=>
     rw[eG rfl];refine zP ?_;simp only[kS,yY hi,dO,z8 hi,zA,zN,e,dN,zRX h,zWU G K,D,e6,yE6 G Z O,T,fw]
    | false=>
     rw[dU (by simp),zI (x':=((i+1:Nat):Int)) (by
      simp only[kS,yY hi,dO,z8 hi,zA,zN,e,dN,zRX h,zWU G K,D,e6,yE6 G Z O,T,iX,zL (k:=i) (by omega)])]
     exact ih (i+1) (by omega) (by omega)
noncomputable abbrev stL (text:LI) (a:Nat):=λ(x:Int×Int×Int×(List aE)×(List (aP×Int))×(List LI))=>xL text (a:Int) x.1 x.2.1 x.2.2.1 x.2.2.2.1 x.2.2.2.2.1 x.2.2.2.2.2
theorem z2A (ht:text.length<=100000) {at_:Nat} (ad:at_<=text.length):∀(G:LI) (a d:Nat) (best:Int) (nx:List (aP×Int)) (al:List LI) (D:Nat->LI),TI rules nx al D->a<al.length->(D a).length=d->text.drop (at_+d)=G->at_+d<=text.length->al.length+G.length<=100000000->
  ∃K H aa,zE (stL text at_) (best,(a:Int),(d:Int),rules,nx,al)=some (zFP rules (text.take at_) G (alP rules (D a)) d best,rules,K,H)/\TI rules K H aa/\H.length<=al.length+G.length
 | G,a,d,best,nx,al,D,h,Z,hd,hs,bj,hb=>by
  have au:=yCK rules (D a);have ba:=z49 rules (D a);by_cases he:alP rules (D a)= []
  ·refine⟨nx,al,D,?_,h,by omega⟩
   have hw:zFP rules (text.take at_) G (alP rules (D a)) d best=best:=by
    rw[he];cases G<;>simp[zFP]
   rw[hw];refine zP ?_;simp only[stL,xL,zW Z,zA,h.av a Z,he];rfl
  ·have T:decide ((0:Int)<((alP rules (D a)).length:Int))=true:=by
    have:=iZ.2 he;simp;omega
   have hL:=yIS hr ht ad au (by omega) (d:=d) (by omega) (best:=best) (alP rules (D a)).length 0 (by omega) (by omega);rw[e9] at hL;have ac:zE (λ(x:Int)=>kS (alP rules (D a)) best rules (d:Int) text (at_:Int) x) 0=some (zHN rules d (text.take at_) best (alP rules (D a))):=hL;have ew:wi ((at_:Int)+(d:Int))=((at_+d:Nat):Int):=by rw[j9 (by omega) (by omega)];omega
   cases G with
   | nil=>
    have bi:text.length<=at_+d:=List.drop_eq_nil_iff.1 hs;refine⟨nx,al,D,?_,h,by simp⟩;have hw:zFP rules (text.take at_) [] (alP rules (D a)) d best=zHN rules d (text.take at_) best (alP rules (D a)):=by unfold zFP;rw[dU he]
    rw[hw];refine zP ?_;have e2:decide ((text.length:Int)<=((at_+d:Nat):Int))=true:=by simp;omega
    simp only[stL,xL,zW Z,zA,h.av a Z,T,dO,ac,ew,e2]
   | cons c r=>
    obtain⟨hg,aq,bk⟩:=zTF hs;have O:at_+d<text.length:=by omega
    have ar:yO text ((at_+d:Nat):Int)=some c:=by rw[z8 O];rw[dT O] at hg;exact hg
    obtain⟨b,aw,aj,ab,an,hT,am,ah,ay⟩:=yN0 hr hl h Z hd (by omega) (by simp only[eF] at hb;omega) c
    have ap:(ab b).length=d+1:=by rw[ah,eF,hd]
    simp only[eF] at hb;obtain⟨K,H,aa,h1,h2,h3⟩:=z2A ht ad r b (d+1) (zHN rules d (text.take at_) best (alP rules (D a))) aw aj ab hT am ap aq (by omega) (by omega);refine⟨K,H,aa,?_,h2,by simp only[eF];omega⟩
    have hw:zFP rules (text.take at_) (c::r) (alP rules (D a)) d best=zFP rules (text.take at_) r (alP rules (ab b)) (d+1) (zHN rules d (text.take at_) best (alP rules (D a))):=by
     rw[ah];simp only[alP,hd]
     conv=>lhs;unfold zFP
     rw[dU he]
    rw[hw,<-h1];have e2:decide ((text.length:Int)<=((at_+d:Nat):Int))=false:=by simp;omega
    have e3:wi ((d:Int)+1)=((d+1:Nat):Int):=zL (by omega);refine zI ?_;simp only[stL,xL,zW Z,zA,h.av a Z,T,dO,ac,ew,e2,dN,ar,an,e3]
theorem z9M (ht:text.length<=100000) (ha:a<=text.length) {al:List LI} {pt:Nat->LI} (h:TI rules nx al pt) (ah:al.length+text.length<=100000000):
  ∃G D H,vO (trT rules nx al) text (a:Int)=some (jY rules text a,((zKW rules (jY rules text a):Nat):Int),trT rules G D)/\TI rules G D H/\D.length<=al.length+text.length:=by
 obtain⟨G,D,H,Z,h2,h3⟩:=z2A hr hl ht ha (text.drop a) 0 0 (-1) nx al pt h h.pos (by rw[h.p0];rfl) (by simp) (by omega) (by simp;omega)
 refine⟨G,D,H,?_,h2,by simp at h3;omega⟩
 rw[h.p0] at Z;have K:zE (stL text a) (-1,0,0,rules,nx,al)=some (jY rules text a,rules,G,D):=Z;unfold vO;show ((zE (stL text a) (-1,0,0,rules,nx,al)).bind _)=_;rw[K,zA];rcases zHO rules text a with hs | ⟨O,T,aj⟩
 ·rw[hs]
  rfl
 ·have e:decide (jY rules text a<0)=false:=by simp;omega
  have e2:zKW rules (jY rules text a)=(ruA rules (jY rules text a)).aX.length:=by unfold zKW;rw[dU (by omega)]
  simp only[e,dN,zRX ⟨O,T⟩,zA,e2]
omit hr in
theorem yN1:∀(m i:Nat) (h:LI),rules.length-i=m->i<=rules.length->h.length=rules.length->h.take i=zMV i->∀z:LI,z.length=rules.length->
  zE (λ(x:Int×LI)=>xU z x.1 x.2) ((i:Int),h)=some (zMV rules.length):=by
 intro m
 induction m with
 | zero=>
  intro i h K O H D z G;rw[yQ];simp only[xU,G,kU (show rules.length<=i by omega),dN];have:i=rules.length:=by omega
  subst this;rw[gS (by omega)] at D;rw[D]
 | succ m T=>
  intro i h K O H D z G;have hi:i<rules.length:=by omega
  rw[zI (x':=(((i+1:Nat):Int),h.set i (i:Int))) (by
   simp only[xU,G,yY hi,dO,z8 (show i<h.length by omega),zA,zHJ (show i<h.length by omega),zL (k:=i) (by omega)])]
  refine T (i+1) _ (by omega) (by omega) (by simpa using H) ?_ z G;have e:zMV (i+1)=zMV i++ [(i:Int)]:=by unfold zMV;rw[List.range_succ,ja];rfl
  rw[e,<-D,List.take_set,iA,dT (show i<h.length by omega)];simp only[Option.toList_some];rw[List.set_append_right _ _ (by simp;omega)]
  have:i-(h.take i).length=0:=by simp;omega
  rw[this];rfl
end
end Go.M


/- What the plain counterparts answer. Conditions: none. -/
import Derived.Test.YtedjilemjidllaaGreatDoorPu2
set_option linter.unusedSimpArgs false
set_option linter.unusedVariables false
set_option linter.unnecessarySimpa false
namespace Go.M
open Go.AV
variable {rules:List aE} {items all out p:LI} {a B A:Nat} {b:Int} {l:List Set} {n:Norm}
section
variable (hr:RSs rules) (hl:rules.length<=200) (hc:zAR rules=some 0)
include hr hl hc
omit hr in
theorem zY2:w7 rules=some (trT rules [] [zMV rules.length]):=by unfold w7;have h:=yN1 (rules:=rules) (by omega) rules.length 0 (List.replicate rules.length 0) (by omega) (by omega) (by simp) (by simp[zMV]) (List.replicate rules.length 0) (by simp);have k:zE (λ(x:Int×LI)=>xU (List.replicate rules.length 0) x.1 x.2) (0,List.replicate rules.length 0)=some (zMV rules.length):=h;have e:(cond (!decide ((0:Int)=0)) (none:Option Unit) (some ()))=some ():=rfl;rw[hc,zA,e,zA,zRT (show rules.length<=4294967296 by omega),zA,k,zA]
omit hr hl hc in
theorem TI0:TI rules [] [zMV rules.length] (λ_=>[]):=⟨rfl,by simp,λk D=>by
 have:k=0:=by simpa using D
 subst this;rfl,λl G h=>by simp[mget] at h⟩
theorem yE7 (hi:items.length<=100000) (O:a<items.length):zE8 rules items (a:Int)=some (jY rules items a,((zKW rules (jY rules items a):Nat):Int)):=by
 obtain⟨H,h,K,G,_,_⟩:=z9M hr (by omega) hi (show a<=items.length by omega) (TI0 (rules:=rules)) (by simp;omega)
 unfold zE8;have k:decide ((a:Int)<0)=false:=by simp only[dS];omega
 have D:decide ((items.length:Int)<=(a:Int))=false:=by simp;omega
 simp only[zN,k,D,je,dN,zY2 hl hc,zA,G]
omit hl hc in
theorem yE8 (K:a<=items.length) (hi:items.length<=100000) (hb:0<=b) (G:b.toNat<rules.length) (h:(u6 (ruA rules b)).length<=items.length-a) {p:dD} (H:p∈(ruA rules b).Result) (D:p.bW≠0):
  yO items (wi ((wi ((a:Int)+p.bW))-1))=some (nth items (a+p.bW.toNat-1)):=by
 have k:=hr _ (zID G);unfold u6 at h;rw[d8] at h;have O:=k.m8;rcases k.pc p H with ⟨q,_⟩ | ⟨_,_,q1,q2⟩
 ·exact absurd q D
 ·rw[j9 (n:=(a:Int)+p.bW) (by omega) (by omega),j9 (by omega) (by omega),show (a:Int)+p.bW-1=((a+p.bW.toNat-1:Nat):Int) by omega,zW (by omega)]
omit hl hc in
theorem yCM (ha:a<=items.length) (hi:items.length<=100000) (hb:0<=b) (O:b.toNat<rules.length) (h3:(u6 (ruA rules b)).length<=items.length-a):∀(m i:Nat) (h:LI),(ruA rules b).Result.length-i=m->i<=(ruA rules b).Result.length->h.length+16<=100000000+i->
  zE (λ(x:Int×LI)=>jZ (ruA rules b) items (a:Int) x.1 x.2) ((i:Int),h)=some (h++((ruA rules b).Result.drop i).map λp=>if p.bW=0 then p.Code else nth items (a+p.bW.toNat-1)):=by
 have ad:=(hr _ (zID O)).re;intro m
 induction m with
 | zero=>
  intro i h T Z g3;rw[yQ,eJ (by omega)];simp only[jZ,kU (show (ruA rules b).Result.length<=i by omega),dN];simp
 | succ m ih=>
  intro i h T Z g3;have D:i<(ruA rules b).Result.length:=by omega
  have K:∀v:Int,app h [v]=some (h++ [v]):=λv=>j7 (by simp;omega)
  have H:jZ (ruA rules b) items (a:Int) (i:Int) h=some (.next (((i+1:Nat):Int),h++ [if (ruA rules b).Result[i].bW=0 then (ruA rules b).Result[i].Code else nth items (a+(ruA rules b).Result[i].bW.toNat-1)])):=by
   by_cases G:(ruA rules b).Result[i].bW=0
   ·simp only[jZ,yY D,dO,z8 D,zA,G,eH,K,eK,zL (k:=i) (by omega)]
   ·simp only[jZ,yY D,dO,z8 D,zA,G,e6,dN,yE8 hr ha hi hb O h3 (fI D) G,K,eE,zL (k:=i) (by omega)]
  rw[zI (body:=λ(x:Int×LI)=>jZ (ruA rules b) items (a:Int) x.1 x.2) (x:=((i:Int),h)) H,ih (i+1) _ (by omega) (by omega) (by simp;omega),eA D,fp,dW]
  rfl
noncomputable abbrev apL (text:LI):=λ(x:Int×LI×(List aE)×(List (aP×Int))×(List LI))=>wH text x.1 x.2.1 x.2.2.1 x.2.2.2.1 x.2.2.2.2
omit hc in
theorem zY3 {text:LI} (ht:text.length<=5000):∀(f a:Nat) (out:LI) (nx:List (aP×Int)) (H:List LI) (pt:Nat->LI),TI rules nx H pt->text.length-a=f\/text.length-a<=f->a<=text.length->out.length<=16*a->H.length+f*text.length<=50000000->
  zE (apL text) ((a:Int),out,rules,nx,H)=some (out++(zFS rules 1 f text a).1)
 | 0,a,out,nx,H,pt,h,hf,ha,ho,K=>by
  refine zP ?_;simp only[apL,wH,kU (show text.length<=a by omega),dN];simp[zFS]
 | f+1,a,out,nx,H,pt,h,hf,ha,ho,K=>by
  unfold zFS;by_cases D:a<text.length
  ·rw[dU (by omega)]
   have am:H.length+(f*text.length+text.length)<=50000000:=by rw[fT,Nat.one_mul] at K;exact K
   obtain⟨T,O,ah,h1,h2,h3⟩:=z9M hr (by omega) (show text.length<=100000 by omega) ha h (by omega);have ad:=zQD hr (items:=text) D;have aw:(zJC rules text a (jY rules text a)).length<=16:=by
    have:=zU0 hr (d9 1) (items:=text) 1 a ha;unfold zJC;split
    ·simp
    ·rename_i hn
     rcases zHO rules text a with h0 | ⟨_,Z,_⟩
     ·omega
     ·have:=(hr _ (zID Z)).re
      simpa using this
   have hb:apL text ((a:Int),out,rules,nx,H)=some (.next (((a+zKW rules (jY rules text a):Nat):Int),out++zJC rules text a (jY rules text a),rules,T,O)):=by
    rcases zHO rules text a with h0 | ⟨g1,Z,g3⟩
    ·have G:decide (jY rules text a<0)=true:=by rw[h0];rfl
     have eo:zJC rules text a (jY rules text a)= [text[a]]:=by unfold zJC;rw[h0,eG (by omega),zCQ D]
     have ec:zKW rules (jY rules text a)=1:=by unfold zKW;rw[h0];rfl
     have ea:app out [text[a]]=some (out++ [text[a]]):=j7 (by simp;omega)
     simp only[apL,wH,yY D,dO,h1,zA,G,z8 D,ea,eo,ec,zL (k:=a) (show a+1<=9223372036854775807 by omega)]
    ·have G:decide (jY rules text a<0)=false:=by simp;omega
     have hL:=yCM hr ha (by omega) g1 Z g3 (ruA rules (jY rules text a)).Result.length 0 out (by omega) (by omega) (by omega);rw[e9] at hL;have eo:zJC rules text a (jY rules text a)=(ruA rules (jY rules text a)).Result.map λp=>if p.bW=0 then p.Code else nth text (a+p.bW.toNat-1):=by unfold zJC;rw[dU (by omega)]
     have ac:zE (λ(x:Int×LI)=>jZ (ruA rules (jY rules text a)) text (a:Int) x.1 x.2) (0,out)=some (out++zJC rules text a (jY rules text a)):=by rw[eo];exact hL
     have ew:wi ((a:Int)+((zKW rules (jY rules text a):Nat):Int))=((a+zKW rules (jY rules text a):Nat):Int):=by rw[j9 (by omega) (by omega)];omega
     simp only[apL,wH,yY D,dO,h1,zA,G,dN,zRX ⟨g1,Z⟩,ac,ew]
   rw[zI hb,zY3 ht f _ _ T O ah h2 (by omega) ad.2 (by simp;omega) (by omega)]
   simp
  ·rw[eG (by omega)]
   refine zP ?_;simp only[apL,wH,kU (show text.length<=a by omega),dN];simp
theorem yN2 {text:LI} (k:text.length<=5000):zEA rules text=some (zPJ rules text 0):=by
 have h:=zY3 hr hl k text.length 0 [] [] [zMV rules.length] _ TI0 (by omega) (by omega) (by simp) (by
  have:=Nat.mul_le_mul k k;simp;omega)
 have D:zE (apL text) (0,[],rules,[],[zMV rules.length])=some (zPJ rules text 0):=by rw[eN] at h;exact h
 unfold zEA;rw[zY2 hl hc,zA];show ((zE (apL text) (0,[],rules,[],[zMV rules.length])).bind _)=_;rw[D,zA]
def tsS (rules:List aE) (B A:Nat) (items:LI) (a:Nat):aK:={aD:={items:=items,at_:=(a:Int)},rules:=rules,before:=(B:Int),ahead:=(A:Int),aO:=true}
omit hl hc in
theorem yCN {w:LI} (ha:a<=items.length) (hi:items.length<=100000) (hb:0<=b) (Z:b.toNat<rules.length) (h3:(u6 (ruA rules b)).length<=items.length-a):∀(m i:Nat) (h:LI),(ruA rules b).Result.length-i=m->i<=(ruA rules b).Result.length->h.length+16<=100000000+i->
  zE (λ(x:Int×LI)=>yN (ruA rules b) (w,tsS rules B A items a) x.1 x.2) ((i:Int),h)=some (h++((ruA rules b).Result.drop i).map λp=>if p.bW=0 then p.Code else nth items (a+p.bW.toNat-1)):=by
 have ah:=(hr _ (zID Z)).re;have H:(tsS rules B A items a).aD.items=items:=rfl;have K:(tsS rules B A items a).aD.at_=(a:Int):=rfl;intro m
 induction m with
 | zero=>
  intro i h g1 g2 g3;rw[yQ,eJ (by omega)];simp only[yN,kU (show (ruA rules b).Result.length<=i by omega),dN];simp
 | succ m ih=>
  intro i h g1 g2 g3;have D:i<(ruA rules b).Result.length:=by omega
  have T:∀v:Int,app h [v]=some (h++ [v]):=λv=>j7 (by simp;omega)
  have O:yN (ruA rules b) (w,tsS rules B A items a) (i:Int) h=some (.next (((i+1:Nat):Int),h++ [if (ruA rules b).Result[i].bW=0 then (ruA rules b).Result[i].Code else nth items (a+(ruA rules b).Result[i].bW.toNat-1)])):=by
   by_cases G:(ruA rules b).Result[i].bW=0
   ·simp only[yN,yY D,dO,z8 D,zA,G,eH,T,eK,zL (k:=i) (by omega)]
   ·simp only[yN,yY D,dO,z8 D,zA,G,e6,dN,H,K,yE8 hr ha hi hb Z h3 (fI D) G,T,eE,zL (k:=i) (by omega)]
  rw[zI (body:=λ(x:Int×LI)=>yN (ruA rules b) (w,tsS rules B A items a) x.1 x.2) (x:=((i:Int),h)) O,ih (i+1) _ (by omega) (by omega) (by simp;omega),eA D,fp,dW]
  rfl
noncomputable abbrev tsL (A':Int):=λ(x:LI×Int×(List aE)×Int×Int×Bool×LI)=>jD A' x.1 x.2.1 x.2.2.1 x.2.2.2.1 x.2.2.2.2.1 x.2.2.2.2.2.1 x.2.2.2.2.2.2
theorem zY4 {B A A':Nat} (ah:1<=A') (ai:A'<=1000) {items:LI} (hi:items.length<=100000):∀(f a:Nat) (out:LI),items.length-a<=f->a<=items.length->out.length<=16*a->
  zE (tsL (A':Int)) (out,(a:Int),rules,(B:Int),(A:Int),true,items)=some (out++(zFS rules A' f items a).1,(((zFS rules A' f items a).2:Nat):Int),rules,(B:Int),(A:Int),true,items)
 | f,a,out,hf,ha,ho=>by
  have h:vD ({aD:=({items:=items,at_:=(a:Int)}:bG),rules:=rules,before:=(B:Int),ahead:=(A:Int),aO:=true}:aK)=some (items.drop a,tsS rules B A items a):=by
   unfold vD;simp only[zHK ha,zA];rfl
  by_cases ab:items.length<A'+a
  ·have e1:(zFS rules A' f items a)=([],a):=by
    cases f with
    | zero=>rfl
    | succ f=>unfold zFS;rw[eG ab]
   rw[e1];refine zP ?_;have e2:decide ((A':Int)<=((items.drop a).length:Int))=false:=by simp;omega
   simp only[tsL,jD,h,zA,e2,dN];simp[tsS]
  ·cases f with
   | zero=>omega
   | succ f=>
    have D:a<items.length:=by omega
    unfold zFS;rw[dU ab];have ak:=zQD hr (items:=items) D;have au:(zJC rules items a (jY rules items a)).length<=16:=by
     unfold zJC;split
     ·simp
     ·rename_i hn
      rcases zHO rules items a with h0 | ⟨_,g2,_⟩
      ·omega
      ·have:=(hr _ (zID g2)).re
       simpa using this
    have e2:decide ((A':Int)<=((items.drop a).length:Int))=true:=by simp;omega
    have H:(tsS rules B A items a).aD.items=items:=rfl;have K:(tsS rules B A items a).aD.at_=(a:Int):=rfl;have O:(tsS rules B A items a).rules=rules:=rfl;have T:(tsS rules B A items a).before=(B:Int):=rfl;have Z:(tsS rules B A items a).ahead=(A:Int):=rfl;have aa:(tsS rules B A items a).aO=true:=rfl;have hb:tsL (A':Int) (out,(a:Int),rules,(B:Int),(A:Int),true,items)=some (.next (out++zJC rules items a (jY rules items a),((a+zKW rules (jY rules items a):Nat):Int),rules,(B:Int),(A:Int),true,items)):=by
     rcases zHO rules items a with h0 | ⟨g1,g2,g3⟩
     ·have G:decide (jY rules items a<0)=true:=by rw[h0];rfl
      have eo:zJC rules items a (jY rules items a)= [items[a]]:=by unfold zJC;rw[h0,eG (by omega),zCQ D]
      have ec:zKW rules (jY rules items a)=1:=by unfold zKW;rw[h0];rfl
      have ea:app out [items[a]]=some (out++ [items[a]]):=j7 (by simp;omega)
      simp only[tsL,jD,h,zA,e2,dO,H,K,O,T,Z,aa,yE7 hr hl hc hi D,G,z8 D,ea,eo,ec,zL (k:=a) (show a+1<=9223372036854775807 by omega)]
     ·have G:decide (jY rules items a<0)=false:=by simp;omega
      have hL:=yCN hr (B:=B) (A:=A) (w:=items.drop a) ha hi g1 g2 g3 (ruA rules (jY rules items a)).Result.length 0 out (by omega) (by omega) (by omega);rw[e9] at hL;have eo:zJC rules items a (jY rules items a)=(ruA rules (jY rules items a)).Result.map λp=>if p.bW=0 then p.Code else nth items (a+p.bW.toNat-1):=by unfold zJC;rw[dU (by omega)]
      have aj:zE (λ(x:Int×LI)=>yN (ruA rules (jY rules items a)) (items.drop a,tsS rules B A items a) x.1 x.2) (0,out)=some (out++zJC rules items a (jY rules items a)):=by rw[eo];exact hL
      have ew:wi ((a:Int)+((zKW rules (jY rules items a):Nat):Int))=((a+zKW rules (jY rules items a):Nat):Int):=by rw[j9 (by omega) (by omega)];omega
      simp only[tsL,jD,h,zA,e2,dO,H,K,O,T,Z,aa,yE7 hr hl hc hi D,G,dN,zRX ⟨g1,g2⟩,aj,ew]
    rw[zI hb,zY4 ah ai hi f _ _ (by omega) ak.2 (by simp;omega)]
    simp
theorem z2B {A':Nat} (k:1<=A') (D:A'<=1000) (hi:items.length<=100000) (G:a<=items.length):jH (tsS rules B A items a) (A':Int)=some ((zFS rules A' (items.length-a) items a).1,tsS rules B A items (zFS rules A' (items.length-a) items a).2):=by have h:=zY4 hr hl hc (B:=B) (A:=A) k D hi (items.length-a) a [] (by omega) G (by simp);rw[eN] at h;unfold jH;show ((zE (tsL (A':Int)) ([],(a:Int),rules,(B:Int),(A:Int),true,items)).bind _)=_;rw[h,zA];rfl
def RcT (rules:List aE) (B A:Nat):Prop:=B<=8/\1<=A/\A<=16/\(∀i,(ruA rules i).aR.length<=B)/\∀i,(u6 (ruA rules i)).length<=A
def TInv (rules:List aE) (all out items:LI) (a:Nat):Prop:= ∀t,zPJ rules (all++t) 0=out++zPJ rules (items++t) a
omit hr hl hc in
theorem yXX:TInv rules [] [] [] 0:=λt=>rfl
theorem z2C (hR:RcT rules B A) {t:LI} (ha:a<=items.length) (hi:(items++t).length<=100000) (h:TInv rules all out items a):
  ∃o D a',kT (tsS rules B A items a) t=some (o,0,tsS rules B A D a')/\a'<=D.length/\D.length<=(items++t).length/\o.length+16*a<=16*(items++t).length/\TInv rules (all++t) (out++o) D a':=by
 obtain⟨an,K,ag,hB,hA⟩:=hR;have aq:items.length+t.length<=100000:=by simpa using hi
 have G:=zU0 hr (A:=A) K (items:=items++t) ((items++t).length-a) a (by simp;omega)
 have T:=z2B hr hl hc (B:=B) (A:=A) (A':=A) K (by omega) (items:=items++t) hi (a:=a) (by simp;omega)
 have O:=λu=>z18 hr K hA (items:=items++t) u ((items++t).length-a) a (by simp;omega)
 generalize hq:zFS rules A ((items++t).length-a) (items++t) a=q at G T O;obtain⟨o,k⟩:=q;simp only at G T O;have hw:∀S,xF (tsS rules B A (items++t) k) (B:Int)=some S->kT (tsS rules B A items a) t=some (o,0,S):=λS hS=>by
  unfold kT;have e:(false || !(tsS rules B A items a).aO)=false:=rfl;simp only[zN,e,dN];show ((app items t).bind _)=_;rw[j7 (by omega),zA];show ((jH (tsS rules B A (items++t) a) (A:Int)).bind _)=_;rw[T,zA];show ((xF (tsS rules B A (items++t) k) (B:Int)).bind _)=_;rw[hS,zA]
 have H:TInv rules (all++t) (out++o) (items++t) k:=λu=>by
  rw[dW,h,<-dW items,O u,<-dW]
 have ew:wi ((k:Int)-(B:Int))=(k:Int)-(B:Int):=j9 (by omega) (by omega);have Z:o.length+16*a<=16*(items++t).length:=by omega
 by_cases hx:B<k
 ·refine⟨o,(items++t).drop (k-B),B,hw _ ?_,by simp;simp at G;omega,by simp,Z,λu=>?_⟩
  ·unfold xF
   have e1:(tsS rules B A (items++t) k).aD.at_=(k:Int):=rfl;have e2:decide (0<(k:Int)-(B:Int))=true:=by simp;omega
   rw[e1,ew,e2,dO];show ((slc (items++t) ((k:Int)-(B:Int)) ((items++t).length:Int)).bind _)=_;have e3:(k:Int)-(B:Int)=((k-B:Nat):Int):=by omega
   rw[e3,zHK (by omega),zA,show yR ((items++t).drop (k-B))=some ((items++t).drop (k-B)) from zFE _ (by simp;omega),zA]
   have e4:wi ((k:Int)-((k-B:Nat):Int))=(B:Int):=by rw[j9 (by omega) (by omega)];omega
   rw[e4];rfl
  ·rw[H u]
   congr 1;have ad:((items++t).take (k-B)).length=k-B:=by simp at G ⊢;omega
   have hs:=z19 hr hB (x:=(items++t).take (k-B)) (items:=(items++t).drop (k-B)++u) ((items++t++u).length-k) B (d9 _) (by simp at G ⊢;omega)
   rw[ad,<-dW,fh,show k-B+B=k by omega] at hs;unfold zPJ;rw[hs];have:((items++t).drop (k-B)++u).length-B=(items++t++u).length-k:=by simp at G ⊢;omega
   rw[this]
 ·refine⟨o,items++t,k,hw _ ?_,G.2.1,d9 _,Z,H⟩
  unfold xF;have e1:(tsS rules B A (items++t) k).aD.at_=(k:Int):=rfl;have e2:decide (0<(k:Int)-(B:Int))=false:=by simp;omega
  rw[e1,ew,e2,dN]
theorem yIT (G:a<=items.length) (hi:items.length<=100000) (h:TInv rules all out items a):
  ∃o S,xQ (tsS rules B A items a)=some (o,0,S)/\o.length<=16*items.length/\zPJ rules all 0=out++o:=by
 have D:=z2B hr hl hc (B:=B) (A:=A) (A':=1) (d9 1) (by omega) (items:=items) hi G;have H:=zU0 hr (d9 1) (items:=items) (items.length-a) a G;have k:jH (tsS rules B A items a) 1=_:=D;unfold xQ;have e:(false || !(tsS rules B A items a).aO)=false:=rfl;simp only[zN,e,dN,k,zA];refine⟨_,_,rfl,by omega,?_⟩;have:=h [];rw[fm,fm] at this;exact this
end
structure SmR (r:aE):Prop where
 sb:∀s∈r.aR,s.Ranges.length<=12
 sm:∀s∈r.aX,s.Ranges.length<=12
 sa:∀s∈r.bP,s.Ranges.length<=12
 lb:r.aR.length<=10
 lm:r.aX.length<=10
 la:r.bP.length<=10
 lr:r.Result.length<=20
theorem zU1 (l:List Set):∃b,zCE l=some b/\(b=true->l.length<=10/\∀s∈l,s.Ranges.length<=12):=by
 unfold zCE;have h:=kA (body:=λ(x:Int)=>zEF l x) (min l.length 20) (λk=>(nth l k).Ranges.length<=12) (λy=>y=false) (λk H=>by
  have D:k<l.length:=by omega
  have G:decide ((k:Int)<20)=true:=by simp;omega
  simp only[zEF,zN,yY D,G,g9,dO,zW D,zA,zGY,zL (k:=k) (by omega)];exact zAW (by simp only[fG,dS];omega) rfl) (λk H=>by
  have:(decide ((k:Int)<(l.length:Int))&&decide ((k:Int)<20))=false:=by
   simp only[eY,dS];omega
  simp only[zEF,zN,this,dN])
 rcases h with ⟨h,p⟩ | ⟨y,rfl,h,p⟩;rw[h];refine⟨_,rfl,λhb=>?_⟩;have K:l.length<=10:=by simp only[d7] at hb;omega
 rw[jb (by omega)] at p;exact⟨K,(zAP (l:=l) (p:=λs:Set=>s.Ranges.length<=12)).1 p⟩;rw[h];exact⟨false,rfl,λh=>by cases h⟩
theorem yRT (l:List aE):∃b,zIP l=some b/\(b=true->l.length<=6/\∀r∈l,SmR r):=by
 unfold zIP;have h:=kA (body:=λ(x:Int)=>zCX l x) (min l.length 10) (λk=> ∃G H D,zCE (nth l k).aR=some G/\zCE (nth l k).aX=some H/\zCE (nth l k).bP=some D/\G=true/\H=true/\D=true/\(nth l k).Result.length<=20) (λy=>y=false) (λk hk=>by
  have K:k<l.length:=by omega
  have Z:decide ((k:Int)<10)=true:=by simp;omega
  obtain⟨G,h1,_⟩:=zU1 (nth l k).aR;obtain⟨H,h2,_⟩:=zU1 (nth l k).aX;obtain⟨D,h3,_⟩:=zU1 (nth l k).bP;simp only[zCX,zN,yY K,Z,g9,dO,zW K,zA,h1,zL (k:=k) (by omega)];cases G with
  | false=>simp only[eD,dY,zBR,zA,fS,dO];exact .inr ⟨(by rintro⟨T,_,_,q,_,_,e,_⟩;cases q;cases e),false,rfl,rfl⟩
  | true=>
   simp only[dY,eD,vN,zA,h2,fo];cases H with
   | false=>simp only[eD,dY,zBR,zA,fS,dO];exact .inr ⟨(by rintro⟨_,T,_,_,q,_,_,e,_⟩;cases q;cases e),false,rfl,rfl⟩
   | true=>
    simp only[dY,eD,vN,zA,h3,fo];cases D with
    | false=>simp only[eD,dY,zBR,zA,fS,dO];exact .inr ⟨(by rintro⟨_,_,T,_,_,q,_,_,e,_⟩;cases q;cases e),false,rfl,rfl⟩
    | true=>
     simp only[dY,eD,vN,zA,fo];by_cases O:(nth l k).Result.length<=20;have:decide ((20:Int)<((nth l k).Result.length:Int))=false:=by simp;omega
     simp only[this,dN];exact .inl ⟨⟨true,true,true,rfl,rfl,rfl,rfl,rfl,rfl,O⟩,trivial⟩;have:decide ((20:Int)<((nth l k).Result.length:Int))=true:=by simp;omega
     simp only[this,dO];exact .inr ⟨by rintro⟨_,_,_,_,_,_,_,_,_,e⟩;exact O e,false,rfl,rfl⟩) (λk hk=>by
  have:(decide ((k:Int)<(l.length:Int))&&decide ((k:Int)<10))=false:=by
   simp only[eY,dS];omega
  simp only[zCX,zN,this,dN])
 rcases h with ⟨h,p⟩ | ⟨y,rfl,h,p⟩;rw[h];refine⟨_,rfl,λhb=>?_⟩;have hl:l.length<=6:=by simp only[d7] at hb;omega
 rw[jb (by omega)] at p;refine⟨hl,(zAP (l:=l) (p:=SmR)).1 λk hk=>?_⟩;obtain⟨G,H,D,h1,h2,h3,rfl,rfl,rfl,O⟩:=p k hk;obtain⟨T,g1,q1⟩:=zU1 (nth l k).aR;obtain⟨b2,g2,q2⟩:=zU1 (nth l k).aX;obtain⟨b3,g3,q3⟩:=zU1 (nth l k).bP;rw[h1] at g1;rw[h2] at g2;rw[h3] at g3;cases g1;cases g2;cases g3;obtain⟨a1,a2⟩:=q1 rfl;obtain⟨c1,c2⟩:=q2 rfl;obtain⟨d1,d2⟩:=q3 rfl;exact⟨a2,c2,d2,a1,c1,d1,O⟩;rw[h];exact⟨false,rfl,λh=>by cases h⟩
theorem z5A (O:l.length<=1000) (K:∀s∈l,s.Ranges.length<=12):∃b,zE0 l=some b/\(b=true->∀s∈l,Can s.Ranges/\s.Ranges≠[]):=by
 unfold zE0;have h:=kA (body:=λ(x:Int)=>zC9 l x) l.length (λk=>Can (nth l k).Ranges/\(nth l k).Ranges≠[]) (λy=>y=false) (λk D=>by
  obtain⟨b,H,G⟩:=yM5 (s:=nth l k) (K _ (wP D));simp only[zC9,yY D,dO,zW D,zA,H,zN,zL (k:=k) (by omega)];cases b with
  | false=>simp only[eD,dY,zBR,zA,fS,dO];exact .inr ⟨λq=>(by have:=G.2 q.1;cases this),false,rfl,rfl⟩
  | true=>
   simp only[dY,eD,vN,zA,fo];exact zAW (by simp only[d7];rw[Int.natCast_eq_zero,List.length_eq_zero_iff];simp[G.1 rfl]) rfl) (λk D=>by simp only[zC9,kU D,dN])
 rcases h with ⟨h,p⟩ | ⟨y,rfl,h,p⟩;rw[h];exact⟨true,rfl,λ_=>(zAP (l:=l) (p:=λs:Set=>Can s.Ranges/\s.Ranges≠[])).1 p⟩;rw[h];exact⟨false,rfl,λh=>by cases h⟩
def yVO (r:aE) (p:dD):Prop:=(p.bW=0/\vld p.Code=true)\/(p.bW≠0/\p.Code=0/\1<=p.bW/\p.bW<=(r.aX.length:Int))
theorem yS0 {r:aE} (h:SmR r):∃e,zJR r=some e/\(e=0->RS r):=by
 obtain⟨K,g1,q1⟩:=z5A (l:=r.aR) (by have:=h.lb;omega) h.sb
 obtain⟨O,g2,q2⟩:=z5A (l:=r.aX) (by have:=h.lm;omega) h.sm
 obtain⟨T,g3,q3⟩:=z5A (l:=r.bP) (by have:=h.la;omega) h.sa
 have hl:=h.lr;unfold zJR;simp only[zN,g1,zA];cases hb:((((decide ((r.aX.length:Int)<1) ||decide (8<(r.aX.length:Int))) ||decide (8<(r.aR.length:Int))) ||decide (8<(r.bP.length:Int))) ||decide (16<(r.Result.length:Int))) with
 | true=>exact⟨2,rfl,λh=>by cases h⟩
 | false=>
  simp only[fR,dS] at hb;simp only[dN];cases K with
  | false=>simp only[eD,dY,zBR,zA,fS,dO];exact⟨_,rfl,λh=>by cases h⟩
  | true=>
   simp only[dY,eD,vN,zA,g2,fo];cases O with
   | false=>simp only[eD,dY,zBR,zA,fS,dO];exact⟨_,rfl,λh=>by cases h⟩
   | true=>
    simp only[dY,eD,vN,zA,g3,fo];cases T with
    | false=>simp only[eD,dO];exact⟨_,rfl,λh=>by cases h⟩
    | true=>
     simp only[dY,dN];have D:=kA (body:=λ(x:Int)=>zFH r x) r.Result.length (λk=>yVO r (nth r.Result k)) (λy=>y=1) (λk G=>by
      simp only[zFH,yY G,dO,zW G,zA,zN,zG5,zL (k:=k) (by omega)];unfold yVO;by_cases H:(nth r.Result k).bW=0;simp only[H,eH,vN,zA,eV];have Z:decide ((1:Int)<=0)=false:=rfl;simp only[Z,i6,fj,eD,Bool.and_true];cases hv:vld (nth r.Result k).Code with
      | true=>exact .inl ⟨.inl ⟨trivial,rfl⟩,rfl⟩
      | false=>exact .inr ⟨by rintro (⟨_,q⟩ | ⟨q,_⟩);cases q;exact q rfl,1,rfl,rfl⟩
      simp only[H,e6,zBR,zA,fj,eD,eV];exact zAW (by simp only[fG,eY,dS,false_and,false_or,true_and,ne_eq,not_false_eq_true];omega) rfl) (λk G=>by simp only[zFH,kU G,dN])
     rcases D with ⟨D,p⟩ | ⟨y,rfl,D,p⟩;rw[D];exact⟨0,rfl,λ_=>⟨by omega,by omega,by omega,by omega,by omega,h.sb,h.sm,h.sa,q1 rfl,q2 rfl,q3 rfl,(zAP (l:=r.Result) (p:=yVO r)).1 p⟩⟩;rw[D];exact⟨1,rfl,λh=>by cases h⟩
theorem yRU {l:List aE} (hl:l.length<=6) (h:∀r∈l,SmR r):∃e,zIV l=some e/\(e=0->RSs l):=by
 unfold zIV;have O:decide ((200:Int)<(l.length:Int))=false:=by simp;omega
 rw[O,dN];have H:=kA (body:=λ(x:Int)=>zDA l x) l.length (λk=>zJR (nth l k)=some 0) (λy=>y≠0) (λk D=>by
  obtain⟨e,G,_⟩:=yS0 (h _ (wP D));simp only[zDA,yY D,dO,zW D,zA,G,zL (k:=k) (by omega)];by_cases K:e=0;subst K;exact .inl ⟨rfl,rfl⟩;have:(!decide (e=0))=true:=by simp[K]
  rw[this,dO];exact .inr ⟨λq=>K (by injection q),e,K,rfl⟩) (λk D=>by simp only[zDA,kU D,dN])
 rcases H with ⟨H,p⟩ | ⟨y,Z,H,p⟩;rw[H];refine⟨0,rfl,λ_=>(zAP (l:=l) (p:=RS)).1 λk D=>?_⟩;obtain⟨e,G,T⟩:=yS0 (h _ (wP D));rw[p k D] at G;injection G with G;exact T G.symm;rw[H];exact⟨y,rfl,λq=>absurd q Z⟩
theorem yRV {a b c:List Set} (ha:a.length<=100) (hb:b.length<=100) (hc:c.length<=100):xH [a,b,c]=some (a++b++c):=by
 unfold xH;have w1:wi ((0:Int)+(a.length:Int))=(a.length:Int):=by rw[j9 (by omega) (by omega)];omega
 have w2:wi ((a.length:Int)+(b.length:Int))=((a.length+b.length:Nat):Int):=by rw[j9 (by omega) (by omega)];omega
 have w3:wi (((a.length+b.length:Nat):Int)+(c.length:Int))=((a.length+b.length+c.length:Nat):Int):=by rw[j9 (by omega) (by omega)];omega
 have n1:decide ((a.length:Int)<0)=false:=by simp only[dS];omega
 have n2:decide (((a.length+b.length:Nat):Int)<0)=false:=by simp;omega
 have n3:decide (((a.length+b.length+c.length:Nat):Int)<0)=false:=by simp;omega
 have Z:wi (0+1)=1:=rfl;have k2:wi (1+1)=2:=rfl;have k3:wi (2+1)=3:=rfl;have D:decide ((0:Int)<(([a,b,c]:List (List Set)).length:Int))=true:=rfl;have G:decide ((1:Int)<(([a,b,c]:List (List Set)).length:Int))=true:=rfl;have H:decide ((2:Int)<(([a,b,c]:List (List Set)).length:Int))=true:=rfl;have K:decide ((3:Int)<(([a,b,c]:List (List Set)).length:Int))=false:=rfl;have i0:yO [a,b,c] 0=some a:=rfl;have O:yO [a,b,c] 1=some b:=rfl;have T:yO [a,b,c] 2=some c:=rfl;have h:zE (λ(x:Int×Int)=>yT [a,b,c] x.1 x.2) (0,0)=some ((a.length+b.length+c.length:Nat):Int):=by
  rw[zI (x':=((a.length:Int),1)) (by simp only[yT,D,dO,i0,zA,w1,n1,dN,Z])];rw[zI (x':=(((a.length+b.length:Nat):Int),2)) (by simp only[yT,G,dO,O,zA,w2,n2,dN,k2])];rw[zI (x':=(((a.length+b.length+c.length:Nat):Int),3)) (by simp only[yT,H,dO,T,zA,w3,n3,dN,k3])];exact zP (by simp only[yT,K,dN])
 have a1:app ([]:List Set) a=some a:=zFE a (by omega);have a2:app a b=some (a++b):=j7 (by omega);have a3:app (a++b) c=some (a++b++c):=j7 (by simp;omega)
 have k:zE (λ(x:Int×(List Set))=>yU [a,b,c] x.1 x.2) (0,[])=some (a++b++c):=by
  rw[zI (x':=(1,a)) (by simp only[yU,D,dO,i0,zA,a1,Z])];rw[zI (x':=(2,a++b)) (by simp only[yU,G,dO,O,zA,a2,k2])];rw[zI (x':=(3,a++b++c)) (by simp only[yU,H,dO,T,zA,a3,k3])];exact zP (by simp only[yU,K,dN])
 have hg:z61 ((a.length+b.length+c.length:Nat):Int)=some ():=by unfold z61;rw[eG (by omega)]
 rw[h,zA,hg,zA,k,zA]
theorem yCO {r:aE} (h:RS r):zB9 r=some 0:=by
 have m1:=h.m1;have m8:=h.m8;have b8:=h.b8;have a8:=h.a8;have re:=h.re;unfold zB9;have e1:decide ((r.aX.length:Int)<1)=false:=by simp;omega
 have e2:decide ((8:Int)<max (max (r.aR.length:Int) (r.aX.length:Int)) (r.bP.length:Int))=false:=by simp only[dS];omega
 have e3:decide ((16:Int)<(r.Result.length:Int))=false:=by simp;omega
 simp only[zN,e1,e2,e3,je,dN,yRV (show r.aR.length<=100 by omega) (show r.aX.length<=100 by omega) (show r.bP.length<=100 by omega),zA];have K:∀s∈r.aR++r.aX++r.bP,s.Ranges.length<=12/\Can s.Ranges/\s.Ranges≠[]:=λs G=>by
  rcases fk.1 G with G | G;rcases fk.1 G with G | G;exact⟨h.sb s G,h.cb s G⟩;exact⟨h.sm s G,h.cm s G⟩;exact⟨h.sa s G,h.ca s G⟩
 have T:=kA (body:=λ(x:Int)=>vB (r.aR++r.aX++r.bP) x) (r.aR++r.aX++r.bP).length (λk=>True) (λy=>False) (λk D=>by
  obtain⟨g1,g2,g3⟩:=K _ (wP D);obtain⟨b,h1,h2⟩:=z8Q g1;have hb:=h2.2 g2;subst hb;have Z:decide (((nth (r.aR++r.aX++r.bP) k).Ranges.length:Int)=0)=false:=by
   simp only[dS];rw[Int.natCast_eq_zero,List.length_eq_zero_iff];exact g3
  have am:k<=100:=by simp at D;omega
  refine .inl ⟨trivial,?_⟩;simp only[vB,yY D,dO,zW D,zA,h1,zN,dY,Z,je,dN,zL (k:=k) (by omega)]) (λk D=>by simp only[vB,kU D,dN])
 have H:=kA (body:=λ(x:Int)=>vC r x) r.Result.length (λk=>True) (λy=>False) (λk D=>by
  have hp:=h.pc _ (wP D);refine .inl ⟨trivial,?_⟩;simp only[vC,yY D,dO,zW D,zA,zN,zTC,zL (k:=k) (by omega)];rcases hp with ⟨O,hv⟩ | ⟨O,cc,c1,c2⟩
  simp only[O,eH,vN,zA,hv,dY,i6,dN,fj];have q1:decide ((nth r.Result k).bW<1)=false:=by simp only[dS];omega
  have q2:decide ((r.aX.length:Int)<(nth r.Result k).bW)=false:=by simp only[dS];omega
  simp only[O,e6,zBR,zA,fj,dN,cc,eH,dY,q1,q2,je,i6]) (λk D=>by simp only[vC,kU D,dN])
 rcases T with ⟨T,_⟩ | ⟨y,hy,_⟩;rcases H with ⟨H,_⟩ | ⟨y,hy,_⟩;rw[T,zA];simp only[fw];rw[H,zA];rfl;exact hy.elim;exact hy.elim
theorem zMW {l:List aE} (O:l.length<=200) (h:RSs l):zAR l=some 0:=by
 unfold zAR;have H:decide ((200:Int)<(l.length:Int))=false:=by simp;omega
 rw[H,dN];have G:=kA (body:=λ(x:Int)=>uK l x) l.length (λk=>True) (λy=>False) (λk D=>by
  refine .inl ⟨trivial,?_⟩;simp only[uK,yY D,dO,zW D,zA,yCO (h _ (wP D)),zL (k:=k) (by omega)];rfl) (λk D=>by simp only[uK,kU D,dN])
 rcases G with ⟨G,_⟩ | ⟨y,K,_⟩;rw[G];rfl;exact K.elim
def rcB (l:List aE) (b:Nat):Nat:=l.foldl (λb r=>max b r.aR.length) b
def rcA (l:List aE) (b:Nat):Nat:=l.foldl (λb r=>max b (u6 r).length) b
theorem yN3:∀(l:List aE) (b:Nat),b<=rcB l b/\∀r∈l,r.aR.length<=rcB l b
 | [],b=>⟨d9 b,λr h=>by cases h⟩
 | x::l,b=>by
  obtain⟨k,D⟩:=yN3 l (max b x.aR.length);refine⟨fA (Nat.le_max_left _ _) k,λr h=>?_⟩;rcases eP.1 h with rfl | h;exact fA (Nat.le_max_right _ _) k;exact D r h
theorem yN4:∀(l:List aE) (b:Nat),b<=rcA l b/\∀r∈l,(u6 r).length<=rcA l b
 | [],b=>⟨d9 b,λr h=>by cases h⟩
 | x::l,b=>by
  obtain⟨k,D⟩:=yN4 l (max b (u6 x).length);refine⟨fA (Nat.le_max_left _ _) k,λr h=>?_⟩;rcases eP.1 h with rfl | h;exact fA (Nat.le_max_right _ _) k;exact D r h
theorem yN5:∀(l:List aE),RSs l->∀b,b<=8->rcB l b<=8
 | [],_,b,hb=>hb
 | x::l,h,b,hb=>yN5 l (λr k=>h r (by simp[k])) _ (Nat.max_le.2 ⟨hb,(h x (by simp)).b8⟩)
theorem yN6:∀(l:List aE),RSs l->∀b,b<=16->rcA l b<=16
 | [],_,b,hb=>hb
 | x::l,h,b,hb=>yN6 l (λr k=>h r (by simp[k])) _ (Nat.max_le.2 ⟨hb,(h x (by simp)).len⟩)
section
variable (hr:RSs rules) (hl:rules.length<=200)
include hr hl
theorem yCP {t:aW} (D:t.rules=rules):∀(m i b a:Nat),rules.length-i=m->i<=rules.length->
  zE (λ(x:Int×Int×Int)=>w8 t x.1 x.2.1 x.2.2) ((b:Int),(a:Int),(i:Int))=some (((rcB (rules.drop i) b:Nat):Int),((rcA (rules.drop i) a:Nat):Int)):=by
 intro m
 induction m with
 | zero=>
  intro i b a O T;rw[yQ,eJ (by omega)];simp only[w8,D,kU (show rules.length<=i by omega),dN];rfl
 | succ m ih=>
  intro i b a O T;have hi:i<rules.length:=by omega
  have Z:=hr _ (fI hi);have h:=Z.len;have G:max (b:Int) (rules[i].aR.length:Int)=((max b rules[i].aR.length:Nat):Int):=by omega
  have H:wi ((rules[i].aX.length:Int)+(rules[i].bP.length:Int))=(((u6 rules[i]).length:Nat):Int):=by
   have e:(u6 rules[i]).length=rules[i].aX.length+rules[i].bP.length:=by unfold u6;simp
   rw[e] at h ⊢;rw[j9 (by omega) (by omega)];omega
  have K:max (a:Int) (((u6 rules[i]).length:Nat):Int)=((max a (u6 rules[i]).length:Nat):Int):=by omega
  rw[zI (x':=(((max b rules[i].aR.length:Nat):Int),((max a (u6 rules[i]).length:Nat):Int),((i+1:Nat):Int))) (by
   simp only[w8,D,yY hi,dO,z8 hi,zA,G,H,K,zL (k:=i) (by omega)])]
  rw[ih (i+1) _ _ (by omega) (by omega),eA hi];rfl
theorem yN7:zD6 rules=some (((rcB rules 0:Nat):Int),((rcA rules 0:Nat):Int)):=by unfold zD6;rw[zY2 hl (zMW hl hr),zA];have h:=yCP hr hl (t:=trT rules [] [zMV rules.length]) rfl rules.length 0 0 0 (by omega) (by omega);rw[e9] at h;have k:zE (λ(x:Int×Int×Int)=>w8 (trT rules [] [zMV rules.length]) x.1 x.2.1 x.2.2) (0,0,0)=_:=h;rw[k,zA]
omit hr hl in
theorem yCQ (hl:l.length<=1000) (H:∀s∈l,s.Ranges.length<=12):∀(m i:Nat),l.length-i=m->i<=l.length->zE (λ(x:Int×(List Set))=>xT l x.1 x.2) ((i:Int),l)=some l:=by
 intro m
 induction m with
 | zero=>
  intro i h D;rw[yQ];simp only[xT,kU (show l.length<=i by omega),dN]
 | succ m K=>
  intro i h D;have hi:i<l.length:=by omega
  have G:yS l[i].Ranges=some l[i].Ranges:=zFE _ (by have:=H _ (fI hi);omega)
  rw[zI (x':=(((i+1:Nat):Int),l)) (by
   simp only[xT,yY hi,dO,z8 hi,zA,G,zL (k:=i) (by omega)];show ((zCV l (i:Int) l[i]).bind _)=_;rw[z17 hi];rfl)]
  exact K (i+1) (by omega) (by omega)
omit hr hl in
theorem zY5 (hl:l.length<=1000) (D:∀s∈l,s.Ranges.length<=12):w6 l=some l:=by unfold w6;have h:=yCQ hl D l.length 0 (by omega) (by omega);have k:zE (λ(x:Int×(List Set))=>xT l x.1 x.2) (0,l)=some l:=h;rw[show wX l=some l from zFE _ (by omega),zA,k,zA]
theorem yIU:∀(m i:Nat),rules.length-i=m->i<=rules.length->zE (λ(x:Int×(List aE))=>w9 rules x.1 x.2) ((i:Int),rules.take i)=some rules:=by
 intro m
 induction m with
 | zero=>
  intro i T Z;rw[yQ];simp only[w9,kU (show rules.length<=i by omega),dN];rw[gS (by omega)]
 | succ m ih=>
  intro i T Z;have hi:i<rules.length:=by omega
  have h:=hr _ (fI hi);have D:=zY5 (l:=rules[i].aR) (by have:=h.b8;omega) h.sb
  have G:=zY5 (l:=rules[i].aX) (by have:=h.m8;omega) h.sm
  have H:=zY5 (l:=rules[i].bP) (by have:=h.a8;omega) h.sa
  have K:xX rules[i].Result=some rules[i].Result:=zFE _ (by have:=h.re;omega)
  have O:app (rules.take i) [rules[i]]=some (rules.take (i+1)):=by
   rw[j7 (by simp;omega),iA,dT hi]
   rfl
  rw[zI (x':=(((i+1:Nat):Int),rules.take (i+1))) (by
   simp only[w9,yY hi,dO,z8 hi,zA,D,G,H,K,zL (k:=i) (by omega)];show ((app (rules.take i) [rules[i]]).bind _)=_;rw[O,zA])]
  exact ih (i+1) (by omega) (by omega)
theorem yRW:∃B A,RcT rules B A/\zD7 rules=some (tsS rules B A [] 0,0):=by
 refine⟨rcB rules 0,max (rcA rules 0) 1,⟨yN5 rules hr 0 (by omega),Nat.le_max_right _ _,Nat.max_le.2 ⟨yN6 rules hr 0 (by omega),by omega⟩,λi=>?_,λi=>?_⟩,?_⟩;by_cases h:i.toNat<rules.length;exact(yN3 rules 0).2 _ (zID h);have:ruA rules i=default:=by unfold ruA nth;rw[eT,fN (by omega)];rfl
 rw[this];exact g5 _;by_cases h:i.toNat<rules.length;exact fA ((yN4 rules 0).2 _ (zID h)) (Nat.le_max_left _ _);have:ruA rules i=default:=by unfold ruA nth;rw[eT,fN (by omega)];rfl
 rw[this];exact g5 _;unfold zD7;have k:(!decide ((0:Int)=0))=false:=rfl;have h:=yIU hr hl rules.length 0 (by omega) (by omega);rw[iT] at h;have G:zE (λ(x:Int×(List aE))=>w9 rules x.1 x.2) (0,[])=some rules:=h;rw[zMW hl hr,zA,k,dN,G,zA,yN7 hr hl,zA];have D:max (((rcA rules 0:Nat)):Int) 1=((max (rcA rules 0) 1:Nat):Int):=by omega
 simp only[D];rfl
end
theorem yN8 {cl:Int->Int} {m:List (bD×Int)}:∀(l:LI) (st:Int×Int×LI),st.1<(st.2.2.length:Int)->(l.foldl (cmS cl m) st).2.2.length<=st.2.2.length+l.length
 | [],st,_=>by simp
 | x::l,st,h=>by
  have k:=z43 (cl:=cl) (m:=m) (st:=st) (x:=x) h;have:=yN8 (cl:=cl) (m:=m) l _ k.1;rw[gG,eF];omega
theorem zWV (H:NSm n) (h:uV n) (f:Int) (t:LI):(foE n f t).length<=64*t.length:=by
 have k:=λb=>zQB H h b t;have D:=λb=>zYI n b t;have G:∀u:LI,(cpE n u).length<=u.length:=λu=>by
  have:=yN8 (cl:=clE n.aI) (m:=zKV n) u (-1,0,[]) (by simp);unfold cpE cmT;simpa using this
 have K:=k false;have O:=k true;have T:=D false;have Z:=D true;have c1:=G (u5 n false t);have c2:=G (u5 n true t);unfold foE;split;omega;split;omega;split<;>omega
theorem z9N {cuts:LI} (hc:∀c∈cuts,0<=c/\c<=255) (hl:cuts.length<=1000):∀(m i:Nat) (s:Str) (h:List Str),cuts.length-i=m->i<=cuts.length->s.length<=1000->h.length<=i->
  ∃G D,zE (λ(x:Str×Int×(List Str))=>zCM cuts x.1 x.2.1 x.2.2) (s,(i:Int),h)=some (G,D)/\D.flatten++G=h.flatten++s/\D.length<=cuts.length:=by
 intro m
 induction m with
 | zero=>
  intro i s h h1 h2 h3 h4;refine⟨s,h,?_,rfl,by omega⟩;rw[yQ];simp only[zCM,kU (show cuts.length<=i by omega),dN]
 | succ m ih=>
  intro i s h h1 h2 h3 h4;have hi:i<cuts.length:=by omega
  have aj:=hc _ (fI hi);obtain⟨c,H⟩:∃c:Nat,cuts[i]=c:=⟨cuts[i].toNat,by omega⟩;have O:zKY (wi cuts[i]) (wi ((s.length:Int)+1))=some ((c%(s.length+1):Nat):Int):=by
   rw[j9 (by omega) (by omega),j9 (by omega) (by omega),H];unfold zKY;rw[dU (by omega),show ((s.length:Int)+1)=((s.length+1:Nat):Int) by omega];rfl
  have K:c%(s.length+1)<=s.length:=by have:=Nat.mod_lt c (show 0<s.length+1 by omega);omega
  have T:app h [s.take (c%(s.length+1))]=some (h++ [s.take (c%(s.length+1))]):=j7 (by simp;omega)
  rw[zI (x':=(s.drop (c%(s.length+1)),((i+1:Nat):Int),h++ [s.take (c%(s.length+1))])) (by
   simp only[zCM,yY hi,dO,z8 hi,zA,O,zYA K,T,zHK K,zL (k:=i) (by omega)])]
  obtain⟨G,D,Z,g2,g3⟩:=ih (i+1) (s.drop (c%(s.length+1))) (h++ [s.take (c%(s.length+1))]) (by omega) (by omega) (by simp;omega) (by simp;omega)
  refine⟨G,D,Z,?_,g3⟩;rw[g2];simp
theorem yIV {s:Str} (Z:s.length<=40) {cuts:LI} (K:∀c∈cuts,0<=c/\c<=255) (T:cuts.length<=6):∃ps,zKE s cuts=some ps/\ps.flatten=s/\ps.length<=7:=by
 obtain⟨G,h,H,D,O⟩:=z9N K (by omega) cuts.length 0 s [] (by omega) (by omega) (by omega) (by simp);have k:zE (λ(x:Str×Int×(List Str))=>zCM cuts x.1 x.2.1 x.2.2) (s,0,[])=some (G,h):=H;refine⟨h++ [G],?_,?_,by simp;omega⟩
 unfold zKE;rw[k,zA];simp only;rw[j7 (by simp;omega),zA]
 rw[List.flatten_append];simp at D ⊢;exact D
theorem yVP {c:Int} (h:scI c):vld c=true:=by obtain⟨k,rfl,D,_⟩:=h;unfold vld;simp;omega
section
variable (hs:NSm n) (hok:uV n) (hv:VD0 n) (hr:RSs rules) (hl:rules.length<=200) {f:Int} (f1:1<=f) (f4:f<=4) (hR:RcT rules B A)
include hs hok hv hr hl f1 f4 hR
structure FI (n:Norm) (f:Int) (rules:List aE) (all p items:LI) (a:Nat) (out:LI):Prop where
 ex:∃mid,NInv n f all mid p/\TInv rules mid out items a/\items.length<=mid.length
 lp:p.length<=all.length
 la:a<=items.length
omit hv hl f1 f4 hR in
theorem FI.bd (h:FI n f rules all p items a out):items.length<=64*all.length/\out.length<=1024*all.length:=by
 obtain⟨k,H,K,Z⟩:=h.ex;have D:=H [];have G:=K [];simp only[fm] at D G;have O:=zWV hs hok f all;rw[D,d8] at O;have T:(zPJ rules k 0).length<=16*k.length:=by
  have:=zU0 hr (d9 1) (items:=k) (k.length-0) 0 (by omega);unfold zPJ;omega
 rw[G,d8] at T;omega
abbrev flS (C:aJ) (n:Norm) (f:Int) (rules:List aE) (B A:Nat) (p items:LI) (a:Nat) (out:LI):aZ:={bytes:=C,b4:=nsS n f p,rules:=tsS rules B A items a,out:=out}
theorem z9O (C:aJ) (h:FI n f rules all p items a out) {l:LI} (O:(all++l).length<=40) (H:∀c∈l,scI c):
  ∃p' D K G,zAZ (flS C n f rules B A p items a out) (zBM l)=some (true,flS C n f rules B A p' D K G)/\FI n f rules (all++l) p' D K G:=by
 have T:=zMW hl hr;have aa:all.length+l.length<=40:=by simpa using O
 have ag:=h.bd hs hok hr;obtain⟨⟨Z,i1,i2,i3⟩,lp,la⟩:=h;obtain⟨k,k1,k2,k3⟩:=yIO hs hok hv f1 f4 (p:=p) (t:=l) (by simp;omega) (λc T=>yVP (H c T))
 have n1:=yCH hs hok hv f1 f4 i1 k3;have lm:=n1 [];simp only[fm] at lm;have lf:=zWV hs hok f (all++l);rw[lm,d8,d8] at lf;obtain⟨o,D,K,w1,w2,w3,w4,w5⟩:=z2C hr hl T hR (t:=foE n f ((p++l).take k)) la (by simp;omega) i2
 have aq:D.length<=items.length+(foE n f ((p++l).take k)).length:=by simpa using w3
 have au:o.length+16*a<=16*(items.length+(foE n f ((p++l).take k)).length):=by simpa using w4
 refine⟨(p++l).drop k,D,K,out++o,?_,⟨⟨Z++foE n f ((p++l).take k),n1,w5,by simp;omega⟩,by simp;omega,w2⟩⟩
 unfold zAZ;rw[yNE (by omega) H,zA];show ((xE (nsS n f p) l).bind _)=_;rw[k2,zA];show ((kT (tsS rules B A items a) (foE n f ((p++l).take k))).bind _)=_;rw[w1,zA];show ((app out o).bind _)=_;rw[j7 (by omega),zA];rfl
theorem yIW {rest:Str} {d:Int} (H:rest.length<=1000) (h:FI n f rules all p items a out) (O:(all++zDM rest).length<=40):
  ∃S,zDJ (flS (csU rest d) n f rules B A p items a out)=some (true,S)/\S.out=zPJ rules (foE n f (all++zDM rest)) 0:=by
 have hc:=zMW hl hr;obtain⟨C,hC⟩:=yIG (s:=rest) (d:=d) H;obtain⟨K,k,T,G,h1,h2⟩:=z9O hs hok hv hr hl f1 f4 hR C h (l:=zDM rest) O z42;have aj:=h2.bd hs hok hr;obtain⟨⟨ao,i1,i2,i3⟩,lp,la⟩:=h2;obtain⟨S1,s1⟩:=yIP hs hok hv f1 f4 (p:=K) (by omega);have lf:=zWV hs hok f K;obtain⟨o,D,a2,w1,w2,w3,w4,w5⟩:=z2C hr hl hc hR (t:=foE n f K) la (by simp;omega) i2
 have ax:D.length<=k.length+(foE n f K).length:=by simpa using w3
 have az:o.length+16*T<=16*(k.length+(foE n f K).length):=by simpa using w4
 obtain⟨o2,S2,c1,c2,Z⟩:=yIT hr hl hc (B:=B) (A:=A) w2 (by omega) w5;have e1:=i1 [];simp only[fm] at e1;rw[<-e1] at Z;unfold zDJ;show ∃S,((wD (csU rest d)).bind _)=_/\_;rw[hC,zA];show ∃S,((pv (!decide ((0:Int)=0))).bind _)=_/\_;have hg:z7D (!decide ((0:Int)=0)) false=some ():=rfl;rw[zN,hg,zA];show ∃S,((zAZ (flS C n f rules B A p items a out) (zBM (zDM rest))).bind _)=_/\_;rw[h1,zA];show ∃S,((wE (nsS n f K)).bind _)=_/\_;rw[s1,zA];show ∃S,((kT (tsS rules B A k T) (foE n f K)).bind _)=_/\_;rw[w1,zA];show ∃S,((app G o).bind _)=_/\_;rw[j7 (by omega),zA];show ∃S,((xQ (tsS rules B A D a2)).bind _)=_/\_;rw[c1,zA];show ∃S,((app (G++o) o2).bind _)=_/\_;rw[j7 (by simp;omega),zA]
 exact⟨_,rfl,Z.symm⟩
end
abbrev TpX:Type:=Int×Str×Int×Bool×Int×LI×Int×LI×Int×(List bL)×(List aG)×(List Range)×Int×Bool×Int×(List aE)×Int×Int×Bool×LI×LI×LI
abbrev TpY:Type:=Str×Int×Bool×Int×LI×Int×LI×Int×(List bL)×(List aG)×(List Range)×Int×Bool×Int×(List aE)×Int×Int×Bool×LI×LI×LI
noncomputable abbrev tpL (ps:List Str):=λ(x:TpX)=>zAN ps x.1 x.2.1 x.2.2.1 x.2.2.2.1 x.2.2.2.2.1 x.2.2.2.2.2.1 x.2.2.2.2.2.2.1 x.2.2.2.2.2.2.2.1 x.2.2.2.2.2.2.2.2.1 x.2.2.2.2.2.2.2.2.2.1 x.2.2.2.2.2.2.2.2.2.2.1 x.2.2.2.2.2.2.2.2.2.2.2.1 x.2.2.2.2.2.2.2.2.2.2.2.2.1 x.2.2.2.2.2.2.2.2.2.2.2.2.2.1 x.2.2.2.2.2.2.2.2.2.2.2.2.2.2.1 x.2.2.2.2.2.2.2.2.2.2.2.2.2.2.2.1 x.2.2.2.2.2.2.2.2.2.2.2.2.2.2.2.2.1 x.2.2.2.2.2.2.2.2.2.2.2.2.2.2.2.2.2.1 x.2.2.2.2.2.2.2.2.2.2.2.2.2.2.2.2.2.2.1 x.2.2.2.2.2.2.2.2.2.2.2.2.2.2.2.2.2.2.2.1 x.2.2.2.2.2.2.2.2.2.2.2.2.2.2.2.2.2.2.2.2.1 x.2.2.2.2.2.2.2.2.2.2.2.2.2.2.2.2.2.2.2.2.2
abbrev edX (n:Norm) (f:Int) (rules:List aE) (B A:Nat) (rest:Str) (d:Int) (p items:LI) (a:Nat) (out:LI):TpY:=(rest,d,true,1,[],1,[],2,n.aI,n.aA,n.aL.Ranges,f,true,(a:Int),rules,(B:Int),(A:Int),true,p,items,out)
abbrev stX (n:Norm) (f:Int) (rules:List aE) (B A:Nat) (i:Int) (rest:Str) (d:Int) (p items:LI) (a:Nat) (out:LI):TpX:=(i,edX n f rules B A rest d p items a out)
section
variable (hs:NSm n) (hok:uV n) (hv:VD0 n) (hr:RSs rules) (hl:rules.length<=200) {f:Int} (f1:1<=f) (f4:f<=4) (hR:RcT rules B A)
include hs hok hv hr hl f1 f4 hR
theorem yIX {ps:List Str} (aa:ps.flatten.length<=40) (ax:ps.length<=7):∀(m i:Nat) (rest:Str) (d:Int) (all p items:LI) (a:Nat) (out:LI),ps.length-i=m->i<=ps.length->FI n f rules all p items a out->(∀t,zDM ((ps.take i).flatten++t)=all++zDM (rest++t))->rest.length<=(ps.take i).flatten.length->
  ∃D Z K p' h a' G,zE (tpL ps) (stX n f rules B A (i:Int) rest d p items a out)=some (edX n f rules B A D Z p' h a' G)/\FI n f rules K p' h a' G/\zDM ps.flatten=K++zDM D/\D.length<=40:=by
 intro m
 induction m with
 | zero=>
  intro i rest d all p items a out h1 h2 h3 h4 h5;have e:ps.take i=ps:=gS (by omega);rw[e] at h4 h5;refine⟨rest,d,all,p,items,a,out,zP ?_,h3,?_,by omega⟩
  ·simp only[tpL,stX,edX,zAN,kU (show ps.length<=i by omega),dN]
  ·have:=h4 []
   simpa using this
 | succ m ih=>
  intro i rest d all p items a out h1 h2 h3 h4 h5;have hi:i<ps.length:=by omega
  have eW:(ps.take (i+1)).flatten=(ps.take i).flatten++ps[i]:=by rw[iA,dT hi,List.flatten_append];simp
  have au:(ps.take i).flatten.length+ps[i].length<=40:=by
   have:ps.flatten=(ps.take (i+1)).flatten++(ps.drop (i+1)).flatten:=by rw[<-List.flatten_append,fh]
   rw[this,eW] at aa;simp only[d8] at aa;omega
  have aj:(rest++ps[i]).length<=1000:=by simp only[d8];omega
  obtain⟨Z,hw⟩:=yIF (s:=rest) (t:=ps[i]) (d:=d) aj;have hU:∀t,zDM ((ps.take (i+1)).flatten++t)=(all++zDM ((rest++ps[i]).take (zKU (rest++ps[i]))))++zDM ((rest++ps[i]).drop (zKU (rest++ps[i]))++t):=λt=>by
   rw[eW,dW,h4,<-dW rest,yES _ _ t (d9 _),dW]
  have ai:(all++zDM ((rest++ps[i]).take (zKU (rest++ps[i])))).length<=40:=by
   have e:=hU [];have l:=zYO (ps.take (i+1)).flatten;simp only[fm] at e;rw[e,d8,eW] at l;simp only[d8] at l ⊢;omega
  obtain⟨p',h,a',G,g1,g2⟩:=z9O hs hok hv hr hl f1 f4 hR (csU ((rest++ps[i]).drop (zKU (rest++ps[i]))) Z) h3 ai z42;obtain⟨O,d2,T,p2,H,a2,yTH,k1,k2,k3,k4⟩:=ih (i+1) ((rest++ps[i]).drop (zKU (rest++ps[i]))) Z _ p' h a' G (by omega) (by omega) g2 hU (by rw[eW];simp only[fD,d8];omega)
  refine⟨O,d2,T,p2,H,a2,yTH,?_,k2,k3,k4⟩;rw[<-k1];refine zI ?_;simp only[tpL,stX,edX,zAN,yY hi,dO,z8 hi,zA];show ((wC (csU rest d) ps[i]).bind _)=_;rw[hw,zA];show ((pv (!decide ((0:Int)=0))).bind _)=_;have hg:z7D (!decide ((0:Int)=0)) false=some ():=rfl;rw[zN,hg,zA];show ((zAZ (flS (csU ((rest++ps[i]).drop (zKU (rest++ps[i]))) Z) n f rules B A p items a out) (zBM (zDM ((rest++ps[i]).take (zKU (rest++ps[i])))))).bind _)=_;rw[g1,zA];have e:(false || !true)=false:=rfl;simp only[e,dN,zL (k:=i) (show i+1<=9223372036854775807 by omega)];rfl
end
theorem top_TopStreams_true (x:cE) (ok:zHW x):zHF x=some true:=by
 obtain⟨h,bt,bu,br,ax⟩:=ok;obtain⟨b1,h1,p1⟩:=yQO x.Norm;unfold zHF;rw[h1,zA,zN];have k:=yIR;cases b1 with
 | false=>simp only[eD,dY,zBR,zA,zN,fS,dO,k]
 | true=>
  have H:=p1 rfl;obtain⟨b2,h2,p2⟩:=yRT x.cV;simp only[dY,eD,vN,h2,zA,zN,fo];cases b2 with
  | false=>simp only[eD,dY,zBR,zA,zN,fS,dO,k]
  | true=>
   obtain⟨ar,au⟩:=p2 rfl;obtain⟨e1,h3,p3⟩:=yU9 H h;simp only[dY,eD,vN,h3,zA,zN,fo];by_cases c1:e1=0;have hv:=p3 c1;obtain⟨e2,h4,p4⟩:=yRU ar au;have d1:(!decide (e1=0))=false:=by simp[c1]
   simp only[d1,eD,vN,h4,zA,zN,fo];by_cases c2:e2=0;have G:=p4 c2;have d2:(!decide (e2=0))=false:=by simp[c2]
   simp only[d2,fo];by_cases c3:x.cN.length<=40;have D:decide ((40:Int)<(x.cN.length:Int))=false:=by simp;omega
   by_cases c4:x.dE.length<=6;have K:decide ((6:Int)<(x.dE.length:Int))=false:=by simp;omega
   by_cases T:1<=x.cS;have d5:decide (x.cS<1)=false:=by simp;omega
   by_cases Z:x.cS<=4;have d6:decide ((4:Int)<x.cS)=false:=by simp;omega
   simp only[D,K,d5,d6,je,dN];show ((zE4 e8U e8U 2).bind _)=_;obtain⟨B,A,hR,ht⟩:=yRW G (by omega);rw[yVE,zA,yRO H h hv T Z,zA,ht,zA];have e0:(((((!decide ((0:Int)=0) || !decide ((0:Int)=0)) || !decide ((0:Int)=0)) ||false) ||false) ||false)=false:=rfl;show (cond (((((!decide ((0:Int)=0) || !decide ((0:Int)=0)) || !decide ((0:Int)=0)) ||false) ||false) ||false) (none:Option Bool) _)=_;rw[e0,dN];obtain⟨ps,ap,O,aq⟩:=yIV c3 (cuts:=x.dE) (λc hc=>by have:=ax.2 c hc;omega) c4
   rw[ap,zA];have an:FI x.Norm x.cS x.cV [] [] [] 0 []:=⟨⟨[],yXV _,yXX,by simp⟩,by simp,by simp⟩;obtain⟨rest,d,all,p,items,a,out,k1,k2,k3,k4⟩:=yIX H h hv G (by omega) T Z hR (ps:=ps) (by rw[O];exact c3) aq ps.length 0 [] 0 [] [] [] 0 [] (by omega) (by omega) an (λt=>rfl) (by simp)
   show ((zE (tpL ps) (stX x.Norm x.cS x.cV B A ((0:Nat):Int) [] 0 [] [] 0 [])).bind _)=_;rw[k1,zA];rw[O] at k3;have bm:=zYO x.cN;obtain⟨S,s1,s2⟩:=yIW H h hv G (by omega) T Z hR (rest:=rest) (d:=d) (by omega) k2 (by rw[<-k3];omega)
   show ((zDJ (flS (csU rest d) x.Norm x.cS x.cV B A p items a out)).bind _)=_;rw[s1,zA];have ak:(!true)=false:=rfl;simp only[ak,dN];rw[yCD (by omega),zA];have hg:z7D true true=some ():=rfl;have lf:=zWV H h x.cS (zDM x.cN);simp only[eq_self,eH,vN,zYV H h hv T Z (t:=zDM x.cN) (by omega),zA,yN2 G (by omega) (zMW (by omega) G) (text:=foE x.Norm x.cS (zDM x.cN)) (by omega),hg,s2,<-k3];have ba:=zU0 G (d9 1) (items:=foE x.Norm x.cS (zDM x.cN)) ((foE x.Norm x.cS (zDM x.cN)).length-0) 0 (by omega);have bb:(zPJ x.cV (foE x.Norm x.cS (zDM x.cN)) 0).length<=1000000:=by unfold zPJ;omega
   have ao:zG3 (zPJ x.cV (foE x.Norm x.cS (zDM x.cN)) 0) (zPJ x.cV (foE x.Norm x.cS (zDM x.cN)) 0)=some true:=by
    unfold zG3;rw[z8J (by omega),zA,decide_eq_true rfl]
   rw[ao,zA];have am:(true&&true)=true:=rfl;simp only[am,vN,k,zA];have d6:decide ((4:Int)<x.cS)=true:=by simp;omega
   simp only[D,K,d5,d6,Bool.or_true,dO,k,zA];have d5:decide (x.cS<1)=true:=by simp;omega
   simp only[D,K,d5,Bool.or_true,fS,dO,k,zA];have K:decide ((6:Int)<(x.dE.length:Int))=true:=by simp;omega
   simp only[D,K,Bool.or_true,fS,dO,k,zA];have D:decide ((40:Int)<(x.cN.length:Int))=true:=by simp;omega
   simp only[D,fS,dO,k,zA];have d2:(!decide (e2=0))=true:=by simp[c2]
   simp only[d2,fS,dO,k,zA];have d1:(!decide (e1=0))=true:=by simp[c1]
   simp only[d1,dY,zBR,zA,zN,fS,dO,k]
end Go.M


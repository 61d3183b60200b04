/- The layer of abstract values: what a temporary holds, said once; every rule of it is proved from the model. Conditions: none. -/
import Derived.Test.YtjnpmmedmedokaaGreatDoorLa2
import Derived.Maps.RangeRun
import Derived.Sort.Grow
import Derived.Sort.EncStr
import Derived.Lib.SlicesCompact
import Derived.Lib.ItoaLen
set_option linter.unusedSimpArgs false
set_option linter.unusedVariables false
set_option linter.unnecessarySimpa false
namespace Go.AV
open Go.RowKit Go.M
section
variable {P:Program} {r:Option Nat} {E:Env} {S:AState} {d:Nat} {ty:TypeId} {pos:String} {af:Array Edge} {g:Option (Nat×Bool)}
theorem z3V {t e:TypeId} {n es id:Nat} {zs:List Value} {x:Operand} {D:IntKind} (k:Nat) (O:d<E.n) (K:ArTy P t n es e zs) (hx:S.ev x= .ptr id 0) (hk:k<n):
  AOp P r E S ⟨some d,.slice t x (some (.const (.int D k))) none none,ty,pos,af,g⟩ d (.rs id (k*es) (n-k)):=
 ⟨rfl,O,λS' Z=>z7 rfl O (by simp) λA w I ρ C hs=>by
  have h:=hs.ev x;rw[(Z.ev (x:=x) (by simp[Op.operands])).trans hx] at h;obtain⟨b,T,Y⟩:=h;refine⟨_,?_,some ⟨b,k*es,none⟩,n-k,rfl,dC _,λ_=>⟨b,T,rfl⟩⟩;have H:n≠k:=by omega
  have hb:(Instr.sliceBounds false n n (some (.int D k)) none none).run P w= .ok (k,n,n) w:=by
   simp[Instr.sliceBounds,wG (P:=P) w D k n _ (by omega)]
  have hc:A.eval (.const (.int D k))= .int D k:=rfl;simp only[execOp,Instr.sliceAt,cQ,dJ K.und,cV,Y,e6,gv,hc,Instr.sureAddr,dT,hb,K.size,H,cY,zAC,em]⟩
def yJ5 (cells:List AV) (off:Nat) (news:List AV):List AV:=cells.take off++news++cells.drop (off+news.length)
theorem z63 {t e bytes:Nat} {z:Value} {x y:Operand} {id eb off K m:Nat} {cells:List AV} {news:List DV} (hn:d<E.n) (hT:SlTy P t e 1 bytes z) (hx:S.ev x= .rs id off K) (hb:S.blk id= .box eb cells) (bi:off+K<=cells.length) (hp:0<K)
  (hy:S.ev y= .d (.sl 1 news)) (ai:news.length=m) (hE:E.wrB=true):
  jQ P r E ⟨some d,.call {callee:= .builtin .copy,args:= #[x,y],argTypes:= #[t,t]},ty,pos,af,g⟩ S ((S.setBlk id (.box eb (yJ5 cells off ((news.take (min m K)).map AV.d)))).put d (.d (.v (.int .i64 (min m K:Nat))))):=
 zAQ (by simp) λA w I ρ C hs=>by
  have h1:=hs.ev x;rw[hx] at h1;obtain⟨D,c1,hv,_,ag⟩:=h1;obtain⟨b,ab,rfl⟩:=ag hp;have h2:=hs.ev y;rw[hy] at h2;obtain⟨B,H,c2,ys,bc,_,aj,al,ax,ba⟩:=Rep.sl_inv h2;have bb:H=m:=by rw[<-ai,aj];omega
  subst bb;have ah:=hs.blks id;rw[hb] at ah;obtain⟨O,arr,Y,hB,hh,ad,ak,hI⟩:=ah;have ay:O=b:=by rw[Y] at ab;simpa[blockOf] using ab
  subst ay;have bo:arr.size=cells.length:=by rw[<-eN,ak.1]
  have bd:ys.length=H:=by rw[al.1,ai]
  have k:=λ(ac:Array Value)=>vX (w:=w) (I:=I) (b:=O) (arr:=ac) hI
  let zs:=ys.take (min H K)
  have aq:zs.length=min H K:=by simp only[zs,dZ,bd];omega
  have ap:∀u∈zs,u.oneCell'=true:=λu hu=>ax u (eD hu);have ao:=run_storeCells_at P O off eb zs 0 arr w hh (by omega) ap;simp only[fE] at ao;have an:=hs.modify (zCL w O (arr.toList.take off++zs++arr.toList.drop (off+zs.length)).toArray) (by rw[hb];simp) ab (k _) (x:= .box eb (yJ5 cells off ((news.take (min H K)).map AV.d)))
   ⟨O,_,Y,hB,iu w O arr _ eb _ hh,by
    intro v hv';simp only[eK] at hv';rcases hv' with (hv' | hv') | hv'
    ·exact ad v (eD hv')
    ·exact ap v hv'
    ·exact ad v (eP hv'),by
    have T:=ak.imp λ_ _ h=>Holds.mono h (k (arr.toList.take off++zs++arr.toList.drop (off+zs.length)).toArray) (λ_ _ h=>h);have am:Pw (Holds (w.setRow O (arr.toList.take off++zs++arr.toList.drop (off+zs.length)).toArray) I ρ) zs ((news.take (min H K)).map AV.d):=
     yOB (Reps.mono (al.take _) (k _) (λ_ _ h=>h))
    unfold yJ5;rw[<-am.1];exact Pw.append (Pw.append (T.take off) am) (T.drop _),hI⟩ hE
  have aa:(Builtin.firstCells 1 (min H K) (.slice B H c2)).run P w= .ok zs.toArray w:=by
   by_cases h0:H=0
   ·subst h0
    have hz:zs= []:=cP (by rw[aq];omega)
    rw[hz,Nat.zero_min];cases B<;>simp[Builtin.firstCells,loadCells,loadCellsFrom]
   ·obtain⟨b2,o2,rfl,az⟩:=ba (by omega)
    refine run_firstCells_some w 1 (min H K) ⟨b2,o2,none⟩ H c2 zs (by rw[aq];omega) λj v hj=>?_
    rw[zAC];simp only[zs,d6] at hj;split at hj
    ·exact(az j v hj).1
    ·cases hj
  have Z:=zME (P:=P) (ty:=ty) hT.und w _ (hT.size w) (some ⟨O,off,none⟩) B K c1 H c2 zs aa ao;refine⟨_,_,?_,I,ρ,C,an.put hn (.v _)⟩;simp only[execOp,resolve,invoke,builtin,cQ,dT,cV,eO,eA,fD,hv,bc,Z]
def cpA (l:List Int) (i:Nat) (x:Int):Int:=(l[i]?).getD x
theorem ySZ (l:List Int) (y x0 x1 x2 x3 x4 x5 x6 x7:Int):yJ5 ([y,x0,x1,x2,x3,x4,x5,x6,x7].map λv=>AV.d (di v)) 1 (((eI.all l).take (min l.length 8)).map AV.d)=
  [y,cpA l 0 x0,cpA l 1 x1,cpA l 2 x2,cpA l 3 x3,cpA l 4 x4,cpA l 5 x5,cpA l 6 x6,cpA l 7 x7].map λv=>AV.d (di v):=by
 match l with
 | []=>rfl
 | [_]=>rfl
 | [_,_]=>rfl
 | [_,_,_]=>rfl
 | [_,_,_,_]=>rfl
 | [_,_,_,_,_]=>rfl
 | [_,_,_,_,_,_]=>rfl
 | [_,_,_,_,_,_,_]=>rfl
 | a::b::c::dd::e::f::k::h::rest=>
  have:min (a::b::c::dd::e::f::k::h::rest).length 8=8:=by simp only[dR];omega
  rw[this];rfl
section win
variable {t e size bytes k n:Nat} {z:Value} {x:Operand} {id:Nat} {cells:List DV}
theorem z3W {Y:Operand} {kk:IntKind} {i:Int} {j:Nat} (hn:d<E.n) (hT:SlTy P t e size bytes z) (hx:S.ev x= .row id) (hb:S.blk id= .win e size k cells) (hi:S.ev Y= .d (.v (.int kk i))) (hj:i=(j:Int)) (hl:cells.length=n*size) (O:j<n):
  AOp P r E S ⟨some d,.indexAddr t x Y,ty,pos,af,g⟩ d (.wp id (j*size)):=
 ⟨rfl,hn,λS' H=>z7 rfl hn (by simp) λA w I ρ C T=>by
  subst hj;have Z:=T.ev x;rw[(H.ev (x:=x) (by simp[Op.operands])).trans hx] at Z;have hv:A.eval x= ρ id:=Z;have hk:=T.blks id;rw[(H.blk id).trans hb] at hk;obtain⟨_,A',c,xs,D,ab,_,_,h⟩:=zKU hk hl;obtain⟨b,off,arr,rfl,_⟩:=h (by omega);have K:=T.val ((H.ev (x:=Y) (by simp[Op.operands])).trans hi);refine⟨_,?_,b,off,n,c,D,rfl⟩;simp only[execOp,hv,D,K,cQ,zKN w hT.und (hT.size w) b off n c kk j O];rfl⟩
theorem yB7 {tt:TypeId} {off:Nat} {y:DV} (hn:d<E.n) (hT:OneTy P tt) (hx:S.ev x= .wp id off) (hb:S.blk id= .win e size k cells) (hc:cells[off]? =some y):
  AOp P r E S ⟨some d,.load tt x,ty,pos,af,g⟩ d (.d y):=
 ⟨rfl,hn,λS' ha=>z7 rfl hn (by simp) λA w I ρ C hs=>by
  have Z:=hs.ev x;rw[(ha.ev (x:=x) (by simp[Op.operands])).trans hx] at Z;obtain⟨b,o,n0,c0,Y,hv⟩:=Z;have hk:=hs.blks id;rw[(ha.blk id).trans hb] at hk;obtain⟨A',n',c,xs,h,an,hp,am,hr,aj,H⟩:=hk;rw[Y] at h;cases h;have T:off<xs.length:=by rw[hr.1];exact(c8.1 hc).1
  have K:=cS T;rcases H with ⟨H,_⟩ | ⟨b',ai,arr,H,hM,hh,hf,O,hI⟩
  ·cases H
  ·cases H
   refine⟨xs[off],?_,hr.2 off _ y K hc⟩;have D:w.cell? ⟨b,o+off,none⟩=some xs[off]:=by rw[e9 w b (o+off) arr e (0,0) hh];exact O off _ K
   simp only[execOp,hv,cQ,zHT w hT b _ _ D];rfl⟩
theorem SatAt.spliceW {A:Act} {w:World} {I:Im} {ρ:Nat->Value} {C:Nat->Prop} (hs:SatAt E S A w I ρ C) {off b o:Nat} {news:List DV} {ys:List Value} {n0 c0:Nat} (hb:S.blk id= .win e size k cells) (aj: ρ id= .slice (some ⟨b,o,none⟩) n0 c0)
  (hk:k*size<=off) (au:off+news.length<=cells.length) (aw:0<news.length) (ac:Reps w I ys news) (T:∀u∈ys,u.oneCell'=true) (hE:E.wrB=true):
  ∃w',(storeCells ⟨b,o+off,none⟩ ys).run P w= .ok () w'/\SatAt E (S.setBlk id (.win e size k (spl cells off news))) A w' I ρ C:=by
 have Z:=hs.blks id;rw[hb] at Z;obtain⟨A',n',c,xs,K,ao,hp,an,hr,O,Y⟩:=Z;have ak:=K;rw[aj] at K;cases K;have ap:ys.length=news.length:=ac.1;rcases Y with ⟨Y,h0⟩ | ⟨b',az,arr,Y,hM,hh,hf,aa,hI⟩
 ·cases Y
 ·cases Y
  have ai:=run_storeCells_at P b (o+off) e ys 0 arr w hh (by omega) T;simp only[fE] at ai;have D:Same I w (w.setRow b (arr.toList.take (o+off)++ys++arr.toList.drop (o+off+ys.length)).toArray):=by
   intro b2 j hi;by_cases e':b2=b
   ·subst e'
    refine KeepB.ofCell hh (zTM hh _ ?_);have ab:j<o+off\/o+off+ys.length<=j:=by
     rcases fF j o with h | h
     ·left;omega
     ·rcases fF j (o+n0*size) with h2 | h2
      ·have:=hI j h h2 hi;left;omega
      ·right;omega
    have bc:o+off+ys.length<=arr.size:=by omega
    simp only[eX,c9];rcases ab with h | h
    ·rw[dY (by simp;omega),d6,dG h];simp
    ·rw[dV (by simp;omega),dV (by simp;omega),eQ]
     simp only[dZ,eN];rw[show o+off+ys.length+(j-min (o+off) arr.size-ys.length)=j by omega];simp
   ·exact KeepB.of (setRow_other w b b2 _ e')
  have ah:(spl cells off news).length=cells.length:=by simp[spl];omega
  refine⟨_,ai,hs.modify (zCL w b _) (by rw[hb];simp) (by rw[aj];rfl) D ⟨_,n0,c0,xs.take off++ys++xs.drop (off+ys.length),ak,ao,hp,by rw[ah,an],?_,?_,.inr ⟨b,o,_,rfl,hM,iu w b arr _ e _ hh,?_,?_,hI⟩⟩ hE⟩
  ·have ag:=hr.mono D (λ_ _ h=>h)
   have ad:=ac.mono D (λ_ _ h=>h);unfold spl;rw[<-ap];exact Pw.append (Pw.append (ag.take off) ad) (ag.drop (off+ys.length))
  ·intro v hv'
   simp only[eK] at hv';rcases hv' with (hv' | hv') | hv'
   ·exact O v (eD hv')
   ·exact T v hv'
   ·exact O v (eP hv')
  ·simp;omega
  ·intro j u H
   have be:xs.length=cells.length:=hr.1;have am:j<(xs.take off++ys++xs.drop (off+ys.length)).length:=(c8.1 H).1;simp only[cX,dZ,eH] at am;simp only[eX,c9] at H ⊢;rcases fF j off with h | h
   ·rw[dY (by simp;omega),d6,dG h] at H
    rw[dY (by simp;omega),d6,dG (by omega)]
    have:=aa j u H;simpa using this
   ·rcases fF j (off+ys.length) with h2 | h2
    ·rw[dV (by simp;omega),dY (by simp;omega)] at H
     rw[dV (by simp;omega),dY (by simp;omega)]
     simp only[dZ,eN] at H ⊢;rw[show o+j-min (o+off) arr.size=j-min off xs.length by omega];exact H
    ·rw[dV (by simp;omega),dV (by simp;omega),eQ] at H
     rw[dV (by simp;omega),dV (by simp;omega),eQ]
     simp only[dZ,eN] at H ⊢;rw[show off+ys.length+(j-min off xs.length-ys.length)=j by omega] at H;have:=aa j u H;rw[show o+off+ys.length+(o+j-min (o+off) arr.size-ys.length)=o+j by omega];simpa using this
theorem z64 {tt:TypeId} {y:Operand} {off:Nat} {u:DV} (hT:OneTy P tt) (hx:S.ev x= .wp id off) (hb:S.blk id= .win e size k cells) (hk:k*size<=off) (T:off<cells.length) (hy:S.ev y= .d u) (h1:(AV.d u).one=true) (hE:E.wrB=true):
  jQ P r E ⟨none,.store tt x y,ty,pos,af,g⟩ S (S.setBlk id (.win e size k (cells.set off u))):=
 zGX rfl (by simp) λA w I ρ C O=>by
  have h:=O.ev x;rw[hx] at h;obtain⟨b,o,n0,c0,Z,hv⟩:=h;have K:=O.ev y;rw[hy] at K;have D:=zP2 O.blks K h1 (by intro _ e;cases e)
  obtain⟨w',Y,H⟩:=O.spliceW (P:=P) (off:=off) (news:=[u]) (ys:=[A.eval y]) hb Z hk (by simp only[dR,d7];omega) (by simp) (Pw.cons K Pw.nil) (by simpa using D) hE
  refine⟨w',?_,I,ρ,C,?_⟩
  ·simp only[execOp,hv,Instr.storeAt,Instr.sureAddr,storeVar,cQ,dT,cV,hT.agg,hT.size,zLM D]
   simp[Y]
  ·have e1:spl cells off [u]=cells.set off u:=by
    unfold spl;rw[gy,dG T];simp
   rw[e1] at H;exact H
theorem yB8 {y:Operand} {h m off H:Nat} {t1 t2:Bool} (hn:d<E.n) (hT:SlTy P t e size bytes z) (hx:S.ev x= .ws id (off*size) h t1) (hb:S.blk id= .win e size k cells) (hl:cells.length=n*size)
  (hy:S.ev y= .ws id (H*size) m t2) (hk:k<=off) (au:off+h<=n) (aw:H+m<=n) (hE:E.wrB=true):
  jQ P r E ⟨some d,.call {callee:= .builtin .copy,args:= #[x,y],argTypes:= #[t,t]},ty,pos,af,g⟩ S
   ((S.setBlk id (.win e size k (spl cells (off*size) (((cells.drop (H*size)).take (m*size)).take (min m h*size))))).put d (.d (.v (.int .i64 (min m h:Nat))))):=
 zAQ (by simp) λA w I ρ C hs=>by
  have h1:=hs.ev x;rw[hx] at h1;obtain⟨D,c1,hv,_,_,ab⟩:=h1;have h2:=hs.ev y;rw[hy] at h2;obtain⟨B,c2,ak,_,_,T⟩:=h2;have ad:Nat.min m h=min m h:=rfl;by_cases h0:min m h=0
  ·have ar:SatAt E (S.setBlk id (.win e size k (spl cells (off*size) (((cells.drop (H*size)).take (m*size)).take (min m h*size))))) A w I ρ C:=by
    refine hs.congr' (λ_=>rfl) (λi=>?_);rw[yQ];by_cases e':id=i
    ·subst e'
     rw[hb,h0];simp[spl]
    ·simp[e']
   refine⟨.int .i64 (min m h:Nat),w,?_,I,ρ,C,ar.put hn (.v _)⟩;have:=zME (P:=P) (ty:=ty) hT.und w w (hT.size w) D B h c1 m c2 [] (by rw[ad,h0];cases B<;>simp[Builtin.firstCells,loadCells,loadCellsFrom]) (by cases D<;>simp[storeCells])
   simp only[execOp,resolve,invoke,builtin,cQ,dT,cV,eO,eA,fD,hv,ak,this]
  ·obtain⟨b,o,n0,c0,Z,rfl⟩:=ab (by omega)
   obtain⟨b2,o3,n3,c3,O,rfl⟩:=T (by omega);rw[Z] at O;cases O;have ac:=hs.blks id;rw[hb] at ac;obtain⟨hp,A',c,xs,K,bg,hr,ao,hA⟩:=zKU ac hl;rw[Z] at K;cases K;obtain⟨b',bk,arr,ap,hM,hh,hf,aq,hI⟩:=hA (by omega);cases ap;have ba:xs.length=n*size:=by rw[hr.1,hl]
   have br:H*size+m*size<=n*size:=by rw[<-eG];exact dU _ aw
   have bt:off*size+h*size<=n*size:=by rw[<-eG];exact dU _ au
   have bp:min m h*size<=m*size:=dU _ (by omega);have bq:min m h*size<=h*size:=dU _ (by omega);have ax:0<min m h*size:=Nat.mul_pos (by omega) hp
   let zs:=((xs.drop (H*size)).take (m*size)).take (min m h*size)
   have ah:Reps w I zs (((cells.drop (H*size)).take (m*size)).take (min m h*size)):=((hr.drop _).take _).take _;have al:zs.length=min m h*size:=by simp only[zs,dZ,eH,ba];omega
   have ag:(((cells.drop (H*size)).take (m*size)).take (min m h*size)).length=min m h*size:=by rw[<-ah.1,al]
   obtain⟨w',az,aj⟩:=hs.spliceW (P:=P) (off:=off*size) (ys:=zs) hb Z (dU _ hk) (by rw[ag,hl];omega) (by rw[ag];exact ax) ah (λu hu=>ao u (eP (eD (eD hu)))) hE
   have Y:(Builtin.firstCells size (min m h) (.slice (some ⟨b,o+H*size,none⟩) m c2)).run P w= .ok zs.toArray w:=by
    refine run_firstCells_some w size (min m h) ⟨b,o+H*size,none⟩ m c2 zs al λj v hj=>?_;rw[zAC,e9 w b (o+H*size+j) arr e (0,0) hh];simp only[zs,d6,eQ] at hj;split at hj
    ·split at hj
     ·rw[fV];exact aq _ v hj
     ·cases hj
    ·cases hj
   have:=zME (P:=P) (ty:=ty) hT.und w w' (hT.size w) (some ⟨b,o+off*size,none⟩) (some ⟨b,o+H*size,none⟩) h c1 m c2 zs Y az;refine⟨_,w',?_,I,ρ,C,aj.put hn (.v _)⟩;simp only[execOp,resolve,invoke,builtin,cQ,dT,cV,eO,eA,fD,hv,ak,this]
end win
end
open Go.RowKit Go.M
section
variable {P:Program} {r:Option Nat} {E:Env} {S:AState} {d:Nat} {ty:TypeId} {pos:String} {af:Array Edge} {g:Option (Nat×Bool)}
section win
variable {t e size bytes k n:Nat} {z:Value} {x:Operand} {id:Nat} {cells:List DV}
theorem z0S {xh xm:Operand} {k2 k3:IntKind} {Z:Int} {h:Nat} (hn:d<E.n) (hT:SlTy P t e size bytes z) (hx:S.ev x= .row id) (Y:S.blk id= .win e size k cells) (hl:cells.length=n*size)
    (h2:S.ev xh= .d (.v (.int k2 Z))) (h3:S.ev xm= .d (.v (.int k3 Z))) (e2:Z=(h:Int)) (an:h<=n):
    AOp P r E S ⟨some d,.slice t x none (some xh) (some xm),ty,pos,af,g⟩ d (.ws id 0 h true):=
  ⟨rfl,hn,λS' K=>z7 rfl hn (by simp) λA w I ρ C O=>by
    subst e2;have h1:=O.ev x;rw[(K.ev (x:=x) (by simp[Op.operands])).trans hx] at h1;have hv:A.eval x= ρ id:=h1;have hk:=O.blks id;rw[(K.blk id).trans Y] at hk;obtain⟨_,T,c,xs,H,ad,_,_,D⟩:=zKU hk hl;have v2:=O.val ((K.ev (x:=xh) (by simp[Op.operands])).trans h2);have v3:=O.val ((K.ev (x:=xm) (by simp[Op.operands])).trans h3);refine⟨_,?_,(if h=0 then T else T.map (·.add (0*size))),h-0,rfl,by omega,(by simp),λh0=>?_⟩
    · simp only[execOp,hv,H,cQ,gv,e6,v2,v3,z61 w hT.und (hT.size w) T n c 0 h h none k2 k3 (.inl ⟨rfl,rfl⟩) (by omega) (by omega) (by omega)]
      rfl
    · obtain⟨b,off,arr,rfl,_⟩:=D (by omega)
      refine⟨b,off,n,c,H,?_⟩;rw[dN (by omega)];simp[zAC]⟩
theorem z3X {s:Operand} {off m:Nat} {news:List DV} {h:Nat} (hn:d<E.n) (hT:SlTy P t e size bytes z) (bh:S.ev s= .ws id (off*size) h true) (hb:S.blk id= .win e size k cells) (hl:cells.length=n*size) (an:off+h<=n)
  (hx:S.ev x= .d (.sl size news)) (ab:news.length=m*size) (hm:0<m) (aj:h+m<=maxLen) (K:(h+m)*bytes<=140737488355328) (bg:E.nm d=none):
  jQ P r E ⟨some d,.call {callee:= .builtin .append,args:= #[s,x],argTypes:= #[t,t]},ty,pos,af,g⟩ S (((S.kill d).setBlk d (.row e size false (((cells.drop (off*size)).take (h*size))++news))).put d (.row d)):=
 zAQ (by simp) λA w I ρ C hs=>by
  obtain⟨i,hi,hz,rfl,rfl⟩:=hT.info;have h1:=hs.ev s;rw[bh] at h1;obtain⟨B,c,hv,_,bj,ak⟩:=h1;have bc:=bj rfl;subst bc;have h2:=hs.ev x;rw[hx] at h2;obtain⟨B2,H,c2,ys,bk,_,ao,ai,ay,bd⟩:=Rep.sl_inv h2;obtain rfl:=zIO ao ab hT.pos;obtain⟨b2,o2,rfl,am⟩:=bd (by omega);have al:=hs.blks id;rw[hb] at al;obtain⟨hp,A',c3,xs,bn,br,hr,ax,hA⟩:=zKU al hl;have cb:off*i.size+c*i.size<=n*i.size:=by rw[<-eG];exact dU _ an
  have bl:xs.length=n*i.size:=by rw[hr.1,hl]
  let D:=(xs.drop (off*i.size)).take (c*i.size)
  have ah:D.length=c*i.size:=by simp only[D,dZ,eH,bl];omega
  have aq:Reps w I D ((cells.drop (off*i.size)).take (c*i.size)):=(hr.drop _).take _;have bq:((c+H:Nat):Int)<=9223372036854775807:=by simp only[maxLen] at aj;omega
  have T:∃O,(Builtin.append_ #[t,t] ty #[.slice B c c,.slice (some ⟨b2,o2,none⟩) H c2]).run P w= .ok (.slice (some ⟨w.heap.size,0,none⟩) (c+H) (grownCap w (c+H) O e))
    (w.drew.alloc (.cells ((D++ys).toArray++Builtin.zeroCells z.cells (grownCap w (c+H) O e-(c+H))) e)):=by
   have Z:∀(j:Nat) u,ys[j]? =some u->w.cell? ((⟨b2,o2,none⟩:Addr).add j)=some u:=λj u hu=>by rw[zAC];exact(am j u hu).1
   have ac:ys.length=H*i.size:=by rw[ai.1,ab]
   by_cases h0:c=0
   ·subst h0
    have ho:D= []:=cP (by rw[ah];omega)
    rw[ho];cases B with
    | none=>
     have:=run_append_nil (P:=P) w t ty e i z hT.und hi hz ⟨b2,o2,none⟩ H c2 ys ac Z (by omega) (by omega) (by simp only[em] at K;omega)
     exact⟨0,by simpa using this⟩
    | some a=>
     have:=run_append_grow (P:=P) w t ty e i z hT.und hi hz a 0 0 [] (by simp) (λj u hu=>by simp at hu) ⟨b2,o2,none⟩ H c2 ys ac Z (by omega) (by omega) (growslice_fits (by omega) K);exact⟨0,by simpa using this⟩
   ·obtain⟨b,o,n0,c0,ad,rfl⟩:=ak (by omega)
    rw[bn] at ad;cases ad;obtain⟨b',bv,arr,az,hM,hh,hf,ba,hI⟩:=hA (by omega);cases az;have:=run_append_grow (P:=P) w t ty e i z hT.und hi hz ⟨b,o+off*i.size,none⟩ c c D ah (λj u hu=>by
     rw[zAC,e9 w b _ arr e (0,0) hh];simp only[D,d6,eQ] at hu;split at hu
     ·rw[fV];exact ba _ u hu
     ·cases hu) ⟨b2,o2,none⟩ H c2 ys ac Z (by omega) (by omega) (growslice_fits (by omega) K)
    exact⟨c,by simpa using this⟩
  obtain⟨O,T⟩:=T;have bf:=grownCap_ge w (c+H) O e;have bb:grownCap w (c+H) O e<=maxLen:=grownCap_le_maxLen w (c+H) O e aj;have bz:∀b j,I b j->b<w.heap.size:=λb j h=>(hs.old b j h).1;have be:Below w.heap.size w w.drew:=⟨rfl,rfl,rfl,dC _,λ_ _=>rfl⟩;have bi:=hs.grow be;have ac:ys.length=H*i.size:=by rw[ai.1,ab]
  have ap:=bi.newRow (id:=d) (e:=e) (size:=i.size) (n:=c+H) (c:=grownCap w (c+H) O e) (xs:=D++ys) (rest:=(Builtin.zeroCells z.cells (grownCap w (c+H) O e-(c+H))).toList) (cells:=((cells.drop (off*i.size)).take (c*i.size))++news)
   hT.pos (by rw[cX,<-aq.1,ah,ab,eG]) bf bb (by rw[eN,size_zeroCells,hT.zs]) (by
    have Y:Same I w w.drew:=λ_ _ _=>KeepB.of rfl;exact Pw.append (Reps.mono aq Y λ_ _ h=>h) (ai.mono Y λ_ _ h=>h)) (by
    intro u hu;rcases eK.1 hu with h | h
    ·exact ax u (eP (eD h))
    ·exact ay u h) bg
  refine⟨_,_,?_,I,_,C,ap.put hn (show Holds _ _ _ (.slice (some ⟨w.heap.size,0,none⟩) (c+H) (grownCap w (c+H) O e)) (AV.row d) from by simp[Holds,upd])⟩;simp only[execOp,resolve,invoke,builtin,cQ,dT,cV,eO,eA,fD,hv,bk,T];congr 2;congr 1;simp
end win
inductive View (S:AState):AV->DV->Prop
 | d (x:DV):View S (.d x) x
 | win {id e size k:Nat} {cells:List DV} (h:S.blk id= .win e size k cells):View S (.row id) (.sl size cells)
 | ws {id e size k off n N:Nat} {tt:Bool} {cells:List DV} (h:S.blk id= .win e size k cells) (hl:cells.length=N*size) (hf:off+n<=N):View S (.ws id (off*size) n tt) (.sl size ((cells.drop (off*size)).take (n*size)))
def ViewL (S:AState):List AV->List DV->Prop
 | [],ds=>ds= []
 | x::xs,ds=> ∃y ys,ds=y::ys/\View S x y/\ViewL S xs ys
theorem View.rep {a:Act} {w:World} {I:Im} {ρ:Nat->Value} {C:Nat->Prop} (hs:SatAt E S a w I ρ C) {v:Value} {x:AV} {y:DV} (h:View S x y) (hv:Holds w I ρ v x):Rep w (λb _=>b<w.heap.size) v y:=by
 have D:∀b j,I b j->(λb (_:Nat)=>b<w.heap.size) b j:=λb j hi=>(hs.old b j hi).1;cases h with
 | d=>exact Rep.mono hv (k6 I w) D
 | win hb=>
  rename_i id e size k cells;have hk:=hs.blks id;rw[hb] at hk;obtain⟨A,n,c,xs,Z,T,hp,hl,hr,h1,hA⟩:=hk;have Y:v= .slice A n c:=Eq.trans hv Z;subst Y;by_cases h0:n=0;subst h0;have:cells= []:=cP (by omega);subst this;exact .nil _ _ _;rcases hA with ⟨_,h⟩ | ⟨b,off,arr,rfl,hM,hh,hf,hc,hI⟩
  omega;have O:b<w.heap.size:=(cU.1 hh).1;have H:=hr.mono (k6 I w) D;refine .sl b off n c size xs cells (by omega) T hl hr.1 (λj x hj=>⟨?_,O⟩) h1 H.2;rw[e9 w b (off+j) arr e (0,0) hh];exact hc j x hj
 | ws hb hl hf=>
  rename_i id e size k off n N tt cells;have hk:=hs.blks id;rw[hb] at hk;obtain⟨hp,A',c3,xs,Z,ap,hr,aj,hA⟩:=zKU hk hl;obtain⟨B,c,Y,T,_,ab⟩:=hv;subst Y;have ba:off*size+n*size<=N*size:=by rw[<-eG];exact dU _ hf
  by_cases h0:n=0;subst h0;simp only[gz,iz];exact .nil _ _ _;obtain⟨b,o,n0,c0,K,rfl⟩:=ab (by omega);rw[Z] at K;cases K;obtain⟨b',ar,arr,al,hM,hh,az,am,hI⟩:=hA (by omega);cases al;have O:b<w.heap.size:=(cU.1 hh).1;have H:=Reps.mono ((hr.drop (off*size)).take (n*size)) (k6 I w) D;refine .sl b (o+off*size) n c size ((xs.drop (off*size)).take (n*size)) _ (by omega) T (by rw[dZ,eH,hl];omega) H.1 (λj x hj=>⟨?_,O⟩) (λu hu=>aj u (eP (eD hu))) H.2
  rw[e9 w b _ arr e (0,0) hh];simp only[d6,eQ] at hj;split at hj;rw[fV];exact am _ x hj;cases hj
theorem ViewL.reps {a:Act} {w:World} {I:Im} {ρ:Nat->Value} {C:Nat->Prop} (D:SatAt E S a w I ρ C):∀{vs:List Value} {xs:List AV} {ys:List DV},ViewL S xs ys->Pw (Holds w I ρ) vs xs->Reps w (λb _=>b<w.heap.size) vs ys
 | [],[],ys,h,_=>by cases h;exact Pw.nil
 | [],x::xs,ys,_,k=>by have:=k.1;simp at this
 | v::vs,[],ys,_,k=>by have:=k.1;simp at this
 | v::vs,x::xs,ys,⟨y,zs,e,H,K⟩,k=>by
  subst e;obtain⟨q1,q2⟩:=zI1 k;exact Pw.cons (H.rep D q1) (ViewL.reps D K q2)
theorem yJ6 {f:FuncId} {xs:List Operand} {ats:Array TypeId} {ds rs:List DV} (hn:d<E.n) (hv:ViewL S (xs.map S.ev) ds) (hc:zE P f ds rs) (hG:E.gdt=uB P:=by rfl):
  jQ P r E ⟨some d,.call {callee:= .value (.func f),args:=xs.toArray,argTypes:=ats},ty,pos,af,g⟩ S (S.put d (yM9 rs)):=by
 rintro A w K Q ⟨I,ρ,C,T⟩ hk
 obtain⟨⟨fn,hf,D,h⟩,k⟩:=hc;have h3:=hv.reps T (zCC T xs);have Y:=k w (λb _=>b<w.heap.size) (xs.map A.eval) (λb j hi=>hi) ((hG▸T.gl).sub λb j hi=>(T.old b j hi).1) h3;refine⟨λf _=>trivial,?_⟩;rw[Oper.semAt_eq _ _ _ (by simp)];have O:(execOp A.eval ⟨some d,.call {callee:= .value (.func f),args:=xs.toArray,argTypes:=ats},ty,pos,af,g⟩).run P w= .ok (.enter f (xs.map A.eval).toArray) w:=by
  simp only[execOp,resolve,Act.eval,Deferred.ofValue];have Z:¬fn.name= "runtime.NumGoroutine" :=by simpa using D
  have aa:¬fn.body=none:=by intro e;simp[e] at h
  simp[invoke,callFunc,hf,Z,aa,eO]
 rw[O];refine⟨by simp[fen,Fence.wide],?_⟩;show CallsIn Fence.wide 0 P f _ w _;refine gG.2 (Y.mono ?_)
 rintro e w' ⟨v,I',rfl,hb,ad,ac,H⟩
 exact hk _ _ ⟨I,ρ,C,SatAt.put (T.grow hb) hn (z3U H)⟩
theorem zPU {t e:TypeId} (h:P.underlying t=some (.slice e)) (B:Option Addr) (n c:Nat) (w:World):(Op.equal t (.slice B n c) (.slice none 0 0)).run P w= .ok B.isNone w:=by show (Op.equalIn (9999+1) t (.slice B n c) (.slice none 0 0)).run P w=_;rw[Op.equalIn];cases B<;>simp[dJ h]
theorem yJ7 {t e:TypeId} {x:Operand} {size:Nat} {cells:List DV} {tz:TypeId} (O:d<E.n) (hu:P.underlying t=some (.slice e)) (hx:S.ev x= .d (.sl size cells)) (H:cells≠[]):
  AOp P r E S ⟨some d,.binOp .eql t x (.const (.slice none 0 0)) tz,ty,pos,af,g⟩ d (.d (.v (.bool false))):=
 ⟨rfl,O,λS' T=>jI rfl O (by simp) λA w I ρ C hs=>by
  have K:=hs.ev x;rw[(T.ev (x:=x) (by simp[Op.operands])).trans hx] at K;obtain⟨B,n,c,xs,hv,_,hl,_,_,k⟩:=Rep.sl_inv K;have D:0<n:=by
   rcases Nat.eq_zero_or_pos n with h | h
   ·subst h;exact absurd (cP (by omega)) H
   ·exact h
  obtain⟨b,off,rfl,_⟩:=k D;have Y:A.eval (.const (.slice none 0 0))= .slice none 0 0:=rfl;have hb:binOp .eql t (.slice (some ⟨b,off,none⟩) n c) (.slice none 0 0)=(do pure (.bool (<-Op.equal t (.slice (some ⟨b,off,none⟩) n c) (.slice none 0 0)))):=rfl;have Z:eqGuard .eql t x (.const (.slice none 0 0)) (.slice (some ⟨b,off,none⟩) n c) (.slice none 0 0)=pure ():=rfl;simp only[execOp,hv,Y,hb,Z,cQ,dT,cV,zPU hu];rfl⟩
theorem yB9 {t e:TypeId} {x:Operand} {B:Option Addr} {n c:Nat} {tz:TypeId} (h:d<E.n) (O:P.underlying t=some (.slice e)) (Y:S.ev x= .d (.v (.slice B n c))):
  AOp P r E S ⟨some d,.binOp .eql t x (.const (.slice none 0 0)) tz,ty,pos,af,g⟩ d (.d (.v (.bool B.isNone))):=
 ⟨rfl,h,λS' k=>jI rfl h (by simp) λA w I ρ C K=>by
  have T:=K.val ((k.ev (x:=x) (by simp[Op.operands])).trans Y);have D:A.eval (.const (.slice none 0 0))= .slice none 0 0:=rfl;have hb:binOp .eql t (.slice B n c) (.slice none 0 0)=(do pure (.bool (<-Op.equal t (.slice B n c) (.slice none 0 0)))):=rfl;have H:eqGuard .eql t x (.const (.slice none 0 0)) (.slice B n c) (.slice none 0 0)=pure ():=rfl;simp only[execOp,T,D,hb,H,cQ,dT,cV,zPU O]⟩
theorem z0T {t:Nat} {B:Option Addr} {c:Nat} (size:Nat) (D:t<E.n) (H:S.get t= .d (.v (.slice B 0 c))):zGS E S (S.put t (.d (.sl size []))):=by
 rintro a w ⟨I,ρ,C,h⟩
 refine⟨I,ρ,C,⟨λu=>?_,h.blks,h.dist,by rw[zDR _ _ D];exact h.frame,h.sub,h.old,h.size,h.defers,h.cI,h.cB,h.nm⟩⟩
 rw[zB1];by_cases e:t=u;subst e;simp only[dH];have:=h.tmps t;rw[H] at this;generalize a.tmps.getD t undef=v at this ⊢;have k:Rep w I v (.v (.slice B 0 c)):=this;cases k;exact .nil _ _ _;simp only[e,cY];exact h.tmps u
end
theorem yFN {P:Program} {f:FuncId} {size:Nat} {T D:List (Nat×Blk)} {keep:List Nat} {k:List Cap} (hp:0<size) (h:∀B c,GC P f [.d (.v (.slice B 0 c))] T keep k D):GC P f [.d (.sl size [])] T keep k D:=by
 refine⟨(h none 0).1,λw I ρ vs O hG Y K=>?_⟩
 match vs,K.1 with
 | [v],_=>
  have hr:Rep w I v (.sl size []):=K.2 0 v (.d (.sl size [])) rfl rfl;cases hr with
  | nil A c=>exact(h A c).2 w I ρ _ O hG Y (Pw.cons (show HoldsC w I ρ _ (.d (.v _)) from .v _) Pw.nil)
  | sl b off n c size xs cells hn H Z=>exact absurd Z (by have:=Nat.mul_pos hn hp;simp only[d7];omega)
open Go.RowKit Go.M
section
variable {P:Program} {r:Option Nat} {E:Env} {S:AState} {d:Nat} {ty:TypeId} {pos:String} {af:Array Edge} {g:Option (Nat×Bool)}
section win
variable {t e size bytes k n:Nat} {z:Value} {x:Operand} {id:Nat} {cells:List DV}
theorem yCA {tm h:Nat} {tt:Bool} (k':Nat) (hn:tm<E.n) (ht:S.get tm= .ws id 0 h tt) (hb:S.blk id= .win e size k cells) (hl:cells.length=n*size) (hh:h<=n) (ba:k<=k') (bb:h<=k'):
  zGS E S ((S.setBlk id (.win e size k' cells)).put tm (.d (.sl size (cells.take (h*size))))):=by
 rintro a w ⟨I,ρ,C,O⟩
 have ai:=O.blks id;rw[hb] at ai;obtain⟨hp,A,c,xs,ac,bd,hr,h1,hA⟩:=zKU ai hl;have ab:S.blk id≠ .none:=by rw[hb];simp
 let I':Im:=λb j=>I b j\/(∃off,A=some ⟨b,off,none⟩/\off<=j/\j<off+h*size)
 have K:∀b j,I b j->I' b j:=λb j hi=> .inl hi;have key:∀i,((S.setBlk id (.win e size k' cells)).put tm (.d (.sl size (cells.take (h*size))))).blk i≠ .none->S.blk i≠ .none:=by
  intro i hi;rw[yJQ,yQ] at hi;by_cases Y:id=i
  ·subst Y;exact ab
  ·simp only[Y,cY] at hi;exact hi
 have ah:∀b off,A=some ⟨b,off,none⟩->blockOf (ρ id)=some b:=λb off e=>by rw[ac,e];rfl
 have bo:h*size<=n*size:=dU _ hh;have bg:xs.length=n*size:=by rw[hr.1,hl]
 refine⟨I',ρ,C,⟨λu=>?_,λi=>?_,λi i' b bc hi ay=>O.dist i i' b bc (key i hi) (key i' ay),by rw[zDR _ _ hn];exact O.frame,λb j hi=>K b j (O.sub b j hi),λb j hi=>?_,O.size,O.defers,λb j hi=>?_,λi b hi=>O.cB i b (key i hi),λi v hv hi=>O.nm i v hv (key i hi)⟩⟩
 ·rw[zB1]
  by_cases Y:tm=u
  ·subst Y
   simp only[dH];have hv:=O.tmps tm;rw[ht] at hv;obtain⟨B,c',bf,al,_,ak⟩:=hv;rw[bf];by_cases h0:h=0
   ·subst h0
    simp only[gz,iz];exact .nil _ _ _
   ·obtain⟨b,o,n0,c0,ad,rfl⟩:=ak (by omega)
    rw[ac] at ad;cases ad;obtain⟨b',bk,arr,D,hM,T,aa,Z,hI⟩:=hA (by omega);cases D;have an:=Reps.mono (hr.take (h*size)) (k6 I w) K;refine .sl b (o+0) h c' size (xs.take (h*size)) _ (by omega) al (by rw[dZ,hl];omega) an.1 (λj x hj=>?_) (λu hu=>h1 u (eD hu)) an.2
    have az:=(c8.1 hj).1;rw[dZ] at az;rw[d6,dG (by omega)] at hj;rw[fE];exact⟨by rw[e9 w b (o+j) arr e (0,0) T];exact Z j x hj,.inr ⟨o,rfl,by omega,by omega⟩⟩
  ·simp only[Y,cY]
   exact(O.tmps u).mono (k6 I w) K
 ·show BlkOk w I' ρ E.mine i ((S.setBlk id (.win e size k' cells)).blk i)
  rw[yQ];by_cases Y:id=i
  ·subst Y
   simp only[dH];refine⟨A,n,c,xs,ac,bd,hp,hl,hr.mono (k6 I w) K,h1,?_⟩;by_cases h0:n=0
   ·obtain⟨A2,n2,c2,bw,ag,_,_,bp,_,_,H⟩:=ai
    rw[ac] at ag;cases ag;rcases H with H | ⟨b,off,arr,H,hM,T,aa,Z,hI⟩
    ·exact .inl H
    ·refine .inr ⟨b,off,arr,H,hM,T,aa,λj x hj=>?_,λj q1 q2 _=>?_⟩
     ·have:=(c8.1 hj).1;rw[bg,h0] at this;omega
     ·rw[h0] at q2;omega
   ·obtain⟨b,off,arr,D,hM,T,aa,Z,hI⟩:=hA (by omega)
    refine .inr ⟨b,off,arr,D,hM,T,aa,Z,λj q1 q2 hi=>?_⟩;have m1:k*size<=k'*size:=dU _ ba;have m2:h*size<=k'*size:=dU _ bb;rcases hi with hi | ⟨bl,H,q3,q4⟩
    ·have:=hI j q1 q2 hi;omega
    ·rw[D] at H;cases H;omega
  ·simp only[Y,cY]
   refine(O.blks i).widenI K λb j hx ax hi=>?_;rcases hi with hi | ⟨off,D,_⟩
   ·exact hi
   ·exact absurd ax (O.dist id i b Y ab hx (ah b off D))
 ·rcases hi with hi | ⟨off,D,_⟩
  ·exact O.old b j hi
  ·have:=O.blt id b ab (ah b off D);exact⟨this.2,.inr this.1⟩
 ·rcases hi with hi | ⟨off,D,_⟩
  ·exact O.cI b j hi
  ·exact O.cB id b ab (ah b off D)
theorem z65 (k':Nat) (hb:S.blk id= .win e size k cells) (hk:k<=k'):zGS E S (S.setBlk id (.win e size k' cells)):=by
 rintro a w ⟨I,ρ,C,h⟩
 have K:=h.blks id;rw[hb] at K;have Y:S.blk id≠ .none:=by rw[hb];simp
 have key:∀i,(S.setBlk id (.win e size k' cells)).blk i≠ .none->S.blk i≠ .none:=by
  intro i hi;rw[yQ] at hi;by_cases D:id=i;subst D;exact Y;simpa[D] using hi
 refine⟨I,ρ,C,⟨h.tmps,λi=>?_,λi i' b hn hi O=>h.dist i i' b hn (key i hi) (key i' O),h.frame,h.sub,h.old,h.size,h.defers,h.cI,λi b hi=>h.cB i b (key i hi),λi v hv hi=>h.nm i v hv (key i hi)⟩⟩;rw[yQ];by_cases D:id=i;subst D;simp only[dH];obtain⟨A,n,c,xs,Z,T,hp,hl,hr,h1,H⟩:=K;refine⟨A,n,c,xs,Z,T,hp,hl,hr,h1,?_⟩;rcases H with H | ⟨b,off,arr,H,hM,hh,hf,hc,hI⟩
 exact .inl H;exact .inr ⟨b,off,arr,H,hM,hh,hf,hc,λj q1 q2 hi=>eT (hI j q1 q2 hi) (Nat.add_le_add_left (dU _ hk) _)⟩;simp only[D,cY];exact h.blks i
theorem yFO {xl:Operand} {kk:IntKind} {il:Int} {l:Nat} (hn:d<E.n) (hT:SlTy P t e size bytes z) (hx:S.ev x= .row id) (hb:S.blk id= .win e size k cells) (hl:cells.length=n*size) (ak:S.ev xl= .d (.v (.int kk il))) (el:il=(l:Int)) (ai:k<=l) (aj:l<=n) (am:E.nm id=none):
    jQ P r E ⟨some d,.slice t x (some xl) none none,ty,pos,af,g⟩ S (((S.kill id).setBlk id (.win e size 0 (cells.drop (l*size)))).put d (.row id)):=
  zAQ (by simp) λA w I ρ C hs=>by
    subst el;have h1:=hs.ev x;rw[hx] at h1;have hv:A.eval x= ρ id:=h1;have ao:=hs.val ak;have hk:=hs.blks id;rw[hb] at hk;obtain⟨D,H,c,xs,aa,al,hp,K,hr,ag,hA⟩:=hk;obtain rfl:=zIO K hl hp;have Y:H*size=(H - l)*size+l*size:=by rw[<-eG];congr 1;omega
    have Z:(Instr.sliceAt t (.slice D H c) (some (.int kk l)) none none).run P w= .ok (.slice (if c=l then D else D.map (·.add (l*size))) (H - l) (c-l)) w:=
      zOR w hT.und (hT.size w) D H c l H _ _ (.inr ⟨kk,rfl⟩) (.inl ⟨rfl,rfl⟩) aj (dC _) al
    have ah:∀b,blockOf (.slice (if c=l then D else D.map (·.add (l*size))) (H - l) (c-l))=some b->blockOf (ρ id)=some b:=by
      intro b h;rw[aa];cases D with
      | none=>split at h<;>simp[blockOf] at h
      | some ad=>
        split at h
        · exact h
        · have e3:(ad.add (l*size)).block=ad.block:=by unfold Addr.add;split<;>rfl
          simpa[blockOf,e3] using h
    have an:=hs.update (im w none) (id:=id) (u:= .slice (if c=l then D else D.map (·.add (l*size))) (H - l) (c-l)) (x:= .win e size 0 (cells.drop (l*size))) (by simp) (k6 I w)
      (λb h=> .inr ⟨by rw[hb];simp,ah b h⟩) (by
        refine⟨(if c=l then D else D.map (·.add (l*size))),H - l,c-l,xs.drop (l*size),by simp[upd],by omega,hp,by rw[eH,K];omega,hr.drop _,λu hu=>ag u (eP hu),?_⟩
        rcases hA with ⟨rfl,h0⟩ | ⟨b,off,arr,rfl,hM,hh,hf,hc,hI⟩
        · left;constructor
          · split<;>rfl
          · omega
        · right
          by_cases T:c=l
          · have O:H - l=0:=by omega
            refine⟨b,off,arr,by rw[dG T],hM,hh,by rw[O];omega,λj u hj=>?_,λj q1 q2 _=>by rw[O] at q2;omega⟩
            have:=(c8.1 hj).1;rw[eH,hr.1,K,Y,O] at this;omega
          · refine⟨b,off+l*size,arr,by rw[dN T];simp[zAC],hM,hh,by omega,λj u hj=>?_,λj q1 q2 hi=>?_⟩
            · rw[eQ] at hj
              rw[fV];exact hc _ u hj
            · have:=hI j (by omega) (by omega) hi
              have m1:k*size<=l*size:=dU _ ai;omega) (.inl rfl) am
    refine⟨_,w,?_,I,_,C,an.put hn (show Holds _ _ _ _ (AV.row id) from by simp[Holds,upd];rfl)⟩
    simp only[execOp,hv,aa,cQ,e6,gv,ao,Z];rfl
end win
section lists
variable {α:Type} {en:En α} {l l':List α} {t e bytes k:Nat} {z:Value} {x:Operand} {id:Nat}
theorem yOK (D:d<E.n) (h:SlTy P t e en.size bytes z) (H:S.ev x= .row id) (hb:S.blk id= .win e en.size k (en.all l)):
  AOp P r E S ⟨some d,.call {callee:= .builtin .len,args:= #[x],argTypes:= #[t]},ty,pos,af,g⟩ d (.d (.v (.int .i64 l.length))):=yB5 D h H hb (jH en l)
theorem zHV {D:Operand} {T:IntKind} {i:Int} {v: α} (K:d<E.n) (H:SlTy P t e en.size bytes z) (O:S.ev x= .row id) (hb:S.blk id= .win e en.size k (en.all l)) (hi:S.ev D= .d (.v (.int T i))) (h:yD l i=some v):
  AOp P r E S ⟨some d,.indexAddr t x D,ty,pos,af,g⟩ d (.wp id (i.toNat*en.size)):=
 z3W K H O hb hi (wY h).2.1 (jH en l) (wY h).2.2.1
theorem zMJ {tt:TypeId} {i:Int} {v: α} {y:DV} (H:d<E.n) (D:OneTy P tt) (O:S.ev x= .wp id (i.toNat*en.size)) (hb:S.blk id= .win e en.size k (en.all l)) (K:yD l i=some v) (h:(en.cells v)[0]? =some y):
  AOp P r E S ⟨some d,.load tt x,ty,pos,af,g⟩ d (.d y):=
 yB7 H D O hb (by have:=zOS en (wY K).2.2.2 0 (by rw[<-en.len v];exact(c8.1 h).1);rw[fE] at this;rw[this];exact h)
theorem zZH {hi:Operand} {H:IntKind} {b:Int} (T:d<E.n) (O:SlTy P t e en.size bytes z) (Y:S.ev x= .row id) (hb:S.blk id= .win e en.size k (en.all l)) (D:S.ev hi= .d (.v (.int H b))) (h:slc l 0 b=some l'):
  AOp P r E S ⟨some d,.slice t x none (some hi) none,ty,pos,af,g⟩ d (.ws id 0 b.toNat false):=by
 obtain⟨rfl,Z,h2,K⟩:=zCM h;have:=zTS (P:=P) (r:=r) (ty:=ty) (pos:=pos) (af:=af) (g:=g) T O Y hb (jH en l) (lo:=none) (hi:=some hi) (l:=0) (h:=b.toNat) ⟨rfl,⟨H,b,D,by omega⟩,by omega,K⟩;simpa only[gz,Nat.sub_zero] using this
theorem z3Y {lo hi:Operand} {K O:IntKind} {a b:Int} (Z:d<E.n) (Y:SlTy P t e en.size bytes z) (hx:S.ev x= .row id) (hb:S.blk id= .win e en.size k (en.all l)) (H:S.ev lo= .d (.v (.int K a))) (D:S.ev hi= .d (.v (.int O b))) (h:slc l a b=some l'):
  AOp P r E S ⟨some d,.slice t x (some lo) (some hi) none,ty,pos,af,g⟩ d (.ws id (a.toNat*en.size) (b.toNat-a.toNat) false):=by
 obtain⟨rfl,h1,h2,T⟩:=zCM h;exact zTS Z Y hx hb (jH en l) (lo:=some lo) (hi:=some hi) (l:=a.toNat) (h:=b.toNat) ⟨⟨K,a,H,by omega⟩,⟨O,b,D,by omega⟩,by omega,T⟩
theorem yCB {hi K:Operand} {k2 k3:IntKind} {b:Int} (Y:d<E.n) (T:SlTy P t e en.size bytes z) (Z:S.ev x= .row id) (hb:S.blk id= .win e en.size k (en.all l)) (D:S.ev hi= .d (.v (.int k2 b))) (H:S.ev K= .d (.v (.int k3 b))) (h:slc l 0 b=some l'):
  AOp P r E S ⟨some d,.slice t x none (some hi) (some K),ty,pos,af,g⟩ d (.ws id 0 b.toNat true):=by
 obtain⟨rfl,h1,h2,O⟩:=zCM h;exact z0S Y T Z hb (jH en l) D H (by omega) O
theorem View.front {b:Int} {tt:Bool} (hb:S.blk id= .win e en.size k (en.all l)) (h:slc l 0 b=some l'):View S (.ws id 0 b.toNat tt) (zI en l'):=by
 obtain⟨rfl,H,K,O⟩:=zCM h;have:=View.ws (off:=0) (n:=b.toNat) (tt:=tt) hb (jH en l) (by omega);simp only[gz,d8] at this;have D:en.all ((l.take b.toNat).drop (0:Int).toNat)=(en.all l).take (b.toNat*en.size):=by simp[zDN]
 unfold zI;rw[D];exact this
theorem z3Z {tt:TypeId} {y:Operand} {i:Int} {v: α} {u:DV} {w0: α} (hT:OneTy P tt) (T:S.ev x= .wp id (i.toNat*en.size)) (hb:S.blk id= .win e en.size 0 (en.all l)) (h:en.size=1) (hi:yD l i=some w0) (O:zBD l i v=some l') (hy:S.ev y= .d u) (hu:en.cells v= [u]) (Z:(AV.d u).one=true) (hE:E.wrB=true):
  jQ P r E ⟨none,.store tt x y,ty,pos,af,g⟩ S (S.setBlk id (.win e en.size 0 (en.all l'))):=by
 obtain⟨rfl,h2,h3⟩:=zOU O;have K:=jH en l;rw[h,gE] at K;have H:S.ev x= .wp id i.toNat:=by rw[T,h,gE]
 have:=z64 (P:=P) (r:=r) (ty:=ty) (pos:=pos) (af:=af) (g:=g) hT H hb (by omega) (by omega) hy Z hE;have Y:en.all (l.set i.toNat v)=(en.all l).set i.toNat u:=by
  unfold En.all;clear hi T H K hb O this h2 h3
  induction l generalizing i with
  | nil=>rfl
  | cons a l ih=>
   have ha:(en.cells a).length=1:=by rw[en.len,h]
   match D:en.cells a,ha with
   | [q],_=>
    cases hi:i.toNat with
    | zero=>simp[D,hu]
    | succ j=>
     have:=ih (i:=(j:Int));simp only[Int.toNat_natCast] at this;simp only[List.set_cons_succ,d5,D,this,iA,List.set_cons_succ]
 rw[Y];exact this
def cpM (l:List α) (a1 b1 a2 b2:Int):List α:=l.take a1.toNat++((l.drop a2.toNat).take (b2.toNat-a2.toNat)).take (min (b2.toNat-a2.toNat) (b1.toNat-a1.toNat))++l.drop (a1.toNat+(((l.drop a2.toNat).take (b2.toNat-a2.toNat)).take (min (b2.toNat-a2.toNat) (b1.toNat-a1.toNat))).length)
theorem yJ8 {y:Operand} {a1 b1 a2 b2:Int} {l1 l2:List α} {t1 t2:Bool} (H:d<E.n) (hT:SlTy P t e en.size bytes z) (hx:S.ev x= .ws id (a1.toNat*en.size) (b1.toNat-a1.toNat) t1) (hb:S.blk id= .win e en.size 0 (en.all l)) (hy:S.ev y= .ws id (a2.toNat*en.size) (b2.toNat-a2.toNat) t2)
  (Y:slc l a1 b1=some l1) (Z:slc l a2 b2=some l2) (hE:E.wrB=true):
  jQ P r E ⟨some d,.call {callee:= .builtin .copy,args:= #[x,y],argTypes:= #[t,t]},ty,pos,af,g⟩ S ((S.setBlk id (.win e en.size 0 (en.all (cpM l a1 b1 a2 b2)))).put d .top):=by
 obtain⟨rfl,p1,p2,p3⟩:=zCM Y;obtain⟨rfl,q1,q2,q3⟩:=zCM Z;have:=yB8 (P:=P) (r:=r) (ty:=ty) (pos:=pos) (af:=af) (g:=g) H hT hx hb (jH en l) hy (gD _) (by omega) (by omega) hE;have T:spl (en.all l) (a1.toNat*en.size) ((((en.all l).drop (a2.toNat*en.size)).take ((b2.toNat-a2.toNat)*en.size)).take (min (b2.toNat-a2.toNat) (b1.toNat-a1.toNat)*en.size))=en.all (cpM l a1 b1 a2 b2):=by
  rw[zF5,zDN,zDN];unfold spl cpM;rw[jH,zDN,<-eG,zF5,<-zMG,<-zMG]
 rw[T] at this;intro a w K Q hs hk;refine this a w K Q hs λO w' ⟨I,ρ,C,h⟩=>hk O w' ⟨I,ρ,C,⟨λu=>?_,h.blks,h.dist,by have:=h.frame;rw[zDR _ _ H] at this ⊢;exact this,h.sub,h.old,h.size,h.defers,h.cI,h.cB,h.nm⟩⟩
 have q:=h.tmps u;rw[zB1] at q ⊢;by_cases D:d=u
 ·simp only[D,dH];trivial
 ·simp only[D,cY] at q ⊢;exact q
theorem yCC {s:Operand} {b:Int} {Y m:List α} (hn:d<E.n) (hT:SlTy P t e en.size bytes z) (hs:S.ev s= .ws id 0 b.toNat true) (hb:S.blk id= .win e en.size k (en.all l)) (T:slc l 0 b=some Y) (hx:S.ev x= .d (zI en m)) (hm:m.length≠0) (ha:app Y m=some l') (H:bytes<=32768) (O:E.nm d=none):
  jQ P r E ⟨some d,.call {callee:= .builtin .append,args:= #[s,x],argTypes:= #[t,t]},ty,pos,af,g⟩ S (((S.kill d).setBlk d (.row e en.size false (en.all l'))).put d (.row d)):=by
 obtain⟨rfl,p1,p2,p3⟩:=zCM T;obtain⟨rfl,D⟩:=zQ9 ha;have K:((l.take b.toNat).drop (0:Int).toNat).length=b.toNat:=by simp;omega
 rw[K] at D;have:=z3X (P:=P) (r:=r) (ty:=ty) (pos:=pos) (af:=af) (g:=g) (off:=0) (h:=b.toNat) hn hT (by rw[gz];exact hs) hb (jH en l) (by omega) hx (jH en m) (by omega) (by unfold LIM at D;unfold maxLen;omega) (by
  have T:(b.toNat+m.length)*bytes<=4294967296*bytes:=dU _ D;have h2:4294967296*bytes<=4294967296*32768:=gN _ H;omega) O
 have Z:en.all ((l.take b.toNat).drop (0:Int).toNat++m)=((en.all l).drop (0*en.size)).take (b.toNat*en.size)++en.all m:=by
  rw[zMG];simp[zDN]
 rw[Z];exact this
theorem z66 {tm:Nat} {b:Int} {tt:Bool} (K:tm<E.n) (O:S.get tm= .ws id 0 b.toNat tt) (hb:S.blk id= .win e en.size 0 (en.all l)) (h:slc l 0 b=some l'):
  zGS E S ((S.setBlk id (.win e en.size b.toNat (en.all l))).put tm (.d (zI en l'))):=by
 obtain⟨rfl,T,Y,H⟩:=zCM h;have:=yCA (E:=E) (S:=S) b.toNat K O hb (jH en l) H (gD _) (dC _);have D:en.all ((l.take b.toNat).drop (0:Int).toNat)=(en.all l).take (b.toNat*en.size):=by simp[zDN]
 unfold zI;rw[D];exact this
theorem yFP {K:Operand} {kk:IntKind} {a:Int} (Z:d<E.n) (T:SlTy P t e en.size bytes z) (hx:S.ev x= .row id) (hb:S.blk id= .win e en.size k (en.all l)) (D:S.ev K= .d (.v (.int kk a))) (h:slc l a l.length=some l') (Y:k<=a.toNat) (H:E.nm id=none):
  jQ P r E ⟨some d,.slice t x (some K) none none,ty,pos,af,g⟩ S (((S.kill id).setBlk id (.win e en.size 0 (en.all l'))).put d (.row id)):=by
 obtain⟨rfl,h1,h2,h3⟩:=zCM h;have:=yFO (P:=P) (r:=r) (ty:=ty) (pos:=pos) (af:=af) (g:=g) (l:=a.toNat) Z T hx hb (jH en l) D (by omega) Y (by omega) H;have O:en.all ((l.take (l.length:Int).toNat).drop a.toNat)=(en.all l).drop (a.toNat*en.size):=by simp[zF5]
 rw[O];exact this
end lists
end
open Go.RowKit Go.M
theorem yOL {k:Type} {en:En k} {x: k} {l:List k} (h:0<en.size):en.all (x::l)≠[]:=by intro D;have:=congrArg List.length D;rw[jH,dR,d7,eG] at this;omega
theorem zN5 {P:Program} {D:Type} {w:World} {F: D->PUnit->Sem (ForInStep PUnit)}:∀(k:List D),(∀f∈k,(F f ()).run P w= .ok (.yield ()) w)->(forIn k () F).run P w= .ok () w
 | [],_=>by simp
 | f::k,h=>by
  have K:=zN5 k λg H=>h g (by simp[H]);rw[List.forIn_cons];simp only[cQ,h f (by simp),cV,K]
def zUY:TypeDesc->Bool
 | .int _ | .string | .bool=>true
 | _=>false
theorem zTT {P:Program} {t:TypeId} {ds:TypeDesc} (k:P.underlying t=some ds) (h:zUY ds=true) (v:Value) (n:Nat) (b:Bool) (w:World):(Instr.checkKey b (n+1) t v).run P w= .ok () w:=by
 simp only[Instr.checkKey,cQ,dJ k,cV];cases ds<;>first | (simp[zUY] at h;done) | (cases v<;>rfl)
theorem yCD {P:Program} {H e:TypeId} {n:Nat} {zs vals:List Value} {ds:TypeDesc} (K:ArTy P H n 1 e zs) (T:OneTy P e) (Z:P.underlying e=some ds) (Y:zUY ds=true) (O:vals.length=n) (b:Bool) (w:World):(Instr.checkKey b 10000 H (.agg vals.toArray)).run P w= .ok () w:=by
 show (Instr.checkKey b (9999+1) H (.agg vals.toArray)).run P w=_;rw[Instr.checkKey];simp only[cQ,dJ K.und,cV];rw[Std.Legacy.Range.forIn_eq_forIn_range'];have D:(Std.Legacy.Range.size [0:n])=n:=by simp[Std.Legacy.Range.size]
 simp only[D];rw[<-gH];refine(congrArg (λq=>Result.andThen q _) (zN5 _ λi hi=>?_)).trans (by simp);have k:i<n:=fO.1 hi;have h:(part e vals.toArray i).run P w= .ok (vals[i]'(by omega)) w:=zJO T.agg (by simp[O,k]) w;simp only[cQ,K.size w,cV,gE,h];have:=zTT Z Y (vals[i]'(by omega)) 9998 b w;simp only[show (9998+1)=9999 from rfl] at this;simp[this]
theorem z67 {P:Program} {H:TypeId} {h:Array Field} {vals:List Value} (hu:P.underlying H=some (.struct h))
  (Z:∀f∈h.toList,OneTy P f.type/\(∃ds,P.underlying f.type=some ds/\zUY ds=true)/\f.offset<vals.length) (b:Bool) (w:World):(Instr.checkKey b 10000 H (.agg vals.toArray)).run P w= .ok () w:=by
 show (Instr.checkKey b (9999+1) H (.agg vals.toArray)).run P w=_;rw[Instr.checkKey];simp only[cQ,dJ hu,cV];rw[<-Array.forIn_toList];refine(congrArg (λq=>Result.andThen q _) (zN5 _ λf hi=>?_)).trans (by simp);obtain⟨O,⟨ds,T,Y⟩,D⟩:=Z f hi;have:=zTT T Y (vals[f.offset]'D) 9998 b w;simp only[show (9998+1)=9999 from rfl] at this;have k:(part f.type vals.toArray f.offset).run P w= .ok (vals[f.offset]'D) w:=zJO O.agg (by simp[D]) w;by_cases K:f.name= "_"
 ·simp[K]
 ·simp only[ne_eq,K,not_false_eq_true,dH,cQ,k,cV,this]
  rfl
section
variable {P:Program} {r:Option Nat} {E:Env} {S:AState} {d:Nat} {ty:TypeId} {pos:String} {af:Array Edge} {g:Option (Nat×Bool)}
theorem zXM {bid eb off:Nat} {cells:List AV} (size:Nat) (hb:S.blk bid= .box eb cells) (H:cells[off]? =some (.d (.v (.slice none 0 0)))):zGS E S (S.setBlk bid (.box eb (cells.set off (.d (.sl size []))))):=by
 rintro a w ⟨I,ρ,C,h⟩
 refine⟨I,ρ,C,h.rebox (eb:=eb) (cells:=cells) hb λxs K=>K.set_right H λx k=>?_⟩;have D:Rep w I x (.v (.slice none 0 0)):=k;cases D;exact Rep.nil _ _ _
theorem yJ9 {t e bytes:Nat} {z:Value} {x y:Operand} {id eb:Nat} {q x0 x1 x2 x3 x4 x5 x6 x7:Int} {l:List Int} (K:d<E.n) (H:SlTy P t e eI.size bytes z) (O:S.ev x= .rs id 1 8)
  (hb:S.blk id= .box eb [.d (di q),.d (di x0),.d (di x1),.d (di x2),.d (di x3),.d (di x4),.d (di x5),.d (di x6),.d (di x7)]) (T:S.ev y= .d (zI eI l)) (D:E.wrB=true):
  jQ P r E ⟨some d,.call {callee:= .builtin .copy,args:= #[x,y],argTypes:= #[t,t]},ty,pos,af,g⟩ S
   ((S.setBlk id (.box eb [.d (di q),.d (di (cpA l 0 x0)),.d (di (cpA l 1 x1)),.d (di (cpA l 2 x2)),.d (di (cpA l 3 x3)),.d (di (cpA l 4 x4)),.d (di (cpA l 5 x5)),.d (di (cpA l 6 x6)),.d (di (cpA l 7 x7))])).put d (.d (.v (.int .i64 (min l.length 8:Nat))))):=by
 have h:(eI.all l).length=l.length:=by rw[jH];exact gE _
 have:=z63 (P:=P) (r:=r) (ty:=ty) (pos:=pos) (af:=af) (g:=g) K H O hb (by simp) (by omega) T h D;have k:=ySZ l q x0 x1 x2 x3 x4 x5 x6 x7;simp only[eA,fD] at k;rw[k] at this;exact this
end
open Go.RowKit Go.M
def QJ (E:Env) (J:AState->Prop):Exit->Act->World->Prop
 | .normal,a,w=> ∃S,J S/\Sat E S a w
 | _,_,_=>False
def zG1 (P:Program) (r:Option Nat) (E:Env) (l:List Oper) (J:AState->Prop) (fuel:Nat) (listed:List Bool) (S:AState):Prop:=
 ∀a w,Sat E S a w->wpAnyIn (fen r) 0 P .any l.toArray (QJ E J) fuel listed.toArray a w
def AnyE (P:Program) (r:Option Nat) (E:Env) (l:List Oper) (J:AState->Prop) (fuel:Nat) (listed:List Bool) (S:AState):List Nat->Prop
 | []=>True
 | i::is=>(∃o S',l[i]? =some o/\z2Z P r E l.toArray o S S'/\zG1 P r E l J fuel (listed.set i true) S')/\AnyE P r E l J fuel listed S is
section
variable {P:Program} {r:Option Nat} {E:Env} {l:List Oper} {J:AState->Prop} {fuel:Nat} {listed:List Bool} {S:AState}
theorem AnyE.mem:∀{is:List Nat} {i:Nat},AnyE P r E l J fuel listed S is->i∈is->∃o S',l[i]? =some o/\z2Z P r E l.toArray o S S'/\zG1 P r E l J fuel (listed.set i true) S'
 | [],_,_,h=>by cases h
 | k::is,i,h,hi=>by
  rcases dM.1 hi with e | hi;subst e;exact h.1;exact AnyE.mem h.2 hi
def rdy (l:List Oper) (h:List Bool):List Nat:=(List.range l.length).filter λi=>!h.getD i true&&(match l[i]? with | none=>true | some o=>(aft o).all λj=>h.getD j false)
theorem z0U {i:Nat} (h:i∈Region.ready .any l.toArray listed.toArray):i∈rdy l listed:=by
 obtain⟨D,K,O⟩:=zMC h;simp only[rdy,fb,fO,dL,fS];have e:∀k b,listed.toArray.getD k b=listed.getD k b:=λk b=>by simp[dI,fI]
 refine⟨D,by rw[<-e];exact K,?_⟩
 have H:=cS D;rw[H];simp only[eC];intro j T;rw[<-e];exact O _ H j T
theorem z0V {i:Nat} (h:(rdy l listed).contains i=true):i∈Region.ready .any l.toArray listed.toArray:=by
 have h:=List.contains_iff_mem.1 h;simp only[rdy,fb,fO,dL,fS] at h;have e:∀k b,listed.toArray.getD k b=listed.getD k b:=λk b=>by simp[dI,fI]
 obtain⟨K,O,D⟩:=h;have H:=cS K;rw[H] at D;simp only[eC] at D;exact z3A H (by rw[e];exact O) λj T=>by rw[e];exact D j T
theorem zUZ (h:List Bool) (i:Nat):h.toArray.setIfInBounds i true=(h.set i true).toArray:=by simp
theorem yKA (H:rdy l listed= []) (h:J S):zG1 P r E l J fuel listed S:=by
 intro a w D;have k:Region.ready .any l.toArray listed.toArray= []:=List.eq_nil_iff_forall_not_mem.2 λi hi=>by have:=z0U hi;rw[H] at this;cases this
 cases fuel with
 | zero=>exact⟨k,S,h,D⟩
 | succ n=>exact⟨λ_=>⟨S,h,D⟩,λi hi=>by rw[k] at hi;cases hi⟩
theorem yQ7 (is:List Nat) (K:rdy l listed=is) (D:is.isEmpty=false) (h:AnyE P r E l J fuel listed S is):zG1 P r E l J (fuel+1) listed S:=by
 intro a w hs;refine⟨λe=>?_,λi hi=>?_⟩;cases is with
 | nil=>cases D
 | cons k is=>
  have:=z0V (l:=l) (listed:=listed) (i:=k) (by rw[K];simp)
  rw[e] at this;cases this
 have hi:=z0U hi;rw[K] at hi;obtain⟨o,S',T,Y,Z⟩:=h.mem hi;unfold wpOpIn;simp only[eX,T];refine Y a w _ _ hs λO w' H=>?_;rw[zUZ];exact Z O w' H
theorem z9K:AnyE P r E l J fuel listed S []:=trivial
theorem yNA {i:Nat} {is:List Nat} {o:Oper} {S':AState} (H:l[i]? =some o) (D:o.guard=none) (h:jQ P r E o S S') (k:zG1 P r E l J fuel (listed.set i true) S') (K:AnyE P r E l J fuel listed S is):AnyE P r E l J fuel listed S (i::is):=
 ⟨⟨o,S',H,zQ3 D h,k⟩,K⟩
theorem yNB {i d:Nat} {is:List Nat} {o:Oper} {x:AV} (H:l[i]? =some o) (D:o.guard=none) (h:AOp P r E S o d x) (k:zG1 P r E l J fuel (listed.set i true) (S.put d x)) (K:AnyE P r E l J fuel listed S is):AnyE P r E l J fuel listed S (i::is):=
 ⟨⟨o,_,H,zQ3 D h.step,k⟩,K⟩
def yCE (l:List Oper) (listed:List Bool) (i:Nat) (oi:Oper):Bool:=
 (List.range l.length).all λj=>Nat.beq j i ||listed.getD j true ||(match l[j]? with
  | none=>true
  | some h=>(aft h).contains i ||oi.apart l.toArray h)
def zZI (l:List Oper):Bool:=l.all λo=>match o.op with | .select _ _=>false | _=>true
theorem zOY {i d:Nat} {oi:Oper} {x:AV} (hr:r=none) (hi:l[i]? =some oi) (hg:oi.guard=none) (hd:oi.dst=some d) (K:zZI l=true) (O:yCE l listed i oi=true) (ab:(rdy l listed).contains i=true)
  (hy:∀a w,Sat E S a w->∃v,(∀w',(execOp a.eval oi).run P w'= .ok (.value v) w')/\(∀w',oi.about P w' a.eval=none)/\Sat E (S.put d x) (a.put (some d) v) w) (k:zG1 P r E l J fuel (listed.set i true) (S.put d x)):zG1 P r E l J (fuel+1) listed S:=by
 subst hr;intro a w hs;obtain⟨v,h1,h2,h3⟩:=hy a w hs;have T:l.toArray[i]? =some oi:=by simpa using hi
 refine wpAnyIn_first (i:=i) (oi:=oi) (v:=v) rfl T (λj o cs b ho e=>?_) (λc a w h=>h.elim) fuel listed.toArray a w (λj oj hj aa hl H=>?_) (z0V ab) ⟨.inl ⟨?_,h1⟩,h2⟩ (by rw[hd,zUZ];exact k _ w h3)
 ·have:=eC.1 K o (eV (by simpa using ho))
  rw[e] at this;cases this
 ·have D:l[j]? =some oj:=by simpa using hj
  have Z:=(c8.1 D).1;have:=eC.1 O j (fO.2 Z);have Y:listed.getD j true=false:=by rw[<-hl];simp[dI,fI]
  simp only[fP,hP,Y,D] at this;rcases this with (h | h) | h | h
  ·exact absurd h aa
  ·cases h
  ·exfalso
   have h:=List.contains_iff_mem.1 h;simp only[aft,eM,fb] at h;obtain⟨q,⟨hq,hb⟩,he⟩:=h;exact H q (by simpa using hq) hb he
  ·exact h
 ·unfold Region.wanted
  rw[hg]
section
variable {d:Nat} {ty:TypeId} {pos:String} {af:Array Edge} {x:Operand}
theorem yFQ {i:Nat} (hi:l[i]? =some ⟨some d,.move x,ty,pos,af,none⟩) (O:d<E.n) (T:r=none) (h:zZI l=true) (D:yCE l listed i ⟨some d,.move x,ty,pos,af,none⟩=true) (H:(rdy l listed).contains i=true)
  (k:zG1 P r E l J fuel (listed.set i true) (S.put d (S.ev x))):zG1 P r E l J (fuel+1) listed S:=
 zOY T hi rfl rfl h D H (λa w ⟨I,ρ,C,K⟩=>⟨a.eval x,λw'=>by simp[execOp],λw'=>rfl,I,ρ,C,K.put O (K.ev x)⟩) k
theorem zMK {i:Nat} {y:Operand} {tx tz:TypeId} {a b:Int} (hi:l[i]? =some ⟨some d,.binOp .sub tx x y tz,ty,pos,af,none⟩) (O:d<E.n) (Y:S.ev x= .d (.v (.int .i64 a))) (Z:S.ev y= .d (.v (.int .i64 b))) (T:r=none) (h:zZI l=true) (D:yCE l listed i ⟨some d,.binOp .sub tx x y tz,ty,pos,af,none⟩=true) (H:(rdy l listed).contains i=true)
  (k:zG1 P r E l J fuel (listed.set i true) (S.put d (.d (.v (.int .i64 (wi (a-b))))))):zG1 P r E l J (fuel+1) listed S:=
 zOY T hi rfl rfl h D H (λA w ⟨I,ρ,C,K⟩=>⟨.int .i64 (wi (a-b)),λw'=>by
  simp only[execOp,K.val Y,K.val Z];simp[binOp,eqGuard,Op.intArith,wi],λw'=>rfl,I,ρ,C,SatAt.put (x:= .d (.v _)) K O (Rep.v _)⟩) k
theorem zOZ {i:Nat} {y:Operand} {tx tz:TypeId} {a b:Int} (hi:l[i]? =some ⟨some d,.binOp .add tx x y tz,ty,pos,af,none⟩) (O:d<E.n) (Y:S.ev x= .d (.v (.int .i64 a))) (Z:S.ev y= .d (.v (.int .i64 b))) (T:r=none) (h:zZI l=true) (D:yCE l listed i ⟨some d,.binOp .add tx x y tz,ty,pos,af,none⟩=true) (H:(rdy l listed).contains i=true)
  (k:zG1 P r E l J fuel (listed.set i true) (S.put d (.d (.v (.int .i64 (wi (a+b))))))):zG1 P r E l J (fuel+1) listed S:=
 zOY T hi rfl rfl h D H (λA w ⟨I,ρ,C,K⟩=>⟨.int .i64 (wi (a+b)),λw'=>by
  simp only[execOp,K.val Y,K.val Z];simp[binOp,eqGuard,Op.intArith,wi],λw'=>rfl,I,ρ,C,SatAt.put (x:= .d (.v _)) K O (Rep.v _)⟩) k
theorem zZJ {α:Type} {en:En α} {D:List α} {i t e bytes:Nat} {z:Value} {ix:Operand} {kk:IntKind} {q:Int} {v: α} (hi:l[i]? =some ⟨some d,.indexAddr t x ix,ty,pos,af,none⟩) (hn:d<E.n) (T:SlTy P t e en.size bytes z) (hx:S.ev x= .d (zI en D)) (Z:S.ev ix= .d (.v (.int kk q))) (hv:yD D q=some v)
  (hr:r=none) (O:zZI l=true) (Y:yCE l listed i ⟨some d,.indexAddr t x ix,ty,pos,af,none⟩=true) (ad:(rdy l listed).contains i=true)
  (k:zG1 P r E l J fuel (listed.set i true) (S.put d (.ip (en.all D) (q.toNat*en.size)))):zG1 P r E l J (fuel+1) listed S:=
 zOY hr hi rfl rfl O Y ad (λA w ⟨I,ρ,C,hs⟩=>by
  have h:=hs.ev x;rw[hx] at h;obtain⟨B,n,c,xs,ah,_,hl,ac,h1,H⟩:=Rep.sl_inv h;have ab:n=D.length:=zIO hl (jH en D) T.pos;subst ab;have hq:=(wY hv).2.1;have aa:=(wY hv).2.2.1;obtain⟨b,off,rfl,hc⟩:=H (by omega);have K:=hs.val Z;refine⟨.pointer (some ⟨b,off+q.toNat*en.size,none⟩),λw'=>?_,λw'=>rfl,I,ρ,C,hs.put hn ⟨b,off,xs,rfl,ac,h1,hc⟩⟩;rw[hq] at K;simp only[execOp,ah,K,cQ,zKN w' T.und (T.size w') b off D.length c kk q.toNat aa];rfl) k
end
theorem zF7 {id:Nat} {K:Exit->AState->Prop} (H:P.follows .mixedOrders=true) (h:zG1 P r E l (K .normal) l.length (List.replicate l.length false) S):Avc P r E (.region id l.toArray true) K S:=by
 intro a w O;have D:=h a {w with drawn:=w.drawn+1} (z29 O);refine gV (wpIn_region_any (Q:=QJ E (K .normal)) H (by simpa[<-List.toArray_replicate] using D)) ?_;intro e T w' k;cases e with
 | normal=>exact k
 | _=>exact k.elim
end
open Go.RowKit Go.M
def CapsOf:List AV->List Cap->Prop
 | [],cs=>cs= []
 | x::xs,cs=> ∃c ds,cs=c::ds/\CapOf x c/\CapsOf xs ds
section
variable {P:Program} {r:Option Nat} {E:Env} {S:AState} {d:Nat} {ty:TypeId} {pos:String} {af:Array Edge} {g:Option (Nat×Bool)}
theorem CapsOf.holds {w:World} {I:Im} {ρ:Nat->Value}:∀{vs:List Value} {xs:List AV} {cs:List Cap},CapsOf xs cs->Pw (Holds w I ρ) vs xs->Pw (HoldsC w I ρ) vs cs
 | [],[],cs,h,_=>by cases h;exact Pw.nil
 | [],x::xs,cs,_,k=>by have:=k.1;simp at this
 | v::vs,[],cs,_,k=>by have:=k.1;simp at this
 | v::vs,x::xs,cs,⟨c,ds,e,D,H⟩,k=>by
  subst e;obtain⟨q1,q2⟩:=zI1 k;exact Pw.cons (D.holds q1) (CapsOf.holds H q2)
theorem zSQ {f:FuncId} {h:List Operand} {cs:List Cap} (D:d<E.n) (k:CapsOf (h.map S.ev) cs):
  AOp P r E S ⟨some d,.makeFunc (.func f) #[] h.toArray,ty,pos,af,g⟩ d (.clo f cs):=
 ⟨rfl,D,λS' H=>z7 rfl D (by simp) λA w I ρ C O=>by
  have K:h.map S'.ev=h.map S.ev:=gt λx T=>H.ev (by simp[Op.operands];simpa using T)
  rw[<-K] at k;exact⟨.func (.func f) #[] (h.map A.eval).toArray,by simp[execOp,Instr.makeFunc],_,rfl,k.holds (zCC O h)⟩⟩
theorem zN6 {t:TypeId} {x y:Operand} {id off eb:Nat} {cells:List AV} {av:AV} (H:OneTy P t) (O:S.ev x= .ptr id off) (hb:S.blk id= .box eb cells) (h:off<cells.length) (T:S.ev y=av) (k:av.one=true) (K:zTL S av=true) (D:E.wrB=true):
  jQ P r E ⟨none,.store t x y,ty,pos,af,g⟩ S (S.setBlk id (.box eb (cells.set off av))):=by
 subst T;exact zJH H O hb h k K D
theorem z68 {a t id e b u h k:Nat} {x y:DV} (D:(S.get a).un= .ptr id 0) (H:S.blk id= .box e [.d x]) (K:OneTy P t) (T:(S.get b).un= .ptr h 0) (Y:S.blk h= .box k [.d y]) (O:OneTy P u):RetS P S [.cell a t,.cell b u] [x,y]:=
 ⟨_,_,id,e,_,rfl,D,H,.inl ⟨K,_,rfl,rfl⟩,_,_,h,k,_,rfl,T,Y,.inl ⟨O,_,rfl,rfl⟩,rfl⟩
end
open Go.RowKit Go.M
theorem BlkOk.lt {w:World} {I:Im} {ρ:Nat->Value} {M:Nat->Prop} {i b:Nat} {x:Blk} (h:BlkOk w I ρ M i x) (aa:x≠ .none) (hb:blockOf (ρ i)=some b):b<w.heap.size:=by
 cases x with
 | none=>exact absurd rfl aa
 | row e size sh cells=>
  obtain⟨hM,n,xs,hl,T,_⟩:=h;rcases T.2 with ⟨hn,_⟩ | ⟨g,ac,ad,D,Y,H,_⟩;rw[hn] at hb;simp[blockOf] at hb;rw[D] at hb;simp[blockOf] at hb;subst hb;exact(cU.1 H).1
 | box e cells=>
  obtain⟨Z,arr,D,Y,H,_⟩:=h;rw[D] at hb;simp[blockOf] at hb;subst hb;exact(cU.1 H).1
 | it es q=>
  obtain⟨Z,bm,ents,K,ab,D,Y,H,_⟩:=h;rw[D] at hb;simp[blockOf] at hb;subst hb;exact(cU.1 H).1
 | map es=>
  obtain⟨Z,ents,K,D,Y,H,_⟩:=h;rw[D] at hb;simp[blockOf] at hb;subst hb;exact(cU.1 H).1
 | win e size k cells=>
  obtain⟨A,n,c,xs,D,_,_,_,_,_,O⟩:=h;rcases O with ⟨O,_⟩ | ⟨Z,off,arr,O,Y,H,_⟩;rw[D,O] at hb;simp[blockOf] at hb;rw[D,O] at hb;simp[blockOf] at hb;subst hb;exact(cU.1 H).1
open Go.RowKit Go.M
section
variable {P:Program} {r:Option Nat} {E:Env} {S:AState} {d ty:Nat} {pos:String} {af:Array Edge} {g:Option (Nat×Bool)}
theorem zV8 {D:Type} {c ys:List D} {off n N:Nat} (h:ys.length=n) (H:off+n<=N) (K:N<=c.length):(c.take off++ys++c.drop (off+n)).take N=(c.take N).take off++ys++(c.take N).drop (off+n):=by
 have k:(c.take off++ys).length=off+n:=by simp;omega
 rw[List.take_append,gA (by omega),k,List.take_take,gX (by omega),List.drop_take]
theorem zUC {t n:Nat} {x y:Operand} {id off e size:Nat} {cells ds:List DV} (hT:AggTy P t n) (hx:S.ev x= .ptr id off) (hb:S.blk id= .row e size false cells) (bm:off+n<=cells.length)
  (hy:S.ev y= .d (.agg ds)) (au:ds.length=n) (hE:E.wrB=true):
  jQ P r E ⟨none,.store t x y,ty,pos,af,g⟩ S (S.setBlk id (.row e size false (cells.take off++ds++cells.drop (off+n)))):=
 zGX rfl (by simp) λA w I ρ C hs=>by
  have h:=hs.ev x;rw[hx] at h;obtain⟨b,D,hv⟩:=h;have ab:=hs.blks id;rw[hb] at ab;obtain⟨h0,n',xs,hl,K,aa,aw,hI⟩:=ab;have ak:=hs.ev y;rw[hy] at ak;have O:Rep w I (A.eval y) (.agg ds):=ak;generalize he:A.eval y=vy at O;cases O with
  | agg ys al ac h1 hr=>
   have ay:Reps w I ys ds:=⟨ac,hr⟩;rcases K.2 with ⟨Z,_⟩ | ⟨T,ao,k,Z,hB,hh,ad,aq,ar,ba⟩
   ·rw[Z] at D;cases D
   ·have ap:T=b:=by rw[Z] at D;simpa[blockOf] using D
    subst ap;have H:∀j,¬I T j:=λj hj=>by have:=(hI T j (by rw[Z];rfl) hj).1;cases this
    have br:xs.length=n'*size:=K.1;have be:cells.length<=k.size:=by rw[ar,hl];exact dU _ ad
    have aj:ys.length=n:=by rw[ac];exact au
    have az:=zVO (P:=P) w hT (b:=T) (off:=off) (vs:=ys) hh (by omega) aj h1;have bp:cells.length=n'*size:=hl;refine⟨_,?_,I,ρ,C,hs.modify (zCL w T (k.toList.take off++ys++k.toList.drop (off+n)).toArray) (by rw[hb];simp) D (vX H) ⟨h0,n',xs.take off++ys++xs.drop (off+n),by simp;omega,⟨by simp;omega,.inr ⟨T,ao,_,Z,hB,iu w T k _ e _ hh,ad,aq,?_,?_⟩⟩,?_,?_,?_⟩ hE⟩
    ·simp only[execOp,hv,he,cQ,az]
     rfl
    ·simp;omega
    ·have ah:k.toList.take (n'*size)=xs:=ba
     rw[<-ah];exact zV8 aj (by omega) (by simp;omega)
    ·intro v ai
     simp only[eK] at ai;rcases ai with (hu | hu) | hu
     ·exact aa v (eD hu)
     ·exact h1 v hu
     ·exact aa v (eP hu)
    ·have ag:=aw.imp λ_ _ h=>h.mono (vX (arr:=(k.toList.take off++ys++k.toList.drop (off+n)).toArray) H) (λ_ _ h=>h)
     have ax:=Reps.mono ay (vX (arr:=(k.toList.take off++ys++k.toList.drop (off+n)).toArray) H) (λ_ _ h=>h);exact((ag.take off).append ax).append (ag.drop (off+n))
    ·intro g' j Y hi
     rw[Z] at Y;simp[Value.ownBlock] at Y;subst Y;exact absurd hi (H j)
theorem yFR {h:Type} (en:En h) (l:List h) (v: h):∀(i:Nat),i<l.length->en.all (l.set i v)=(en.all l).take (i*en.size)++en.cells v++(en.all l).drop (i*en.size+en.size):=by
 induction l with
 | nil=>intro i hi;simp at hi
 | cons a l K=>
  intro i hi;have H:(en.cells a).length=en.size:=en.len a;cases i with
  | zero=>
   simp only[List.set_cons_zero,En.all,d5,gz,iz,dO,em];rw[List.drop_append_of_le_length (by omega),dE (by omega)];simp
  | succ j=>
   have:=K j (by simpa using hi);simp only[List.set_cons_succ,En.all,d5] at this ⊢;rw[this,eG,Nat.one_mul];rw[List.take_append,List.drop_append,H];rw[gA (l:=en.cells a) (by omega),dE (l:=en.cells a) (by omega)];have k:j*en.size+en.size-en.size=j*en.size:=by omega
   have D:j*en.size+en.size+en.size-en.size=j*en.size+en.size:=by omega
   rw[k,D];simp[c9]
theorem yFS {k:Type} {en:En k} {l D:List k} {e tt:Nat} {x y:Operand} {id:Nat} {i:Int} {v: k} (K:AggTy P tt en.size) (Y:S.ev x= .ptr id (i.toNat*en.size)) (hb:S.blk id= .row e en.size false (en.all l)) (Z:S.ev y= .d (en.dv v)) (O:en.dv v= .agg (en.cells v))
  (T:zBD l i v=some D) (H:E.wrB=true):
  jQ P r E ⟨none,.store tt x y,ty,pos,af,g⟩ S (S.setBlk id (.row e en.size false (en.all D))):=by
 obtain⟨rfl,h0,h⟩:=zOU T;rw[yFR en l v i.toNat h];refine zUC K Y hb ?_ (by rw[Z,O]) (en.len v) H;rw[jH];have:(i.toNat+1)*en.size<=l.length*en.size:=dU _ h;rw[eG] at this;omega
def Blk.is:Blk->Bool
 | .none=>false
 | _=>true
theorem Blk.is_ne {b:Blk} (h:b.is=true):b≠ .none:=by cases b<;>simp_all [Blk.is]
def nmB (h:List Nat) (σ:List (Nat×Nat)) (keep:List Nat) (T k:List (Nat×Blk)):Bool:=
 σ.all λp=>!h.contains p.2 ||(keep.contains p.1&&((look Blk.none T p.1).is&&(look Blk.none k p.1).is))
theorem zEQ {H:Nat->Option (List Value)} {w0:World} {I0:Im} {Y:GlI H w0 I0} {ab:Nat->Value} {T0:List (Nat×Blk)} {h:List Nat} {n0:Nat} {aa:n0<=1000000} {f:FuncId} {xs:List Operand} {ats:Array TypeId} {args D:List Cap} {T O:List (Nat×Blk)} {keep:List Nat} (σ:List (Nat×Nat)) (hc:GC P f args T keep D O) (hn:d<n0) (al:(σ.map Prod.fst).Nodup/\(σ.map Prod.snd).Nodup)
  (K:ArgsAs σ (xs.map S.ev) args) (ah:args.all (Cap.idsLt σ)=true) (ak:D.all (Cap.idsLt σ)=true) (hT:BlksAs S σ T) (ag:zDG σ T=true) (Z:zDG σ O=true)
  (ai:zSP S σ T=true) (aj:nmB h σ keep T O=true) (hG:H=uB P:=by rfl):
  jQ P r (Env.gen H w0 I0 Y ab T0 h n0 aa) ⟨some d,.call {callee:= .value (.func f),args:=xs.toArray,argTypes:=ats},ty,pos,af,g⟩ S
   (((S.killL (zLD σ keep O)).setL (renL σ O++zPD σ T O)).put d ((zP8 D).ren σ)):=
 z9G (E:=Env.gen H w0 I0 Y ab T0 h n0 aa) σ hn (zV4 al) K ah ak hT ag Z (zN2 ai) (λk hk=>by
  have:=eC.1 aj _ (zFS hk);by_cases hc:h.contains (look 0 σ k)=true
  ·simp only[hc,dD,eY,dL] at this
   exact .inr ⟨this.1,Blk.is_ne this.2.1,Blk.is_ne this.2.2⟩
  ·refine .inl ?_
   show (if h.contains (look 0 σ k)=true then _ else _)=_;rw[dN hc]) hc rfl hG
theorem zU0 {f:FuncId} {xf:Operand} {cs:List Cap} {xs:List Operand} {ats:Array TypeId} {args h:List Cap} {T H:List (Nat×Blk)} {keep:List Nat} (σ:List (Nat×Nat)) (hc:GC P f args T keep h H) (hn:d<E.n) (ad:(σ.map Prod.fst).Nodup/\(σ.map Prod.snd).Nodup) (ac:S.ev xf= .clo f cs)
  (D:ArgsAs σ (xs.map S.ev++cs.map Cap.av) args) (Y:args.all (Cap.idsLt σ)=true) (ab:h.all (Cap.idsLt σ)=true) (hT:BlksAs S σ T) (O:zDG σ T=true) (K:zDG σ H=true)
  (Z:zSP S σ T=true) (aa:∀k,E.nm k=none) (hE:E.wrB=true) (hG:E.gdt=uB P:=by rfl):
  jQ P r E ⟨some d,.call {callee:= .value xf,args:=xs.toArray,argTypes:=ats},ty,pos,af,g⟩ S
   (((S.killL (zLD σ keep H)).setL (renL σ H++zPD σ T H)).put d ((zP8 h).ren σ)):=
 z3M σ hn (zV4 ad) ac D Y ab hT O K (zN2 Z) (λk _=> .inl (aa _)) hc hE hG
theorem z30 {H:Nat->Option (List Value)} {w0:World} {I0:Im} {Y:GlI H w0 I0} {ab:Nat->Value} {T0:List (Nat×Blk)} {h:List Nat} {n0:Nat} {aa:n0<=1000000} {f:FuncId} {xf:Operand} {cs:List Cap} {xs:List Operand} {ats:Array TypeId} {args D:List Cap} {T O:List (Nat×Blk)} {keep:List Nat} (σ:List (Nat×Nat)) (hc:GC P f args T keep D O) (hn:d<n0) (am:(σ.map Prod.fst).Nodup/\(σ.map Prod.snd).Nodup) (al:S.ev xf= .clo f cs)
  (K:ArgsAs σ (xs.map S.ev++cs.map Cap.av) args) (ah:args.all (Cap.idsLt σ)=true) (ak:D.all (Cap.idsLt σ)=true) (hT:BlksAs S σ T) (ag:zDG σ T=true) (Z:zDG σ O=true)
  (ai:zSP S σ T=true) (aj:nmB h σ keep T O=true) (hG:H=uB P:=by rfl):
  jQ P r (Env.gen H w0 I0 Y ab T0 h n0 aa) ⟨some d,.call {callee:= .value xf,args:=xs.toArray,argTypes:=ats},ty,pos,af,g⟩ S
   (((S.killL (zLD σ keep O)).setL (renL σ O++zPD σ T O)).put d ((zP8 D).ren σ)):=
 z3M (E:=Env.gen H w0 I0 Y ab T0 h n0 aa) σ hn (zV4 am) al K ah ak hT ag Z (zN2 ai) (λk hk=>by
  have:=eC.1 aj _ (zFS hk);by_cases hc:h.contains (look 0 σ k)=true
  ·simp only[hc,dD,eY,dL] at this
   exact .inr ⟨this.1,Blk.is_ne this.2.1,Blk.is_ne this.2.2⟩
  ·refine .inl ?_
   show (if h.contains (look 0 σ k)=true then _ else _)=_;rw[dN hc]) hc rfl hG
end
end Go.AV
namespace Go.M
def yM {h:Type} [DecidableEq h] (items:List h) (k:Nat) (x: h):Option Unit:=if items[k]? =some x then some () else none
def zV9 {h:Type} (items:List h) (k:Nat):Option Unit:=if k=items.length then some () else none
end Go.M
namespace Go.AV
open Go.M
theorem z69 {D:Type} [DecidableEq D] {K:Type} {items:List D} {k:Nat} {x: D} {u:Unit} (f: D->K) (h:yM items k x=some u):(items.map f)[k]? =some (f x):=by unfold yM at h;split at h;rename_i H;rw[dW,H];rfl;cases h
theorem zN7 {D:Type} {K:Type} {items:List D} {k:Nat} {u:Unit} (f: D->K) (h:zV9 items k=some u):k=(items.map f).length:=by unfold zV9 at h;split at h;rename_i H;rw[e7,H];cases h
open Go.M
section
variable {P:Program} {r:Option Nat} {E:Env} {S:AState} {K:Exit->AState->Prop} {c:Code} {A B C D:Type}
def yS0 (E:Env) (H:Exit) (k:A->AState) (O:Exit) (S2:B->AState):A⊕B->Exit->AState->Prop
 | .inl y,h,S'=>h=H/\zGS E S' (k y)
 | .inr y,h,S'=>h=O/\zGS E S' (S2 y)
theorem zQ (y:A⊕B) (H:Exit) (k:A->AState) (O:Exit) (S2:B->AState) (h:Avc P r E c (yS0 E H k O S2 y) S) (T:∀z,y= .inl z->K H (k z)) (Y:∀z,y= .inr z->K O (S2 z)):Avc P r E c K S:=by rcases y with y | y;exact zVW (e:=H) (S2:=k y) h (T y rfl);exact zVW (e:=O) (S2:=S2 y) h (Y y rfl)
end
open Go.RowKit Go.M
section
variable {P:Program} {r:Option Nat} {E:Env} {S:AState} {d ty:Nat} {pos:String} {af:Array Edge} {g:Option (Nat×Bool)}
theorem z0W {f:FuncId} {xs:List Operand} {ats:Array TypeId} {args:List Cap} {D:AV} {T H:List (Nat×Blk)} {keep:List Nat} (σ:List (Nat×Nat)) (hc:GCA P f args T keep D H) (hn:d<E.n) (ac:(σ.map Prod.fst).Nodup/\(σ.map Prod.snd).Nodup)
  (h:ArgsAs σ (xs.map S.ev) args) (Y:args.all (Cap.idsLt σ)=true) (ab:D.idsLt σ =true) (hT:BlksAs S σ T) (O:zDG σ T=true) (K:zDG σ H=true)
  (Z:zSP S σ T=true) (aa:∀k,E.nm k=none) (hE:E.wrB=true) (hG:E.gdt=uB P:=by rfl):
  jQ P r E ⟨some d,.call {callee:= .value (.func f),args:=xs.toArray,argTypes:=ats},ty,pos,af,g⟩ S
   (((S.killL (zLD σ keep H)).setL (renL σ H++zPD σ T H)).put d (D.ren σ)):=
 zZA σ hn (zV4 ac) (extra:=[]) (λA w I ρ C _=>⟨[],by simp[Act.eval],Pw.nil⟩) (by rw[et];exact h) Y ab hT O K (zN2 Z) (λk _=> .inl (aa _)) hc hE hG
theorem yKB {w:World} {I D:Im} {ys:List Value} {cells:List DV} (h:Reps w D ys cells) (H:∀x∈cells,∃u,x= .v u):Reps w I ys cells:=
 ⟨h.1,λj y x K k=>by
  obtain⟨u,rfl⟩:=H x (eV k);have:=h.2 j y _ K k;cases this;exact .v _⟩
theorem yOM {f e size n off id k0:Nat} {x y:Operand} {ats:Array TypeId} {L D:List DV} {fv:DV} (hn:d<E.n) (hx:S.ev x= .rs id off n) (hy:S.ev y= .d fv) (hb:S.blk id= .row e size false L) (h0:0<n) (bl:off+n*size<=L.length)
  (hv:∀x∈D,∃u,x= .v u) (hc:GC P f [.row k0,.d fv] [(k0,.win e size 0 ((L.drop off).take (n*size)))] [k0] [] [(k0,.win e size 0 D)]) (hE:E.wrB=true) (hG:E.gdt=uB P:=by rfl):
  jQ P r E ⟨some d,.call {callee:= .value (.func f),args:= #[x,y],argTypes:=ats},ty,pos,af,g⟩ S
   ((S.setBlk id (.row e size false (L.take off++D++L.drop (off+n*size)))).put d (.tupc [])):=by
 rintro A w K Q ⟨I,ρ,C,hs⟩ hk
 obtain⟨⟨fn,hf,be,ax⟩,ay⟩:=hc;have cz:S.blk id≠ .none:=by rw[hb];simp
 have bk:=hs.blks id;rw[hb] at bk;obtain⟨⟨hp,hM⟩,n0,xs,hl,bt,h1,hr,hI⟩:=bk;have ak:=hs.ev x;rw[hx] at ak;obtain⟨A',c,ak,br,hA⟩:=ak;obtain⟨T,ai,rfl⟩:=hA h0;have ar:=hs.ev y;rw[hy] at ar;have ar:Rep w I (A.eval y) fv:=ar;have dn:0<n*size:=Nat.mul_pos h0 hp;have eq:xs.length=L.length:=hr.1;rcases bt.2 with ⟨ad,_⟩ | ⟨gb,ce,H,ad,hB,hh,bf,cq,az,bx⟩
 ·rw[ad] at ai;cases ai
 have cm:T=gb:=by rw[ad] at ai;simpa[blockOf] using ai.symm
 subst cm;have al:∀j,¬I T j:=λj Y=>by have:=(hI T j (by rw[ad];rfl) Y).1;cases this
 have bm:T<w.heap.size:=(cU.1 hh).1;have ck:L.length<=H.size:=by rw[az,hl];exact dU _ bf
 have bh:∀(j:Nat) v,xs[j]? =some v->H[j]? =some v:=λj v Y=>by
  rw[<-bx,d6] at Y;split at Y
  ·simpa using Y
  ·cases Y
 let I1:Im:=λb j=>I b j\/(b=T/\(j<off\/off+n*size<=j))
 let cb:Nat->Value:=λ_=>A.eval x
 have ag:∀b j,I b j->I1 b j:=λb j h=> .inl h;have ao:Same I w w:=λ_ _ _=>KeepB.refl;have ba:Frag w I1 cb [(k0,.win e size 0 ((L.drop off).take (n*size)))]:=by
  refine⟨λk=>?_,λk k' b am ac aw _=>?_⟩
  ·by_cases aq:k=k0
   ·subst aq
    rw[kL,dG rfl];refine⟨_,n,c,(xs.drop off).take (n*size),ak,br,hp,by simp;omega,Reps.mono ((hr.drop off).take (n*size)) ao ag,λu hu=>h1 u (eP (eD hu)),.inr ⟨T,off,H,rfl,trivial,hh,by omega,λj u Y=>?_,λj ei ej Y=>?_⟩⟩
    ·rw[d6] at Y
     split at Y
     ·rw[eQ] at Y;exact bh _ u Y
     ·cases Y
    ·rcases Y with Y | ⟨_,Y⟩
     ·exact absurd Y (al j)
     ·omega
   ·rw[kL,dN (λe=>aq e.symm)]
    trivial
  ·exfalso
   have e1:k=k0:=by
    by_cases e:k=k0
    ·exact e
    ·exfalso;apply ac;rw[kL,dN (λq=>e q.symm)];rfl
   have e2:k'=k0:=by
    by_cases e:k'=k0
    ·exact e
    ·exfalso;apply aw;rw[kL,dN (λq=>e q.symm)];rfl
   exact am (e1.trans e2.symm)
 have cj:∀b j,I1 b j->b<w.heap.size:=by
  rintro b j (h | ⟨rfl,_⟩)
  ·exact(hs.old b j h).1
  ·exact bm
 have cp:=ay w I1 cb [A.eval x,A.eval y] cj ((hG▸hs.gl).sub ag) ba (Pw.cons rfl (Pw.cons (Rep.mono ar ao ag) Pw.nil));refine⟨λf _=>trivial,?_⟩;rw[Oper.semAt_eq _ _ _ (by simp)];have bw:(execOp A.eval ⟨some d,.call {callee:= .value (.func f),args:= #[x,y],argTypes:=ats},ty,pos,af,g⟩).run P w= .ok (.enter f #[A.eval x,A.eval y]) w:=by
  have cx:¬fn.name= "runtime.NumGoroutine" :=by simpa using be
  have cy:¬fn.body=none:=by intro e;simp[e] at ax
  simp[execOp,resolve,Act.eval,Deferred.ofValue,invoke,callFunc,hf,cx,cy]
 rw[bw];refine⟨by simp[fen,Fence.wide],?_⟩;show CallsIn Fence.wide 0 P f _ w _;refine gG.2 (cp.mono ?_)
 rintro e' w' ⟨v,I',ez,rfl,aa,an,dp,dm,ap,bv,da,bd⟩
 have bo:look Blk.none [(k0,Blk.win e size 0 D)] k0= .win e size 0 D:=by rw[kL,dG rfl]
 have aq:=bd k0 (by simp) (by rw[bo];simp)
 have au:=ap.ok k0;rw[bo] at au;obtain⟨A2,n2,c2,ys,ab,_,_,cw,bu,ch,ci⟩:=au;rw[aq] at ab;have ab:A.eval x= .slice A2 n2 c2:=ab;rw[ak] at ab;cases ab;rcases ci with ⟨bg,_⟩ | ⟨b2,dr,O,bg,_,bn,cr,cn,_⟩
 ·cases bg
 cases bg;have dg:ys.length=n*size:=by rw[bu.1];exact cw
 have ah:∀j,(j<off\/off+n*size<=j)->O[j]? =H[j]?:=λj Y=>by
  have:=(an T j (.inr ⟨rfl,Y⟩)).cell;rw[e9 w' T j O e (0,0) bn,e9 w T j H e (0,0) hh] at this;exact this
 have df:O.size=H.size:=by
  have ac:O[H.size]? =none:=by rw[ah H.size (.inr (by omega))];simp
  have aw:O.size<=H.size:=by
   by_cases bp:H.size<O.size
   ·rw[fJ bp] at ac;cases ac
   ·omega
  by_cases bp:off+n*size<H.size
  ·have:=ah (H.size-1) (.inr (by omega))
   rw[fJ (by omega:H.size-1<H.size)] at this;have:=(cU.1 this).1;omega
  ·omega
 have bj:O.toList=H.toList.take off++ys++H.toList.drop (off+n*size):=by
  apply fR;intro j;by_cases ac:j<off
  ·rw[c9,dY (by simp;omega),d6,dG ac]
   have:=ah j (.inl ac);simpa using this
  ·by_cases aw:j<off+n*size
   ·have bc:(H.toList.take off).length=off:=by simp;omega
    rw[c9,dV (by omega),dY (by omega),bc];have ca:ys[j-off]? =some ys[j-off]:=cS (by omega);have:=cn (j-off) _ ca;rw[ca,show off+(j-off)=j by omega] at*;simpa using this
   ·have bc:(H.toList.take off++ys).length=off+n*size:=by simp;omega
    rw[dV (by omega),bc,eQ,show off+n*size+(j-(off+n*size))=j by omega];have:=ah j (.inr (by omega));simpa using this
 have Z:Same I w w':=λb j h=>an b j (.inl h);have ct:w.grownBy w' (some T):=⟨aa.os,aa.tape,aa.output,aa.size,λk hk am=>aa.block k hk (by
  rintro⟨i,_,hi⟩
  have hi:blockOf (A.eval x)=some k:=hi;rw[ak] at hi;exact am (by simpa[blockOf] using hi.symm))⟩
 have bz:xs.take off++ys++xs.drop (off+n*size)=O.toList.take (n0*size):=by
  rw[bj,<-bx];have hL:off+n*size<=n0*size:=by rw[<-hl];exact bl
  exact(zV8 dg hL (by simp;rw[az];exact dU _ bf)).symm
 have de:Reps w' I (xs.take off++ys++xs.drop (off+n*size)) (L.take off++D++L.drop (off+n*size)):=
  ((Reps.mono (hr.take off) Z λ_ _ h=>h).append (yKB bu hv)).append (Reps.mono (hr.drop _) Z λ_ _ h=>h)
 have bq:=hs.modify (id:=id) (x:= .row e size false (L.take off++D++L.drop (off+n*size))) ct cz (by rw[ad];rfl) Z ⟨⟨hp,hM⟩,n0,xs.take off++ys++xs.drop (off+n*size),by simp;omega,⟨by simp;omega,.inr ⟨T,ce,O,ad,hB,bn,bf,cq,by rw[df];exact az,bz.symm⟩⟩,by
   intro u hu;simp only[eK] at hu;rcases hu with (hu | hu) | hu
   ·exact h1 u (eD hu)
   ·exact ch u hu
   ·exact h1 u (eP hu),de,by
   intro g' j bb hi;rw[ad] at bb;simp[Value.ownBlock] at bb;subst bb;exact absurd hi (al j)⟩ hE
 refine hk _ _ ⟨I,ρ,C,bq.put hn ?_⟩;obtain⟨zs,hz,dh⟩:=bv;exact⟨zs,hz,cP dh.1▸Pw.nil⟩
end
end Go.AV
namespace Go.M
def zM3 {h:Type} (f:List h->Option (List h)) (l:List h) (a b:Int):Option (List h):=
 if 0<=a/\a<b/\b.toNat<=l.length then (f ((l.drop a.toNat).take (b.toNat-a.toNat))).map λm=>l.take a.toNat++m++l.drop b.toNat else none
end Go.M
namespace Go.AV
open Go.RowKit Go.M
section
variable {P:Program} {r:Option Nat} {E:Env} {S:AState} {d ty:Nat} {pos:String} {af:Array Edge} {g:Option (Nat×Bool)}
theorem yS1 (l:List Int):∀x∈eI.all l,∃u,x= .v u:=by intro x k;obtain⟨n,_,h⟩:=iD.1 k;have h:x∈[di n]:=h;simp at h;exact⟨_,h⟩
theorem yON {D:Type} {en:En D} {f e id K:Nat} {x y:Operand} {ats:Array TypeId} {l Z:List D} {a b:Int} {T:DV} {mf:List D->Option (List D)} (hn:d<E.n) (hx:S.ev x= .rs id (a.toNat*en.size) (b.toNat-a.toNat)) (hy:S.ev y= .d T) (hb:S.blk id= .row e en.size false (en.all l))
  (H:zM3 mf l a b=some Z) (hv:∀(m:List D),∀x∈en.all m,∃u,x= .v u) (hc:∀m h,mf m=some h->GC P f [.row K,.d T] [(K,.win e en.size 0 (en.all m))] [K] [] [(K,.win e en.size 0 (en.all h))]) (hE:E.wrB=true) (hG:E.gdt=uB P:=by rfl):
  jQ P r E ⟨some d,.call {callee:= .value (.func f),args:= #[x,y],argTypes:=ats},ty,pos,af,g⟩ S ((S.setBlk id (.row e en.size false (en.all Z))).put d (.tupc [])):=by
 unfold zM3 at H;split at H
 ·rename_i O
  obtain⟨h,hm,rfl⟩:=fa.1 H;have Y:=hc _ _ hm;have e0:en.all ((l.drop a.toNat).take (b.toNat-a.toNat))=((en.all l).drop (a.toNat*en.size)).take ((b.toNat-a.toNat)*en.size):=by rw[zF5,zDN]
  rw[e0] at Y;have k:a.toNat*en.size+(b.toNat-a.toNat)*en.size=b.toNat*en.size:=by rw[<-eG];congr 1;omega
  have h2:=yOM (P:=P) (r:=r) (E:=E) (S:=S) (d:=d) (ty:=ty) (pos:=pos) (af:=af) (g:=g) (ats:=ats) hn hx hy hb (by omega) (by rw[k,jH];exact dU _ O.2.2) (hv h) Y hE hG
  have e1:en.all (l.take a.toNat++h++l.drop b.toNat)=(en.all l).take (a.toNat*en.size)++en.all h++(en.all l).drop (a.toNat*en.size+(b.toNat-a.toNat)*en.size):=by
   rw[k,zF5,zDN];simp[En.all,List.flatMap_append]
  rw[e1];exact h2
 ·cases H
theorem z31 {O:Type} {en:En O} {t e bytes:Nat} {z:Value} {x lo hi:Operand} {id:Nat} {sh:Bool} {l:List O} {H K:IntKind} {a b:Int} (Z:d<E.n) (Y:SlTy P t e en.size bytes z) (hx:S.ev x= .row id) (hb:S.blk id= .row e en.size sh (en.all l)) (D:S.ev lo= .d (.v (.int H a))) (k:S.ev hi= .d (.v (.int K b)))
  (h0:0<=a) (h1:a<b) (T:b.toNat<=l.length):AOp P r E S ⟨some d,.slice t x (some lo) (some hi) none,ty,pos,af,g⟩ d (.rs id (a.toNat*en.size) (b.toNat-a.toNat)):=
 z3C Z Y hx hb (jH en l) (lo:=some lo) (hi:=some hi) (l:=a.toNat) (h:=b.toNat) ⟨⟨H,a,D,by omega⟩,⟨K,b,k,by omega⟩,by omega,T⟩
end
end Go.AV
namespace Go.M
def zBE {h k:Type} (f:List h->Option (List h)) (lo hi: k->Int) (l:List h) (items:List k):Option (List h):=items.foldl (λo x=>o.bind λl=>zM3 f l (lo x) (hi x)) (some l)
theorem zPV {h k:Type} (f:List h->Option (List h)) (lo hi: k->Int):∀items:List k,items.foldl (λ(o:Option (List h)) x=>o.bind λl=>zM3 f l (lo x) (hi x)) none=none
 | []=>rfl
 | _::r=>zPV f lo hi r
noncomputable def outK {h D:Type} (f:List h->Option (List h)) (lo hi: D->Int) (l:List h) (items:List D) (k:Nat):List h:=(zBE f lo hi l (items.take k)).getD []
theorem yCF {K O:Type} {f:List K->Option (List K)} {lo hi: O->Int} {l r:List K} {items:List O} (h:zBE f lo hi l items=some r) {k:Nat} {v: O} (Y:items[k]? =some v):zM3 f (outK f lo hi l items k) (lo v) (hi v)=some (outK f lo hi l items (k+1)):=by
 have hk:=(c8.1 Y).1;have e:zBE f lo hi l (items.take (k+1))=(zBE f lo hi l (items.take k)).bind λl=>zM3 f l (lo v) (hi v):=by
  unfold zBE;rw[List.take_add_one,Y,List.foldl_append];rfl
 have Z:∃x,zBE f lo hi l (items.take (k+1))=some x:=by
  cases D:zBE f lo hi l (items.take (k+1)) with
  | some x=>exact⟨x,rfl⟩
  | none=>
   exfalso;have H:=h;rw[<-ey (k+1) items] at H;unfold zBE at H D;rw[List.foldl_append,D,zPV] at H;cases H
 obtain⟨x,D⟩:=Z;rw[D] at e;unfold outK;rw[D];cases T:zBE f lo hi l (items.take k) with
 | none=>rw[T] at e;cases e
 | some y=>rw[T] at e;exact e.symm
theorem yFT {k D:Type} {f:List k->Option (List k)} {lo hi: D->Int} {l r:List k} {items:List D} (h:zBE f lo hi l items=some r):outK f lo hi l items items.length=r:=by unfold outK;rw[List.take_length,h];rfl
theorem yFU {k:Type} {f:List k->Option (List k)} {l D:List k} {a b:Int} (h:zM3 f l a b=some D):0<=a/\a<b/\b.toNat<=l.length:=by unfold zM3 at h;split at h;assumption;cases h
end Go.M
namespace Go.AV
open Go.RowKit Go.M
section
variable {P:Program} {r:Option Nat} {E:Env} {S:AState} {d:Nat} {ty:TypeId} {pos:String} {af:Array Edge} {g:Option (Nat×Bool)}
theorem NilL.app:∀{as bs cs ds:List DV},NilL as bs->NilL cs ds->NilL (as++cs) (bs++ds)
 | [],[],_,_,_,h=>h
 | [],_::_,_,_,h,_=>h.elim
 | _::_,[],_,_,h,_=>h.elim
 | _::_,_::_,_,_,h,k=>⟨h.1,NilL.app h.2 k⟩
theorem NilL.len:∀{as bs:List DV},NilL as bs->as.length=bs.length
 | [],[],_=>rfl
 | [],_::_,h=>h.elim
 | _::_,[],h=>h.elim
 | _::_,_::_,h=>by simp[NilL.len h.2]
theorem zXN {id e size:Nat} {as bs:List DV} (hb:S.blk id= .row e size false as) (D:NilL as bs):zGS E S (S.setBlk id (.row e size false bs)):=by
 rintro a w ⟨I,ρ,C,h⟩
 have T:=h.blks id;rw[hb] at T;obtain⟨hp,n,xs,hl,H,Z,hr,hI⟩:=T;have O:S.blk id≠ .none:=by rw[hb];simp
 have key:∀i,(S.setBlk id (.row e size false bs)).blk i≠ .none->S.blk i≠ .none:=by
  intro i hi;rw[yQ] at hi;by_cases k:id=i;subst k;exact O;simpa[k] using hi
 refine⟨I,ρ,C,⟨h.tmps,λi=>?_,λi Y b D hi K=>h.dist i Y b D (key i hi) (key Y K),h.frame,h.sub,h.old,h.size,h.defers,h.cI,λi b hi=>h.cB i b (key i hi),λi v hv hi=>h.nm i v hv (key i hi)⟩⟩;rw[yQ];by_cases k:id=i;subst k;simp only[dH];exact⟨hp,n,xs,by rw[<-D.len];exact hl,H,Z,zRA D hr,by rw[<-D.len];exact hI⟩
 simp only[k,cY];exact h.blks i
variable {α:Type} {en:En α} {l:List α} {t e bytes:Nat} {z:Value} {x:Operand}
theorem yKC {n:Int} {zero: α} (Y:d<E.n) (T:SlTy P t e en.size bytes z) (Z:S.ev x= .d (.v (.int .i64 n))) (k:mkM zero n=some l) (h:bytes<=32768) (D:E.nm d=none):
  jQ P r E ⟨some d,.makeSlice t x x,ty,pos,af,g⟩ S (((S.kill d).setBlk d (.row e en.size false (zKO z l.length))).put d (.row d)):=by
 unfold mkM at k;split at k
 ·rename_i O
  cases k;have H:n=((n.toNat:Nat):Int):=by omega
  have K:n.toNat*bytes<=140737488355328:=by
   have H:n.toNat*bytes<=4294967296*bytes:=dU _ O.2;have K:4294967296*bytes<=4294967296*32768:=gN _ h;omega
  have:=zYU (P:=P) (r:=r) (ty:=ty) (pos:=pos) (af:=af) (g:=g) Y T Z H K (by have:=O.2;unfold LIM at this;unfold maxLen;omega) D
  rw[List.length_replicate];exact this
 ·cases k
theorem yCG {n:Int} {zero: α} (D:NilL (z.cells.toList.map DV.v) (en.cells zero)) (h:mkM zero n=some l):NilL (zKO z l.length) (en.all l):=by
 unfold mkM at h;split at h;cases h;rw[List.length_replicate]
 induction n.toNat with
 | zero=>trivial
 | succ k H=>exact D.app H
 cases h
end
open Go.M
theorem wc {E:Env} {S S':AState} (ht:Cov S S'.tmps:=by repeat (first | exact trivial | refine⟨rfl,?_⟩)) (hb:zP4 S S'.blks:=by repeat (first | exact trivial | refine⟨rfl,?_⟩)) (hgh:∀C w,E.fr S.ghost C w->E.fr S'.ghost C w:=by exact λ_ _ h=>h):zGS E S S':=yEW ht hb hgh
abbrev GdO (o:Oper) (ops:Array Oper) (S:AState) (E:Env) (j t d:Nat) (b q:Bool):Prop:=(o.guard,(ops[j]?).bind (·.dst),o.dst,S.get t,Nat.blt d E.n,Nat.blt t E.n)=(some (j,q),some t,some d,AV.d (.v (.bool b)),true,true)
section
variable {P:Program} {r:Option Nat} {E:Env} {S S':AState} {l:List Oper} {J:AState->Prop} {fuel i d j t:Nat} {listed:List Bool} {is:List Nat} {o:Oper} {x:AV} {b:Bool} {ops:Array Oper} {rest:List Oper}
theorem xa (H:l[i]? =some o) (h:AOp P r E S o d x) (k:zG1 P r E l J fuel (listed.set i true) (S.put d x)) (K:AnyE P r E l J fuel listed S is) (D:o.guard=none:=by rfl):AnyE P r E l J fuel listed S (i::is):=yNB H D h k K
theorem xb (H:l[i]? =some o) (h:jQ P r E o S S') (k:zG1 P r E l J fuel (listed.set i true) S') (K:AnyE P r E l J fuel listed S is) (D:o.guard=none:=by rfl):AnyE P r E l J fuel listed S (i::is):=yNA H D h k K
theorem xc (H:l[i]? =some o) (h:AOp P r E S o d x) (k:zG1 P r E l J fuel (listed.set i true) (S.put d x)) (D:o.guard=none:=by rfl):AnyE P r E l J fuel listed S [i]:=yNB H D h k z9K
theorem xd (H:l[i]? =some o) (h:jQ P r E o S S') (k:zG1 P r E l J fuel (listed.set i true) S') (D:o.guard=none:=by rfl):AnyE P r E l J fuel listed S [i]:=yNA H D h k z9K
theorem xn (is:List Nat) (h:AnyE P r E l J fuel listed S is) (D:rdy l listed=is:=by kernel_rfl) (k:is.isEmpty=false:=by rfl):zG1 P r E l J (fuel+1) listed S:=yQ7 is D k h
theorem sqt (x:AV) (D:GdO o ops S E j t d b true) (h:b=true->AOp P r E S o d x) (k:Sq P r E ops rest (S.put d (.cond (gd true b) x)) J):Sq P r E ops (o::rest) S J:=by injection D with H D;injection D with K D;injection D with O D;injection D with T D;injection D with Y Z;exact yQW H K O (lq Y) (lq Z) T h k
theorem sqf (x:AV) (D:GdO o ops S E j t d b false) (h:b=false->AOp P r E S o d x) (k:Sq P r E ops rest (S.put d (.cond (gd false b) x)) J):Sq P r E ops (o::rest) S J:=by injection D with H D;injection D with K D;injection D with O D;injection D with T D;injection D with Y Z;exact yQW H K O (lq Y) (lq Z) T (λhb=>h (gF hb)) k
theorem dat (x:AV) (D:GdO o ops S E j t d b true) (h:b=true->AOp P r E S o d x) (k:DA P r E ops rest (S.put d (.cond (gd true b) x)) J):DA P r E ops (o::rest) S J:=by injection D with H D;injection D with K D;injection D with O D;injection D with T D;injection D with Y Z;exact yQX H K O (lq Y) (lq Z) T h k
theorem daf (x:AV) (D:GdO o ops S E j t d b false) (h:b=false->AOp P r E S o d x) (k:DA P r E ops rest (S.put d (.cond (gd false b) x)) J):DA P r E ops (o::rest) S J:=by injection D with H D;injection D with K D;injection D with O D;injection D with T D;injection D with Y Z;exact yQX H K O (lq Y) (lq Z) T (λhb=>h (gF hb)) k
theorem zZ {c:Operand} {y z:Code} {K:Exit->AState->Prop} {k:Type} {A B:Option k} {q:Option k} (h:cond b A B=q) (H:A=q->Avc P r E y K S) (O:B=q->Avc P r E z K S) (D:S.ev c= .d (.v (.bool b)):=by rfl):Avc P r E (.cond c y z) K S:=
 zJL D ⟨λe=>H (cT e h),λe=>O (cF e h)⟩
end
section
variable {P:Program} {r:Option Nat} {E:Env} {S S':AState} {l:List Oper} {J:AState->Prop} {fuel d:Nat} {listed:List Bool} {x:Operand} {ty:TypeId} {pos:String} {af:Array Edge}
theorem xm (i:Nat) (k:zG1 P r E l J fuel (listed.set i true) (S.put d (S.ev x))) (hi:l[i]? =some ⟨some d,.move x,ty,pos,af,none⟩:=by rfl) (K:d<E.n:=by exact lq rfl) (O:r=none:=by rfl) (h:zZI l=true:=by rfl) (D:yCE l listed i ⟨some d,.move x,ty,pos,af,none⟩=true:=by rfl) (H:(rdy l listed).contains i=true:=by rfl):zG1 P r E l J (fuel+1) listed S:=yFQ hi K O h D H k
end
theorem fx {F G:Prop} (f:F) (h:F->G:=by first | exact λf=>OneTy.of f rfl (by kernel_rfl) | exact λf=>AggTy.of f rfl (by kernel_rfl) | exact λf=>FldTy.of f rfl (by kernel_rfl) (by decide) | exact λf=>SlTy.of f (by kernel_rfl) rfl (by decide) rfl | exact λf=>StTy.of f (by kernel_rfl) (by kernel_rfl) rfl):G:=h f
theorem co {F H G:Prop} (f:F) (k:H) (h:F->H->G:=by exact λf k=>z2T f (by kernel_rfl) rfl (lq rfl) (lq rfl) k):G:=h f k
theorem ae {E:Env} {P:Program} {r:Option Nat} {l:List Oper} {fuel:Nat} {listed:List Bool} {S S2:AState} {e:Exit} (k:rdy l listed= []:=by rfl) (h:zGS E S S2:=by exact wc):zG1 P r E l (outK E e S2 e) fuel listed S:=yKA k (z6W h)
theorem tl {E:Env} {P:Program} {r:Option Nat} {S:AState} {K:Exit->AState->Prop} {c:Code} (e:Exit) (S2:AState) (h:Avc P r E c (outK E e S2) S) (k:K e S2):Avc P r E c K S:=zVW h k
theorem oi {k:Type} {a b: k} (h:some a=some b):a=b:=g6 h
open Go.RowKit Go.M
def pnd (a:Act) (vs:Nat->Value):List (Nat×Nat)->Act
 | []=>a
 | u::U=>(pnd a vs U).put (some u.2) (vs u.2)
def unf (listed:List Bool) (U:List (Nat×Nat)):List Bool:=(List.range listed.length).map λk=>listed.getD k true&& !U.any λu=>u.1==k
section
variable {P:Program} {r:Option Nat} {E:Env} {l:List Oper} {J:AState->Prop} {S:AState}
def FlS (P:Program) (r:Option Nat) (E:Env) (l:List Oper) (S:AState) (u:Nat×Nat):Prop:= ∃o,l[u.1]? =some o/\o.guard=none/\u.2∉o.looksAt l.toArray/\AOp P r E S o u.2 (S.get u.2)
def yQ8 (P:Program) (r:Option Nat) (E:Env) (l:List Oper) (J:AState->Prop) (h:List (Nat×Nat)) (fuel:Nat) (listed:List Bool) (S:AState):Prop:=
 ∀(U:List (Nat×Nat)),U.Nodup->(∀u∈U,u∈h)->∀(vs:Nat->Value) (a:Act) (w:World),Sat E S (pnd a vs U) w->wpAnyIn (fen r) 0 P .any l.toArray (QJ E J) (fuel+U.length) (unf listed U).toArray a w
end
open Go.RowKit Go.M
section
variable {P:Program} {r:Option Nat} {E:Env} {l:List Oper} {J:AState->Prop} {S:AState} {fl:List (Nat×Nat)} {listed:List Bool} {fuel:Nat}
def FlA (P:Program) (r:Option Nat) (E:Env) (l:List Oper) (S:AState):List (Nat×Nat)->Prop
 | []=>True
 | u::fl=>FlS P r E l S u/\FlA P r E l S fl
theorem FlA.mem:∀{fl:List (Nat×Nat)},FlA P r E l S fl->∀u∈fl,FlS P r E l S u
 | [],_,u,h=>by cases h
 | v::fl,h,u,k=>by
  rcases dM.1 k with e | k;rw[e];exact h.1;exact h.2.mem u k
def AnyG (P:Program) (r:Option Nat) (E:Env) (l:List Oper) (J:AState->Prop) (fl:List (Nat×Nat)) (fuel:Nat) (listed:List Bool) (S:AState):List Nat->Prop
 | []=>True
 | i::is=>(∃o S',l[i]? =some o/\o.guard=none/\jQ P r E o S S'/\yQ8 P r E l J fl fuel (listed.set i true) S')/\AnyG P r E l J fl fuel listed S is
theorem AnyG.mem:∀{is:List Nat} {i:Nat},AnyG P r E l J fl fuel listed S is->i∈is->∃o S',l[i]? =some o/\o.guard=none/\jQ P r E o S S'/\yQ8 P r E l J fl fuel (listed.set i true) S'
 | [],_,_,h=>by cases h
 | k::is,i,h,hi=>by
  rcases dM.1 hi with e | hi;subst e;exact h.1;exact AnyG.mem h.2 hi
end
end Go.AV
namespace Go.M
end Go.M
namespace Go.AV
open Go.RowKit Go.M
section
variable {P:Program} {r:Option Nat} {E:Env} {S:AState} {d:Nat} {ty:TypeId} {pos:String} {af:Array Edge} {g:Option (Nat×Bool)}
theorem z7A {α:Type} {en:En α} {l l':List α} {t e:TypeId} {n:Nat} {zs:List Value} {x hi:Operand} {k2:IntKind} {b:Int} (hn:d<E.n) (Z:ArTy P t n en.size e zs) (ad:l.length=n) (hp:0<n) (hx:S.ev x= .d (.pt (en.all l))) (ac:S.ev hi= .d (.v (.int k2 b))) (h:slc l 0 b=some l'):
  AOp P r E S ⟨some d,.slice t x none (some hi) none,ty,pos,af,g⟩ d (.d (zI en l')):=
 ⟨rfl,hn,λS' ha=>z7 rfl hn (by simp) λA w I ρ C hs=>by
  obtain⟨rfl,h0,h1,h2⟩:=zCM h;have Y:=hs.ev x;rw[(ha.ev (x:=x) (by simp[Op.operands])).trans hx] at Y;have h4:=hs.val ((ha.ev (x:=hi) (by simp[Op.operands])).trans ac);have ab:b=(b.toNat:Int):=by omega
  generalize b.toNat=k at*;subst ab;generalize hv:A.eval x=v at Y;cases Y with
  | pt O off xs _ ag hc T hr=>
   have D:=jH en l;have aa:(Instr.sliceBounds false n n none (some (.int k2 k)) none).run P w= .ok (0,k,n) w:=by
    simp[Instr.sliceBounds,wG (P:=P) w k2 k n _ (by omega)]
   rw[ad] at D;have hR:Rep w I (.slice (some ⟨O,off,none⟩) n n) (.sl en.size (en.all l)):= .sl O off n n en.size xs _ hp (dC _) D ag hc T hr;have K:=zY2 (l:=0) (h:=k) hR D Z.pos (gD _) (by omega);rw[dN (by omega)] at K;have H:n≠0:=by omega
   simp only[e6,zAC,gz,fE,Nat.sub_zero,d8] at K;refine⟨.slice (some ⟨O,off,none⟩) k n,?_,?_⟩
   ·simp only[execOp,Instr.sliceAt,cQ,dJ Z.und,cV,hv,e6,gv,h4,Instr.sureAddr,dT,aa,Z.size,H.symm,H,cY,zAC,gz,fE,Nat.sub_zero]
   ·rw[zDN] at K
    exact K⟩
theorem zO0 {Y:Type} {en:En Y} {l:List Y} {t e:TypeId} {n off:Nat} {zs:List Value} {cells:List DV} {x O:Operand} {kk:IntKind} {i:Int} {v: Y} (hn:d<E.n) (hT:ArTy P t n en.size e zs) (H:l.length=n) (hx:S.ev x= .ip cells off) (hi:S.ev O= .d (.v (.int kk i))) (hv:yD l i=some v):
  AOp P r E S ⟨some d,.indexAddr t x O,ty,pos,af,g⟩ d (.ip cells (off+i.toNat*en.size)):=
 ⟨rfl,hn,λS' ha=>z7 rfl hn (by simp) λA w I ρ C hs=>by
  have h:=hs.ev x;rw[(ha.ev (by simp[Op.operands])).trans hx] at h;have Z:=hs.ev O;rw[(ha.ev (by simp[Op.operands])).trans hi] at Z;have k:=zPT Z;obtain⟨b,T,xs,K,hr,h1,D⟩:=h;have hk:=(wY hv).2.2.1;rw[(wY hv).2.1] at k;rw[H] at hk;refine⟨.pointer (some ⟨b,T+(off+i.toNat*en.size),none⟩),?_,b,T,xs,rfl,hr,h1,D⟩;simp only[execOp,K,k,cQ,zMH hT hk kk w b (T+off),fV];rfl⟩
theorem yFV {H K:Type} {en:En H} {h:En K} {Z:List H} {l:List K} {t:TypeId} {x:Operand} {i j:Int} {v: H} {u: K} (hn:d<E.n) (hT:OneTy P t) (hx:S.ev x= .ip (en.all Z) (i.toNat*en.size+j.toNat*h.size)) (hv:yD Z i=some v) (hu:yD l j=some u)
  (Y:en.cells v=h.all l) (O:h.cells u= [h.dv u]):AOp P r E S ⟨some d,.load t x,ty,pos,af,g⟩ d (.d (h.dv u)):=
 vC hn hT hx (by
  have D:h.size=1:=by have:=zVX (h.ok u);rw[show vN (h.dv u)=h.cells u from rfl,O] at this;simpa using this.symm
  have hj:=(wY hu).2.2;have k:j.toNat*h.size<en.size:=by
   have:=zVX (en.ok v);rw[show vN (en.dv v)=en.cells v from rfl,Y,jH] at this;rw[<-this,D];omega
  rw[zOS en (wY hv).2.2.2 _ k,Y];have T:=zOS h hj.2 0 (by omega);rw[fE] at T;rw[T,O];rfl)
end
open Go.RowKit Go.M
section
variable {P:Program} {r:Option Nat} {E:Env} {S:AState} {d:Nat} {ty:TypeId} {pos:String} {af:Array Edge} {g:Option (Nat×Bool)}
theorem yCH {α:Type} {en:En α} {t e bytes:Nat} {z:Value} {m Z:List α} {x s:Operand} {id:Nat} (hn:d<E.n) (hT:SlTy P t e en.size bytes z) (hs:S.ev s= .d (.v (.slice none 0 0))) (K:((S.kill id).setBlk id (.row e en.size false [])).ev x= .d (zI en m)) (ha:app [] m=some Z) (ai:0<bytes) (H:bytes<=32768)
  (hE:E.wrB=true) (O:E.nm id=none):
  jQ P r E ⟨some d,.call {callee:= .builtin .append,args:= #[s,x],argTypes:= #[t,t]},ty,pos,af,g⟩ S (((((S.kill id).setBlk id (.row e en.size false [])).kill id).setBlk id (.row e en.size false (en.all Z))).put d (.row id)):=
 zAQ (by simp) λA w I ρ C h=>by
  obtain⟨hl,k⟩:=zQ9 ha;rw[show Z=m from hl];have h2:=h.update (im w none) (id:=id) (u:= .slice none 0 0) (x:= .row e en.size false []) (by simp) (k6 I w) (by simp[blockOf])
   ⟨⟨hT.pos,by simp[upd,Value.ownBlock]⟩,0,[],by simp,by simp only[upd,dH];exact hO w _ e en.size,by simp,Pw.nil,by simp[upd,Value.ownBlock]⟩ (.inl rfl) O
  have D:((S.kill id).setBlk id (.row e en.size false [])).blk id= .row e en.size false []:=by rw[yQ,dG rfl]
  have hb:=zZD (bytes:=bytes) H k;have Y:0+m.length<=maxLen:=by unfold maxLen;unfold LIM at k;simp at k;omega
  obtain⟨v,w',h3,T⟩:=zYT (ty:=ty) (pos:=pos) (af:=af) (g:=g) (s:=s) (x:=x) hn hT D (news:=en.all m) (n:=0) (m:=m.length) (by rw[K];rfl) (by simp) (jH en m) (by simpa using hb) Y hE O h2 (by rw[h.val hs];simp[upd])
  rw[K] at T;simp only[AState.shareAV,D,Blk.appended,dO] at T;exact⟨v,w',h3,T⟩
end
end Go.AV
namespace Go.M
theorem yFW {k:Type} {a b:Int} {x y:Option k} {r: k} (h:cond (decide (a=b)) x y=some r):(a=b/\x=some r)\/y=some r:=by by_cases e:a=b;simp only[e,dA,cO] at h;exact .inl ⟨e,h⟩;simp only[e,dF,cN] at h;exact .inr h
theorem gT {k:Type} [Inhabited k] {m:Option k} {r: k} (h:gM true m=some r):m=some r:=h
end Go.M
namespace Go.AV
open Go.RowKit Go.M
end Go.AV
namespace Go.M
theorem yS2 {k:Type} {a b:Option k} {r: k} (h:cond true a b=some r):a=some r:=h
theorem yS3 {k:Type} {a b:Option k} {r: k} (h:cond false a b=some r):b=some r:=h
def goB (h:Bool) (n k:Nat):Bool:=!(h&&Nat.beq (k+1) n)
def zML {A S:Type} (body:S->A->Option (Bool×S)):S->List A->Option (Nat×Bool×S)
 | s,[]=>some (0,true,s)
 | s,x::xs=>match body s x with
  | none=>none
  | some (false,h)=>some (1,false,h)
  | some (true,h)=>(zML body h xs).map λr=>(r.1+1,r.2)
def zPE {A S:Type} (body:S->A->Option (Bool×S)):Nat->S->List A->S
 | 0,s,_=>s
 | _+1,s,[]=>s
 | k+1,s,x::xs=>match body s x with
  | none=>s
  | some (_,h)=>zPE body k h xs
theorem z0X {A S:Type} {body:S->A->Option (Bool×S)}:∀{l:List A} {s k:S} {n:Nat} {b:Bool},zML body s l=some (n,b,k)->n<=l.length
 | [],s,k,n,b,h=>by cases h;exact dC _
 | x::xs,s,k,n,b,h=>by
  simp only[zML] at h;cases hb:body s x with
  | none=>rw[hb] at h;cases h
  | some p=>
   obtain⟨g,H⟩:=p;rw[hb] at h;cases g with
   | false=>cases h;simp
   | true=>
    simp only[fa,Prod.exists,iH] at h;obtain⟨m,b2,K,D,rfl,rfl,rfl⟩:=h;have:=z0X D;simp;omega
theorem z32 {A S:Type} {body:S->A->Option (Bool×S)}:∀{l:List A} {s K:S} {n:Nat} {b:Bool},zML body s l=some (n,b,K)->
  ∀{k:Nat} {x:A},(l.take n)[k]? =some x->body (zPE body k s l) x=some (goB (!b) (l.take n).length k,zPE body (k+1) s l)
 | [],s,K,n,b,h,k,x,H=>by simp at H
 | y::xs,s,K,n,b,h,k,x,H=>by
  have Y:=z0X h;simp only[zML] at h;cases hb:body s y with
  | none=>rw[hb] at h;cases h
  | some p=>
   obtain⟨g,s2⟩:=p;rw[hb] at h;cases g with
   | false=>
    cases h;cases k with
    | zero=>
     simp only[List.take_succ_cons,iz,List.getElem?_cons_zero,fC] at H;subst H;simp only[zPE,hb];rfl
    | succ k=>simp at H
   | true=>
    simp only[fa,Prod.exists,iH] at h;obtain⟨m,b2,s3,D,rfl,rfl,rfl⟩:=h;rw[List.take_succ_cons] at H ⊢;cases k with
    | zero=>
     simp only[List.getElem?_cons_zero,fC] at H;subst H;have T:goB (!b2) ((y::xs.take m).length) 0=true:=by
      unfold goB;cases b2 with
      | true=>rfl
      | false=>
       have Z:xs.take m≠[]:=λe=>by
        cases xs with
        | nil=>simp only[zML] at D;cases D
        | cons z zs=>
         have h2:=z0X D;cases m with
         | zero=>
          simp only[zML] at D;cases O:body s2 z with
          | none=>rw[O] at D;cases D
          | some p=>
           obtain⟨g,s4⟩:=p;rw[O] at D;cases g with
           | false=>cases D
           | true=>
            simp only[fa,Prod.exists,iH] at D;obtain⟨_,_,_,_,e1,_⟩:=D;omega
         | succ m=>simp at e
       cases hq:xs.take m with
       | nil=>exact absurd hq Z
       | cons _ _=>rfl
     simp only[zPE,hb,T]
    | succ k=>
     simp only[List.getElem?_cons_succ] at H;have:=z32 D H;simp only[zPE,hb];rw[this];have:goB (!b2) (xs.take m).length k=goB (!b2) (y::xs.take m).length (k+1):=by
      unfold goB;rw[dR];congr 2
     rw[this]
theorem z9L {A S:Type} {body:S->A->Option (Bool×S)}:∀{l:List A} {s k:S} {n:Nat} {b:Bool},zML body s l=some (n,b,k)->zPE body n s l=k
 | [],s,k,n,b,h=>by cases h;rfl
 | y::xs,s,k,n,b,h=>by
  simp only[zML] at h;cases hb:body s y with
  | none=>rw[hb] at h;cases h
  | some p=>
   obtain⟨g,H⟩:=p;rw[hb] at h;cases g with
   | false=>cases h;simp only[zPE,hb]
   | true=>
    simp only[fa,Prod.exists,iH] at h;obtain⟨m,b2,K,D,rfl,rfl,rfl⟩:=h;simp only[zPE,hb];exact z9L D
theorem yKD {A S:Type} {body:S->A->Option (Bool×S)} {l:List A} {s k:S} {n:Nat} (h:zML body s l=some (n,false,k)):0<(l.take n).length:=by
 cases l with
 | nil=>cases h
 | cons y xs=>
  cases n with
  | zero=>
   simp only[zML] at h;cases hb:body s y with
   | none=>rw[hb] at h;cases h
   | some p=>
    obtain⟨g,H⟩:=p;rw[hb] at h;cases g with
    | false=>cases h
    | true=>
     simp only[fa,Prod.exists,iH] at h;obtain⟨_,_,_,_,D,_⟩:=h;omega
  | succ n=>simp
theorem zZK {A S B:Type} {body:S->A->Option (Bool×S)} (f:A->B) {l:List A} {s H:S} {n:Nat} {b:Bool} (h:zML body s l=some (n,b,H)) {k:Nat} {x:A} (D:(l.take n)[k]? =some x):
  body (zPE body k s l) x=some (goB (!b) ((l.take n).map f).length k,zPE body (k+1) s l):=by
 rw[e7];exact z32 h D
theorem z9M {A S B:Type} {body:S->A->Option (Bool×S)} {f:A->B} {l:List A} {s k:S} {n:Nat} {b:Bool} (h:zML body s l=some (n,b,k)):zPE body ((l.take n).map f).length s l=k:=by rw[e7,dZ,gX (z0X h)];exact z9L h
theorem yKE {A S B:Type} {body:S->A->Option (Bool×S)} {f:A->B} {l:List A} {s D:S} {n:Nat} (h:zML body s l=some (n,false,D)):((l.take n).map f).isEmpty=false:=by
 have:=yKD h;cases k:l.take n with
 | nil=>rw[k] at this;simp at this
 | cons _ _=>rfl
end Go.M
namespace Go.AV
open Go.RowKit Go.M
theorem yQ9 {Sg:Type} {D:Exit} {n k:Nat} {s K:Sg} {Tf:Sg->List (Nat×Blk)} {S:AState} (h:some (true,s)=some (goF D n k,K)) (O:zP4 S (Tf s)):z6U D n k (Tf K) .normal S:=by
 cases H:goF D n k with
 | false=>rw[H] at h;cases h
 | true=>
  rw[H] at h;cases h;unfold z6U;rw[H];exact O
theorem yS4 {Sg:Type} {D:Exit} {n k:Nat} {s K:Sg} {Tf:Sg->List (Nat×Blk)} {S:AState} (h:some (false,s)=some (goF D n k,K)) (O:zP4 S (Tf s)):z6U D n k (Tf K) D S:=by
 cases H:goF D n k with
 | true=>rw[H] at h;cases h
 | false=>
  rw[H] at h;cases h;unfold z6U;rw[H];exact⟨rfl,O⟩
section
variable {P:Program} {r:Option Nat} {E:Env} {S:AState} {d:Nat} {ty:TypeId} {pos:String} {af:Array Edge} {g:Option (Nat×Bool)}
theorem yOO {x y:Operand} {a b:Bool} {tx tz:TypeId} (k:d<E.n) (K:P.underlying tx=some .bool) (O:S.ev x= .d (.v (.bool a))) (T:S.ev y= .d (.v (.bool b))):
  AOp P r E S ⟨some d,.binOp .neq tx x y tz,ty,pos,af,g⟩ d (.d (.v (.bool (!(a==b))))):=
 ⟨rfl,k,λ_ h=>jI rfl k (by simp) λA w I ρ C D=>by
  simp only[execOp,D.val ((h.ev (by simp[Op.operands])).trans O),D.val ((h.ev (by simp[Op.operands])).trans T)];have hb:binOp .neq tx (.bool a) (.bool b)=(do pure (.bool (!(<-Op.equal tx (.bool a) (.bool b))))):=rfl;have H:eqGuard .neq tx x y (.bool a) (.bool b)=pure ():=rfl;rw[hb,H];simp only[cQ,dT,cV,zNV K]⟩
end
theorem yS5 {Sg:Type} {n k:Nat} {s D:Sg} (h:some (false,s)=some (goB (!true) n k,D)):False:=by cases h
end Go.AV
namespace Go.M
end Go.M
namespace Go.AV
open Go.RowKit Go.M
end Go.AV
namespace Go.M
open Go.AV
end Go.M
namespace Go.AV
open Go.M
theorem lr {a b:Nat} (h:Nat.blt a b=true:=by exact rfl):a<b:=lq h
section
variable {α:Type} {x y: α} {G:Prop}
theorem er (h:some x=some y) (k:x=y->G:=by intro e;cases e;refine yE ?_;exact zV3 rfl):G:=k (oi h)
theorem es (h:some x=some y) (k:x=y->G:=by intro e;cases e;exact zV3 rfl):G:=k (oi h)
theorem ex (h:some x=some y) (k:x=y->G:=by intro e;cases e;intro q;cases q;exact z6W wc):G:=k (oi h)
theorem eo (h:some x=some y) (k:x=y->G:=by intro e;cases e;exact z6W wc):G:=k (oi h)
theorem ew (h:some x=some y) (k:x=y->G:=by intro e;cases e;exact wc):G:=k (oi h)
theorem ep (h:some x=some y) (k:x=y->G:=by intro e;cases e;exact⟨rfl,wc⟩):G:=k (oi h)
end
end Go.AV
namespace Go.M
end Go.M
namespace Go.AV
open Go.RowKit Go.M
section
variable {P:Program} {r:Option Nat} {E:Env} {S:AState} {d:Nat} {ty:TypeId} {pos:String} {af:Array Edge} {g:Option (Nat×Bool)} {κ ν:Type} {kv: κ->Value} {ev:En ν} {m:List (κ×ν)} {t kt vt:TypeId} {x:Operand}
section
variable {X Y:Type} {bs: κ×ν->X->Option (Stp X Y)} {bn:X->Option (Stp X Y)} {ex:Y->Exit} {st:Y->AState} {T:List Nat->X->AState} {q:List Nat} {x:X} {s:Stp X Y} {c:Code} {ops:Array Oper} {l:List Oper}
theorem Sq.mono {J D:AState->Prop} (H:∀S,J S->D S):∀(l:List Oper) {S:AState},Sq P r E ops l S J->Sq P r E ops l S D
 | [],_,h=>H _ h
 | _::l,_,⟨S',h,k⟩=>⟨S',h,Sq.mono H l k⟩
end
end
end Go.AV
namespace Go.M
def z9N (l:List Int):Option (List Int):=if l.length<=LIM then some (l.mergeSort λx y=>decide (x<=y)) else none
end Go.M
namespace Go.AV
open Go.RowKit Go.M Go.Sort
section
variable {P:Program} {α:Type} [Inhabited α]
theorem zWA {w:World} {g n off:Nat} {os:Array Obj} {h:Array Value} {e:TypeId} {k:Nat×Nat} (encV: α->Value) (d:Array α) (hb:w.heap[g]? =some (.cells h e k)):
  (grow (putRow encV (Sort.ahead w n) g off d) os).heap[g]? =some (.cells (putCells encV off d h) e k):=by
 have D:g<w.heap.size:=(cU.1 hb).1;rw[heap_grow_old _ _ (by simpa using D)];simp[putRow,mapBlock,Sort.ahead,Array.getElem?_modify,hb,onCells]
theorem zJP {w:World} {g n off k:Nat} {os:Array Obj} (encV: α->Value) (d:Array α) (D:k<w.heap.size) (h:k≠g):
  (grow (putRow encV (Sort.ahead w n) g off d) os).heap[k]? =w.heap[k]?:=by
 rw[heap_grow_old _ _ (by simpa using D)];have:g≠k:=λe=>h e.symm;simp[putRow,mapBlock,Sort.ahead,Array.getElem?_modify,this]
theorem yKF {f:FuncId} {e:Nat} {en:En α} {encV: α->Value} (hv:∀x,en.dv x= .v (encV x)) (al:en.size=1) (h1:∀x,(encV x).oneCell'=true) {l r:List α} (hl:r.length=l.length)
  (bm:∃fn,P.funcs[f]? =some fn/\(fn.name== "runtime.NumGoroutine")=false/\fn.body.isNone=false)
  (ax:l= []->∀(A:Option Addr) (c:Nat) (w:World),Calls P f #[.slice A 0 c] w λen w'=>en= .returned (.tuple #[])/\w'=w)
  (ag:∀(blk off be:Nat) (w:World),Sort.Holds encV w blk off l.toArray->blk<w.heap.size->Calls P f #[.slice (some ⟨blk,off,none⟩) l.length be] w λen w'=>
   en= .returned (.tuple #[])/\∃n os,w'=grow (putRow encV (Sort.ahead w n) blk off r.toArray) os):
  GC P f [.row 0] [(0,.win e en.size 0 (en.all l))] [0] [] [(0,.win e en.size 0 (en.all r))]:=by
 have O:∀m:List α,en.all m=m.map λx=>DV.v (encV x):=λm=>by
  have:en.cells=λx=>[DV.v (encV x)]:=by funext x;simp[En.cells,hv,vN]
  simp only[En.all,this]
  induction m with
  | nil=>rfl
  | cons x m ih=>simp[ih]
 refine⟨bm,λw I ρ vs hI hG T ay=>?_⟩;have ar:=ay.1
 match vs,ar with
 | [v0],_=>
  have bu:v0= ρ 0:=ay.2 0 v0 (.row 0) rfl rfl;subst bu;have hk:=T.ok 0;have aw:look Blk.none [(0,Blk.win e en.size 0 (en.all l))] 0= .win e en.size 0 (en.all l):=rfl;rw[aw] at hk;obtain⟨A,n,c,xs,Y,bt,hp,aa,hr,cm,hA⟩:=hk;have hn:n=l.length:=by rw[jH] at aa;exact(Nat.eq_of_mul_eq_mul_right hp aa).symm
  subst hn;have bv:xs=l.map encV:=by
   have cj:xs.length=l.length:=by have:=hr.1;rw[O] at this;simpa using this
   apply fR;intro j;by_cases hj:j<xs.length
   ·have az:xs[j]? =some xs[j]:=cS hj
    have au:l[j]? =some (l[j]'(by omega)):=cS (by omega);have:=hr.2 j xs[j] (.v (encV (l[j]'(by omega)))) az (by rw[O];simp[au])
    rw[az,dW,au,zPT this];rfl
   ·rw[fQ (by omega),fQ (by simp;omega)]
  have own:∀b,xO [(0,Blk.win e en.size 0 (en.all l))] ρ b↔blockOf (ρ 0)=some b:=by
   intro b;constructor
   ·rintro⟨id,H,hb⟩
    by_cases K:0=id
    ·subst K;exact hb
    ·exact absurd (by rw[kL];simp[K,look]) H
   ·intro hb;exact⟨0,by rw[aw];simp,hb⟩
  have ac:∀b (am:Nat->Value),xO [(0,Blk.win e en.size 0 (en.all r))] am b->blockOf (am 0)=some b:=by
   rintro b am ⟨id,H,hb⟩
   by_cases K:0=id
   ·subst K;exact hb
   ·exact absurd (by rw[kL];simp[K,look]) H
  rcases hA with ⟨rfl,bq⟩ | ⟨b,off,arr,rfl,_,hh,ao,hc,ad⟩
  ·have ai:l= []:=cP bq
   have aj:r= []:=cP (by omega);subst ai;subst aj;have aa:=ax rfl none c w;rw[Y];refine aa.mono ?_
   rintro bf w' ⟨rfl,rfl⟩
   exact⟨_,I,ρ,rfl,Chg.refl _ _,k6 _ _,λ_ _ h=>h,λb j hi=>⟨hI b j hi,.inl hi⟩,T,⟨[],rfl,Pw.nil⟩,λb hb=>by have:=ac b ρ hb;rw[Y] at this;simp[blockOf] at this,λ_ _ _=>rfl⟩
  ·have hb:b<w.heap.size:=(cU.1 hh).1
   rw[al,gE] at ao ad;have hH:Sort.Holds encV w b off l.toArray:=by
    intro j hj;have ap:j<l.length:=by simpa using hj
    refine⟨?_,by simp[World.frozen?,hh]⟩;rw[e9 w b (off+j) arr e (0,0) hh];have:=hc j (encV (l[j])) (by rw[bv,dW,cS ap];rfl)
    rw[this];congr 2;simp[ap]
   rw[Y];refine(ag b off c w hH hb).mono ?_
   rintro bf w' ⟨rfl,q,os,rfl⟩
   have ak:Same I w (grow (putRow encV (Sort.ahead w q) b off r.toArray) os):=by
    intro Z j hi;by_cases e':Z=b
    ·subst e'
     have bx:j<off\/off+l.length<=j:=by
      rcases fF j off with h | h
      ·exact .inl h
      ·rcases fF j (off+l.length) with h2 | h2
       ·have:=ad j h h2 hi;omega
       ·exact .inr h2
     refine KeepB.ofCell hh ?_;rw[e9 _ Z j _ e (0,0) (zWA encV r.toArray hh),e9 w Z j arr e (0,0) hh];simp only[putCells,iC,fY,hl];have:¬(off<=j/\j<off+l.length):=by omega
     simp[this]
    ·exact KeepB.of (zJP encV _ (hI Z j hi) e')
   have an:blockOf (ρ 0)=some b:=by rw[Y];rfl
   refine⟨_,I,ρ,rfl,⟨rfl,rfl,rfl,by simp,λk hk H=>zJP encV _ hk (λe'=>H (by rw[own,an,e']))⟩,ak,λ_ _ h=>h,λZ j hi=>⟨by have:=hI Z j hi;simp;omega,.inl hi⟩,⟨λid=>?_,λid ba Z H bh bi=>?_⟩,⟨[],rfl,Pw.nil⟩,λZ bk=>?_,λ_ _ _=>rfl⟩
   ·by_cases K:0=id
    ·subst K
     show BlkOk _ I ρ _ 0 (.win e en.size 0 (en.all r));refine⟨_,l.length,c,r.map encV,Y,bt,hp,by rw[jH,hl],?_,by simpa using λx _=>h1 x,.inr ⟨b,off,putCells encV off r.toArray arr,rfl,trivial,zWA encV _ hh,?_,λj x hj=>?_,λj bo bp hi=>by rw[al,gE] at bp;have:=ad j bo (by omega) hi;omega⟩⟩
     ·rw[O]
      refine⟨by simp,λj x d hx hd=>?_⟩;rw[dW] at hx hd;cases D:r[j]? with
      | none=>simp[D] at hx
      | some y=>simp[D] at hx hd;subst hx;subst hd;exact .v _
     ·rw[al];simp[putCells];omega
     ·rw[dW] at hj
      cases D:r[j]? with
      | none=>simp[D] at hj
      | some y=>
       simp[D] at hj;subst hj;have aq:j<r.length:=(c8.1 D).1;simp only[putCells,iC,fY];have br:off+j<arr.size:=by omega
       rw[fJ br];have bn:off<=off+j/\off+j<off+r.length:=by omega
       simp only[e6,bn,iv,dH];have e3:off+j-off=j:=by omega
       rw[e3];congr 2;have:r[j]? =some r[j]:=cS aq;rw[this] at D;cases D;simp[aq]
    ·have:look Blk.none [(0,Blk.win e en.size 0 (en.all r))] id= .none:=by rw[kL];simp[K,look]
     rw[this];trivial
   ·exfalso
    by_cases K:0=id
    ·have:look Blk.none [(0,Blk.win e en.size 0 (en.all r))] ba= .none:=by rw[kL];simp[show ¬0=ba from λe1=>H (K.symm.trans e1),look]
     exact bi this
    ·have:look Blk.none [(0,Blk.win e en.size 0 (en.all r))] id= .none:=by rw[kL];simp[K,look]
     exact bh this
   ·have h2:=ac Z ρ bk
    refine⟨?_,.inr ((own Z).2 h2)⟩;rw[an] at h2;cases h2;simp;omega
end
open Go.RowKit Go.M
end Go.AV
namespace Go
section
variable {F:Fence} {n:Nat} {P:Program} {b:Frame} {a:Act} {k:List Item} {cs:List Frame} {w:World} {Q:Exit->Act->World->Prop}
theorem zFT {c:Code}:step P (lone (b.atR a (.code (.scope c)::k)) cs w)= .next (lone (b.atR a (.code c:: .inScope c::k)) cs w):=
 step_lone_go (by simp[stepG,stepG.exec,Frame.atR])
theorem zXO {c:Code}:step P (lone (b.atR a (.inScope c::k)) cs w)= .next (lone (b.atR a k) cs w):=
 step_lone_go (by simp[stepG,stepG.exec,Frame.atR])
def yS6 (Q:Exit->Act->World->Prop):Exit->Act->World->Prop
 | .goto _,_,_=>False
 | e,a,w=>Q e a w
theorem z7B {c:Code} (h:c.wpIn F n P (yS6 Q) a w):(Code.scope c).wpIn F n P Q a w:=by
 intro b k cs ad hb hr;have T:(lone (b.atR a (.code (.scope c)::k)) cs w).fenced P F:=fenced_calm hb hr rfl;obtain⟨e,H,K,Y,D⟩:=h b (.inScope c::k) cs ad hb hr;cases e with
 | normal=>exact⟨.normal,H,K,Y,.head T zFT (StepsIn.trans D (.one (fenced_calm hb hr rfl) zXO))⟩
 | exit O=>
  have hx:exitTo O (.inScope c::k)=exitTo O k:=by simp[exitTo]
  exact⟨.exit O,H,K,Y,λk' hk=> .head T zFT (D.1 k' (by rw[hx];exact hk)),
   λac hk=>let ⟨Z,h1,h2⟩:=D.2 ac (by rw[hx];exact hk);⟨Z,h1,.head T zFT h2⟩⟩
 | goto l=>exact Y.elim
 | ret=>exact⟨_,H,K,Y,.of_steps (.one T zFT) D⟩
 | panic ch=>exact⟨_,H,K,Y,.of_steps (.one T zFT) D⟩
 | outgrown=>exact⟨_,H,K,Y,.of_steps (.one T zFT) D⟩
end
end Go
namespace Go.AV
section
variable {P:Program} {r:Option Nat} {E:Env} {S:AState} {K:Exit->AState->Prop}
def yOP (K:Exit->AState->Prop):Exit->AState->Prop
 | .goto _,_=>False
 | e,S=>K e S
theorem yCJ {c:Code} (h:Avc P r E c (yOP K) S):Avc P r E (.scope c) K S:=λa w H=>
 z7B (gV (h a w H) λe O w' ⟨S',D,k⟩=>by
  cases e with
  | goto l=>exact D
  | _=>exact⟨S',D,k⟩)
theorem yCK {l:Nat} (h:K .normal S):Avc P r E (.label l) K S:=λ_ _ k=>wpIn_label ⟨S,h,k⟩
end
end Go.AV
namespace Go.M
def zWB {h:Type} (mk:Int->Int->h):List Int->List h
 | []=>[]
 | x::l=>l.map (mk x)
theorem z33 (l:List Int):(Lib.compact l++List.replicate (l.length-(Lib.compact l).length) 0).length=l.length:=by
 have:(Lib.compact l).length<=l.length:=by
  unfold Lib.compact Lib.compactUpTo;rw[e7];exact d9 (g9 ..) (by simp)
 rw[cX,List.length_replicate];omega
def z9O (l:List Int):Option (List Int):=if l.length<=LIM then some (Lib.compact l) else none
end Go.M
namespace Go.AV
open Go.RowKit Go.M Go.Sort
section
variable {P:Program} {α:Type} [Inhabited α]
theorem z34 (w:World):grow w #[]=w:=by simp[grow]
theorem z7C {f:FuncId} {e:Nat} {en:En α} {encV: α->Value} (hv:∀x,en.dv x= .v (encV x)) (bu:en.size=1) (h1:∀x,(encV x).oneCell'=true) {l c pad:List α} (hl:(c++pad).length=l.length)
  (bo:∃fn,P.funcs[f]? =some fn/\(fn.name== "runtime.NumGoroutine")=false/\fn.body.isNone=false)
  (ba:l= []->∀(A:Option Addr) (k:Nat) (w:World),Calls P f #[.slice A 0 k] w λen w'=>en= .returned (.slice A 0 k)/\w'=w)
  (ad:∀(blk off ac:Nat) (w:World),Sort.Holds encV w blk off l.toArray->l.length<=ac->Calls P f #[.slice (some ⟨blk,off,none⟩) l.length ac] w λen w'=>
   en= .returned (.slice (some ⟨blk,off,none⟩) c.length ac)/\∃q,w'=putRow encV (Sort.ahead w q) blk off (c++pad).toArray):
  GC P f [.row 0] [(0,.win e en.size 0 (en.all l))] [] [.d (zI en c)] []:=by
 have K:∀m:List α,en.all m=m.map λx=>DV.v (encV x):=λm=>by
  have:en.cells=λx=>[DV.v (encV x)]:=by funext x;simp[En.cells,hv,vN]
  simp only[En.all,this]
  induction m with
  | nil=>rfl
  | cons x m ih=>simp[ih]
 refine⟨bo,λw I ρ vs hI hG ai bc=>?_⟩;have ax:=bc.1
 match vs,ax with
 | [v0],_=>
  have bv:v0= ρ 0:=bc.2 0 v0 (.row 0) rfl rfl;subst bv;have hk:=ai.ok 0;have az:look Blk.none [(0,Blk.win e en.size 0 (en.all l))] 0= .win e en.size 0 (en.all l):=rfl;rw[az] at hk;obtain⟨A,n,cp,xs,al,bt,hp,ag,hr,cm,hA⟩:=hk;have hn:n=l.length:=by rw[jH] at ag;exact(Nat.eq_of_mul_eq_mul_right hp ag).symm
  subst hn;have bw:xs=l.map encV:=by
   have cj:xs.length=l.length:=by have:=hr.1;rw[K] at this;simpa using this
   apply fR;intro j;by_cases hj:j<xs.length
   ·have bd:xs[j]? =some xs[j]:=cS hj
    have ay:l[j]? =some (l[j]'(by omega)):=cS (by omega);have:=hr.2 j xs[j] (.v (encV (l[j]'(by omega)))) bd (by rw[K];simp[ay])
    rw[bd,dW,ay,zPT this];rfl
   ·rw[fQ (by omega),fQ (by simp;omega)]
  have own:∀b,blockOf (ρ 0)=some b->xO [(0,Blk.win e en.size 0 (en.all l))] ρ b:=λb hb=>⟨0,by rw[az];simp,hb⟩
  have aa:∀b (be:Nat->Value),¬xO [] be b:=by rintro b be ⟨id,Y,_⟩;exact Y rfl
  have ao:∀(w:World) (I:Im) (ρ:Nat->Value),Frag w I ρ []:=λw I ρ=>⟨λ_=>trivial,λid _ _ _ h=>absurd rfl h⟩;rcases hA with ⟨rfl,bq⟩ | ⟨b,off,arr,rfl,_,hh,ar,hc,ap⟩
  ·have aj:l= []:=cP bq
   have ah:c= []:=cP (by rw[cX] at hl;omega)
   subst aj;subst ah;rw[al];refine(ba rfl none cp w).mono ?_
   rintro bk w' ⟨rfl,rfl⟩
   exact⟨_,I,ρ,rfl,Chg.refl _ _,k6 _ _,λ_ _ h=>h,λb j hi=>⟨hI b j hi,.inl hi⟩,ao _ _ _,.nil _ _ _,λb hb=>absurd hb (aa b ρ),λ_ h=>by cases h⟩
  ·have hb:b<w.heap.size:=(cU.1 hh).1
   rw[bu,gE] at ar ap;have hH:Sort.Holds encV w b off l.toArray:=by
    intro j hj;have au:j<l.length:=by simpa using hj
    refine⟨?_,by simp[World.frozen?,hh]⟩;rw[e9 w b (off+j) arr e (0,0) hh];have:=hc j (encV (l[j])) (by rw[bw,dW,cS au];rfl)
    rw[this];congr 2;simp[au]
   have aq:blockOf (ρ 0)=some b:=by rw[al];rfl
   rw[al];refine(ad b off cp w hH bt).mono ?_
   rintro bk w' ⟨rfl,q,rfl⟩
   have O:∀k,k<w.heap.size->k≠b->(putRow encV (Sort.ahead w q) b off (c++pad).toArray).heap[k]? =w.heap[k]?:=λk hk Y=>by
    have:=zJP (os:= #[]) (n:=q) (off:=off) encV (c++pad).toArray hk Y
    rwa [z34] at this
   have Z:(putRow encV (Sort.ahead w q) b off (c++pad).toArray).heap[b]? =some (.cells (putCells encV off (c++pad).toArray arr) e (0,0)):=by
    have:=zWA (os:= #[]) (n:=q) (off:=off) encV (c++pad).toArray hh
    rwa [z34] at this
   have H:(putRow encV (Sort.ahead w q) b off (c++pad).toArray).heap.size=w.heap.size:=by simp[putRow,mapBlock,Sort.ahead]
   have ak:Same I w (putRow encV (Sort.ahead w q) b off (c++pad).toArray):=by
    intro T j hi;by_cases e':T=b
    ·subst e'
     have bx:j<off\/off+l.length<=j:=by
      rcases fF j off with h | h
      ·exact .inl h
      ·rcases fF j (off+l.length) with h2 | h2
       ·have:=ap j h h2 hi;omega
       ·exact .inr h2
     refine KeepB.ofCell hh ?_;rw[e9 _ T j _ e (0,0) Z,e9 w T j arr e (0,0) hh];simp only[putCells,iC,fY,hl];have:¬(off<=j/\j<off+l.length):=by omega
     simp[this]
    ·exact KeepB.of (O T (hI T j hi) e')
   have ag:c.length<=l.length:=by rw[cX] at hl;omega
   refine⟨_,λT j=>I T j\/(T=b/\off<=j/\j<off+c.length),ρ,rfl,⟨rfl,rfl,rfl,by rw[H];exact dC _,λk hk Y=>O k hk (λe'=>Y (own k (by rw[aq,e'])))⟩,ak,λ_ _ h=> .inl h,λT j hi=>?_,ao _ _ _,?_,λT bn=>absurd bn (aa T ρ),λ_ h=>by cases h⟩
   ·rcases hi with hi | ⟨rfl,_,_⟩
    ·exact⟨by rw[H];exact hI T j hi,.inl hi⟩
    ·exact⟨by rw[H];exact hb,.inr (.inr (own _ aq))⟩
   ·by_cases hz:c= []
    ·subst hz;exact .nil _ _ _
    have bb:0<c.length:=eU.2 hz;refine .sl b off c.length cp en.size (c.map encV) (en.all c) bb (by omega) (by rw[jH]) (by rw[K];simp) (λj x hj=>?_) (by simpa using λx _=>h1 x) (λj x d hx hd=>?_)
    ·rw[dW] at hj
     cases D:c[j]? with
     | none=>simp[D] at hj
     | some y=>
      simp[D] at hj;subst hj;have aw:j<c.length:=(c8.1 D).1;refine⟨?_,.inr ⟨rfl,by omega,by omega⟩⟩;rw[e9 _ b (off+j) _ e (0,0) Z];simp only[putCells,iC,fY];have br:off+j<arr.size:=by omega
      rw[fJ br];have bp:off<=off+j/\off+j<off+(c++pad).length:=by rw[hl];omega
      simp only[e6,bp,iv,dH];have e3:off+j-off=j:=by omega
      rw[e3];congr 2;have:c[j]? =some c[j]:=cS aw;rw[this] at D;cases D;simp only[List.getElem!_toArray,List.getElem!_eq_getElem?_getD,dY aw,this,gR]
    ·rw[K] at hd
     rw[dW] at hx hd;cases D:c[j]? with
     | none=>simp[D] at hx
     | some y=>simp[D] at hx hd;subst hx;subst hd;exact .v _
end
open Go.RowKit Go.M
end Go.AV
namespace Go.M
end Go.M
namespace Go.AV
open Go.RowKit Go.M
open Go.RowKit Go.Proofs Go.M
open Go.RowKit Go.M
def MapI {k:Type} (kv: k->Value) (w:World) (b:Nat) (mp:List (k×Int)):Prop:=
 ∃ents h,w.heap[b]? =some (.map ents h)/\Pw (λ(x:MapEntry) (p: k×Int)=>x.key=kv p.1/\x.val= .int .i64 p.2) ents.toList mp
theorem MapI.keep {D:Type} {kv: D->Value} {w w':World} {b:Nat} {mp:List (D×Int)} (h:MapI kv w b mp) (hb:w'.heap[b]? =w.heap[b]?):MapI kv w' b mp:=
 let ⟨ents,k,H,K⟩:=h
 ⟨ents,k,hb.trans H,K⟩
theorem MapI.lt {k:Type} {kv: k->Value} {w:World} {b:Nat} {mp:List (k×Int)} (h:MapI kv w b mp):b<w.heap.size:=
 let ⟨_,_,D,_⟩:=h
 (cU.1 D).1
theorem z7D {w:World} {B T e O s s' n m:Nat} {v u:Value} {xs ys:List Value} (h:w.ownsRow B e s v n xs) (k:w.ownsRow T O s' u m ys) (he:e≠O):v.ownBlock=none\/v.ownBlock≠u.ownBlock:=by rcases h.2 with ⟨rfl,_⟩ | ⟨g,Y,Z,rfl,_,hh,_⟩;exact .inl rfl;refine .inr λhb=>?_;rcases k.2 with ⟨rfl,_⟩ | ⟨g',H,K,rfl,_,D,_⟩;cases hb;cases hb;rw[hh] at D;cases D;exact he rfl
theorem z9P {K:Type} {kv: K->Value} {w:World} {B e s n b:Nat} {v:Value} {xs:List Value} {mp:List (K×Int)} (h:w.ownsRow B e s v n xs) (k:MapI kv w b mp):v.ownBlock≠some b:=by
 intro hb;obtain⟨ents,D,H,_⟩:=k;rcases h.2 with ⟨rfl,_⟩ | ⟨g,O,T,rfl,_,Y,_⟩
 cases hb;cases hb;rw[Y] at H;cases H
structure GIx (w:World) (B ts ti:Nat) (tA:Value) (vs:List Value) (gs:List (List Int)):Prop where
 row:w.ownsRow B ts 1 tA vs.length vs
 rows:Pw (λv (g:List Int)=>w.ownsRow B ti 1 v g.length (g.map (Value.int .i64))) vs gs
 dist:∀(i j:Nat) (v u:Value) (b:Nat),i≠j->vs[i]? =some v->vs[j]? =some u->v.ownBlock=some b->u.ownBlock≠some b
section
variable {w w':World} {B ts ti:Nat} {tA:Value} {vs:List Value} {gs:List (List Int)}
theorem GIx.nil (w:World) (B ts ti:Nat):GIx w B ts ti (.slice none 0 0) [] []:=⟨hO _ _ _ _,Pw.nil,λi j v u b _ h=>by simp at h⟩
theorem GIx.keep (h:GIx w B ts ti tA vs gs) {row:Option Nat} (k:w.grownBy w' row) (H:tA.ownBlock=none\/tA.ownBlock≠row) (K:∀v∈vs,v.ownBlock=none\/v.ownBlock≠row):GIx w' B ts ti tA vs gs:=
 ⟨h.row.kept k H,⟨h.rows.1,λj x y D O=>(h.rows.2 j x y D O).kept k (K x (eV D))⟩,h.dist⟩
theorem GIx.inner (h:GIx w B ts ti tA vs gs) {v:Value} (H:v∈vs):∃g,w.ownsRow B ti 1 v g.length (List.map (Value.int .i64) g):=by obtain⟨j,D,rfl⟩:=List.mem_iff_getElem.1 H;have k:j<gs.length:=h.rows.1▸D;exact⟨gs[j],h.rows.2 j _ _ (cS D) (cS k)⟩
theorem GIx.map {D:Type} {kv: D->Value} {b:Nat} {mp:List (D×Int)} (h:GIx w B ts ti tA vs gs) (k:MapI kv w b mp) (H:w.grownBy w' (some b)):GIx w' B ts ti tA vs gs:=
 h.keep H (.inr (z9P h.row k)) λv K=> .inr (let ⟨_,q⟩:=h.inner K;z9P q k)
theorem GIx.push (h:GIx w B ts ti tA vs gs) (O:ts≠ti) {k:Value} (Z:w.grownBy w' tA.ownBlock) (hr:w'.ownsRow B ts 1 k (vs.length+1) (vs++ [.slice none 0 0])):GIx w' B ts ti k (vs++ [.slice none 0 0]) (gs++ [[]]):=by
 refine⟨by simpa using hr,Pw.append ⟨h.rows.1,λj x y T Y=>(h.rows.2 j x y T Y).kept Z ?_⟩ (Pw.cons (hO _ _ _ _) Pw.nil),?_⟩
 ·rcases z7D (h.rows.2 j x y T Y) h.row (Ne.symm O) with q | q
  ·exact .inl q
  ·exact .inr q
 ·intro i j v u b K H D hb
  rw[List.getElem?_append] at H D;split at H
  ·split at D
   ·exact h.dist i j v u b K H D hb
   ·have:u= .slice none 0 0:=by
     have:=eV D;simpa using this
    subst this;intro e;cases e
  ·have:v= .slice none 0 0:=by
    have:=eV H;simpa using this
   subst this;cases hb
theorem GIx.put (h:GIx w B ts ti tA vs gs) (Y:ts≠ti) {w1 w2:World} {k:Nat} {v v':Value} {g:List Int} {x:Int} (O:vs[k]? =some v) (T:gs[k]? =some g)
  (hg:w.grownBy w1 v.ownBlock) (hr:w1.ownsRow B ti 1 v' (g.length+1) (g.map (Value.int .i64)++ [.int .i64 x])) (hl:v'.ownBlock=v.ownBlock\/v'.ownBlock=some w.heap.size)
  (ah:w1.grownBy w2 tA.ownBlock) (ai:w2.ownsRow B ts 1 tA vs.length (vs.set k v')):GIx w2 B ts ti tA (vs.set k v') (gs.set k (g++ [x])):=by
 have ag:w1.ownsRow B ts 1 tA vs.length vs:=h.row.kept hg (z7D h.row (h.rows.2 k v g O T) Y);have k2:∀{u:Value} {m:Nat} {ys:List Value},w1.ownsRow B ti 1 u m ys->w2.ownsRow B ti 1 u m ys:=λq=>q.kept ah (z7D q ag (Ne.symm Y));refine⟨by simpa using ai,⟨by simp[h.rows.1],λj u y D Z=>?_⟩,?_⟩
 ·rw[iy] at D Z
  by_cases e:k=j
  ·subst e
   have l1:=(c8.1 O).1;have l2:=(c8.1 T).1;simp[l1] at D;simp[l2] at Z;subst D;subst Z;have:=k2 hr;simpa using this
  ·simp only[e,cY] at D Z
   refine k2 ((h.rows.2 j u y D Z).kept hg ?_);cases hb:u.ownBlock with
   | none=>exact .inl rfl
   | some b=>exact .inr λe2=>h.dist j k u v b (Ne.symm e) D O hb e2.symm
 ·have lt:∀(i:Nat) (u:Value) (b:Nat),vs[i]? =some u->u.ownBlock=some b->b<w.heap.size:=λi u b D hb=>by
   obtain⟨_,q⟩:=h.inner (eV D);exact(q.lt b hb).2
  intro i j p u b H K D hb;rw[iy] at K D;have l1:=(c8.1 O).1;by_cases e:k=i
  ·subst e
   simp[l1] at K;subst K;simp only[H,cY] at D;rcases hl with hl | hl
   ·exact h.dist k j v u b H O D (hl▸hb)
   ·intro e3
    have:=lt j u b D e3;rw[hl] at hb;cases hb;omega
  ·simp only[e,cY] at K
   by_cases e2:k=j
   ·subst e2
    simp[l1] at D;subst D;rcases hl with hl | hl
    ·rw[hl]
     exact h.dist i k p v b H K O hb
    ·rw[hl]
     intro e3;cases e3;have:=lt i p _ K hb;omega
   ·simp only[e2,cY] at D
    exact h.dist i j p u b H K D hb
end
def yKG (s:List (Str×Int)×List (List Int)) (key:Str) (i:Nat):List (Str×Int)×List (List Int):=
 match mget s.1 key with
 | some g=>(s.1,s.2.set g.toNat (s.2.getD g.toNat []++ [(i:Int)]))
 | none=>(vD s.1 key (s.2.length:Int),s.2++ [[(i:Int)]])
def yRA (h:List Str):Nat->List (Str×Int)×List (List Int)
 | 0=>([],[])
 | k+1=>yKG (yRA h k) (h.getD k []) k
def yS7 (l:List Int):Bool:=decide (1<l.length)
def grpE (h:List Str):List (List Int):=(yRA h h.length).2.filter yS7
structure GOk (s:List (Str×Int)×List (List Int)) (k:Nat):Prop where
 val:∀p∈s.1,0<=p.2/\p.2.toNat<s.2.length
 len:s.2.length<=k
 each:∀g∈s.2,g.length<=k
open Go.RowKit Go.M
def yRB {h:Type} (e:En h):Option h->DV
 | none=> .v (.pointer none)
 | some x=> .pt (e.cells x)
theorem yFX {h:Type} (e:En h) (o:Option h):(AV.d (yRB e o)).one=true:=by cases o<;>rfl
theorem oN {D k:Type} {a:Option k} {f: D->Option k} {r: k} (h:Option.elim (none:Option D) a f=some r):a=some r:=h
theorem oS {D k:Type} {x: D} {a:Option k} {f: D->Option k} {r: k} (h:Option.elim (some x) a f=some r):f x=some r:=h
theorem z35 {w:World} {B e s n:Nat} {v:Value} {xs:List Value} (h:w.ownsRow B e s v n xs):blockOf v=v.ownBlock:=by rcases h.2 with ⟨rfl,_⟩ | ⟨g,k,D,rfl,_⟩<;>rfl
theorem yOQ {P:Program} {f:FuncId} {args:List Cap} {e size:Nat} (hp:0<size) (ai:∃fn,P.funcs[f]? =some fn/\(fn.name== "runtime.NumGoroutine")=false/\fn.body.isNone=false)
  (H:∀(w:World) (I:Im) (ρ:Nat->Value) (vs:List Value),Pw (HoldsC w I ρ) vs args->Calls P f vs.toArray w λen w'=> ∃v,en= .returned v/\w'.ownsRow w.heap.size e size v 0 []/\Below w.heap.size w w'):
  GC P f args [] [] [.row 0] [(0,.row e size false [])]:=by
 refine⟨ai,λw I ρ vs hI hG aj ak=>?_⟩;refine(H w I ρ vs ak).mono ?_
 rintro en w' ⟨v,rfl,D,hb⟩
 have K:∀id,id≠0->look Blk.none [(0,Blk.row e size false [])] id= .none:=λid h=>by
  rw[kL,dN (Ne.symm h)];rfl
 have h0:look Blk.none [(0,Blk.row e size false [])] 0= .row e size false []:=rfl;refine⟨v,I,λ_=>v,rfl,⟨hb.os,hb.tape,hb.output,hb.size,λk hk _=>hb.block k hk⟩,λb j hi=>KeepB.of (hb.block b (hI b j hi)),λ_ _ h=>h,λb j hi=>⟨eT (hI b j hi) hb.size,.inl hi⟩,⟨λid=>?_,λid Z b Y h1 O _ _=>?_⟩,rfl,λb ah=>?_,λid h _=>by cases h⟩
 ·by_cases T:id=0
  ·subst T
   rw[h0];refine⟨⟨hp,λ_ _=>trivial⟩,0,[],by simp,⟨D.1,?_⟩,(λx hx=>by cases hx),Pw.nil,λg j hg hi=>?_⟩
   ·rcases D.2 with h | ⟨g,ab,ac,h1,O,h3⟩
    ·exact .inl h
    ·exact .inr ⟨g,ab,ac,h1,gD _,h3⟩
   ·have:=(D.lt g hg).1
    have:=hI g j hi;omega
  ·rw[K id T]
   trivial
 ·have e1:id=0:=Classical.byContradiction λq=>h1 (K id q)
  have e2:Z=0:=Classical.byContradiction λq=>O (K Z q);exact absurd (e1.trans e2.symm) Y
 ·obtain⟨id,h1,O⟩:=ah
  rw[z35 D] at O;have:=D.lt b O;exact⟨this.2,.inl this.1⟩
theorem yKH {P:Program} {f:FuncId} {e size bytes:Nat} {z:Value} {i0:TypeInfo} {n:Nat} (hz:z.cells.size=size) (hi:i0.size=size) (K:i0.bytes=bytes) (hp:0<size) (O:∃H,P.funcs[f]? =some H/\(H.name== "runtime.NumGoroutine")=false/\H.body.isNone=false)
  (Z:n*bytes<=140737488355328) (T:n<=4611686018427387904)
  (k:∀(w:World),Calls P f #[.slice none 0 0,.int .i64 ((0:Nat):Int)] w λe w'=>e= .returned (.slice none 0 0)/\w'=w)
  (h:∀(w:World),0<0+n->(0+n)*i0.bytes<=140737488355328->0+n<=4611686018427387904->Calls P f #[.slice none 0 0,.int .i64 (n:Int)] w λen w'=>
   en= .returned (.slice (some ⟨w.heap.size,0,none⟩) 0 (grownCap w (0+n) 0 e))/\
   w'=w.drew.alloc (.cells (([]:List Value).toArray++Builtin.zeroCells z.cells (0+n-0)++Builtin.zeroCells z.cells (grownCap w (0+n) 0 e-(0+n))) e)):
  GC P f [.d (.v (.slice none 0 0)),.d (di (n:Int))] [] [] [.row 0] [(0,.row e size false [])]:=by
 refine yOQ hp O λw I ρ vs D=>?_;obtain⟨u,v,rfl⟩:∃u v,vs= [u,v]:=by
  have:=D.1
  match vs,this with
  | [u,v],_=>exact⟨u,v,rfl⟩
 have hu:Rep w I u (.v (.slice none 0 0)):=D.2 0 u _ rfl rfl;have hv:Rep w I v (.v (.int .i64 (n:Int))):=D.2 1 v _ rfl rfl;cases hu;cases hv;rcases Nat.eq_zero_or_pos n with rfl | hpos
 ·refine(k w).mono ?_
  rintro en w' ⟨rfl,rfl⟩
  exact⟨_,rfl,hO _ _ _ _,Below.refl _ _⟩
 ·refine(h w (by omega) (by rw[K,em];exact Z) (by omega)).mono ?_
  rintro en w' ⟨rfl,rfl⟩
  have hg:=grownCap_ge w (0+n) 0 e;have Y:=grownCap_le_maxLen w (0+n) 0 e (by unfold maxLen;omega)
  refine⟨_,rfl,⟨by simp,.inr ⟨w.heap.size,_,_,rfl,dC _,gP w.drew _,gD _,Y,?_,by simp⟩⟩,(Below.refl _ _).drew.alloc (dC _) _⟩;rw[Array.size_append,Array.size_append,size_zeroCells,size_zeroCells,hz];have:grownCap w (0+n) 0 e*size=n*size+(grownCap w (0+n) 0 e-(0+n))*size:=by rw[<-eG];congr 1;omega
  rw[this];simp
def z36 (n:Int):Option Unit:=if 0<=n/\n<=1000000 then some () else none
end Go.AV


/- The layer of abstract values: what a temporary holds, said once; every rule of it is proved from the model. Conditions: none. -/
import Derived.Test.YtjnpmmedmedokaaGreatDoorLa2
import Derived.Maps.RangeRun
import Derived.Sort.Grow
import Derived.Sort.EncStr
import Derived.Lib.SlicesCompact
import Derived.Lib.ItoaLen
set_option linter.unusedSimpArgs false
set_option linter.unusedVariables false
set_option linter.unnecessarySimpa false
namespace Go.AV
open Go.RowKit Go.M
section
variable {P:Program} {r:Option Nat} {E:Env} {S:AState} {d:Nat} {ty:TypeId} {pos:String} {af:Array Edge} {g:Option (Nat×Bool)}
theorem z3Y {t e:TypeId} {n es id:Nat} {zs:List Value} {x:Operand} {D:IntKind} (k:Nat) (K:d<E.n) (H:ArTy P t n es e zs) (hx:S.ev x= .ptr id 0) (hk:k<n):
  AOp P r E S ⟨some d,.slice t x (some (.const (.int D k))) none none,ty,pos,af,g⟩ d (.rs id (k*es) (n-k)):=
 ⟨rfl,K,λS' Y=>zY rfl K (by simp) λA w I ρ C hs=>by
  have h:=hs.ev x;rw[(Y.ev (x:=x) (by simp[Op.operands])).trans hx] at h;obtain⟨b,O,T⟩:=h;refine⟨_,?_,some ⟨b,k*es,none⟩,n-k,rfl,dA _,λ_=>⟨b,O,rfl⟩⟩;have G:n≠k:=by omega
  have hb:(Instr.sliceBounds false n n (some (.int D k)) none none).run P w= .ok (k,n,n) w:=by
   simp[Instr.sliceBounds,wC (P:=P) w D k n _ (by omega)]
  have Z:A.eval (.const (.int D k))= .int D k:=rfl;simp only[execOp,Instr.sliceAt,cS,dJ H.und,cW,T,eZ,gy,Z,Instr.sureAddr,dV,hb,H.size,G,cV,u7,eE]⟩
def yJ4 (cells:List AV) (off:Nat) (news:List AV):List AV:=cells.take off++news++cells.drop (off+news.length)
theorem z6X {t e bytes:Nat} {z:Value} {x y:Operand} {id eb off H m:Nat} {cells:List AV} {news:List DV} (hn:d<E.n) (hT:SlTy P t e 1 bytes z) (hx:S.ev x= .rs id off H) (hb:S.blk id= .box eb cells) (bh:off+H<=cells.length) (hp:0<H)
  (hy:S.ev y= .d (.sl 1 news)) (ah:news.length=m) (hE:E.wrB=true):
  jJ P r E ⟨some d,.call {callee:= .builtin .copy,args:= #[x,y],argTypes:= #[t,t]},ty,pos,af,g⟩ S ((S.setBlk id (.box eb (yJ4 cells off ((news.take (min m H)).map AV.d)))).put d (.d (.v (.int .i64 (min m H:Nat))))):=
 zAM (by simp) λA w I ρ C hs=>by
  have h1:=hs.ev x;rw[hx] at h1;obtain⟨D,c1,hv,_,ad⟩:=h1;obtain⟨b,aa,rfl⟩:=ad hp;have h2:=hs.ev y;rw[hy] at h2;obtain⟨B,G,c2,ys,bb,_,ai,ak,aw,az⟩:=Rep.sl_inv h2;have ba:G=m:=by rw[<-ah,ai];omega
  subst ba;have ag:=hs.blks id;rw[hb] at ag;obtain⟨K,arr,T,hB,hh,ac,aj,hI⟩:=ag;have ax:K=b:=by rw[T] at aa;simpa[blockOf] using aa
  subst ax;have bn:arr.size=cells.length:=by rw[<-eM,aj.1]
  have bc:ys.length=G:=by rw[ak.1,ah]
  have k:=λ(ab:Array Value)=>vS (w:=w) (I:=I) (b:=K) (arr:=ab) hI
  let zs:=ys.take (min G H)
  have ap:zs.length=min G H:=by simp only[zs,dZ,bc];omega
  have ao:∀u∈zs,u.oneCell'=true:=λu hu=>aw u (eC hu);have an:=run_storeCells_at P K off eb zs 0 arr w hh (by omega) ao;simp only[fJ] at an;have am:=hs.modify (zCJ w K (arr.toList.take off++zs++arr.toList.drop (off+zs.length)).toArray) (by rw[hb];simp) aa (k _) (x:= .box eb (yJ4 cells off ((news.take (min G H)).map AV.d)))
   ⟨K,_,T,hB,iy w K arr _ eb _ hh,by
    intro v hv';simp only[eQ] at hv';rcases hv' with (hv' | hv') | hv'
    ·exact ac v (eC hv')
    ·exact ao v hv'
    ·exact ac v (eP hv'),by
    have O:=aj.imp λ_ _ h=>Holds.mono h (k (arr.toList.take off++zs++arr.toList.drop (off+zs.length)).toArray) (λ_ _ h=>h);have al:Pw (Holds (w.setRow K (arr.toList.take off++zs++arr.toList.drop (off+zs.length)).toArray) I ρ) zs ((news.take (min G H)).map AV.d):=
     yOH (Reps.mono (ak.take _) (k _) (λ_ _ h=>h))
    unfold yJ4;rw[<-al.1];exact Pw.append (Pw.append (O.take off) al) (O.drop _),hI⟩ hE
  have Z:(Builtin.firstCells 1 (min G H) (.slice B G c2)).run P w= .ok zs.toArray w:=by
   by_cases h0:G=0
   ·subst h0
    have hz:zs= []:=cP (by rw[ap];omega)
    rw[hz,Nat.zero_min];cases B<;>simp[Builtin.firstCells,loadCells,loadCellsFrom]
   ·obtain⟨b2,o2,rfl,ay⟩:=az (by omega)
    refine run_firstCells_some w 1 (min G H) ⟨b2,o2,none⟩ G c2 zs (by rw[ap];omega) λj v hj=>?_
    rw[u7];simp only[zs,d5] at hj;split at hj
    ·exact(ay j v hj).1
    ·cases hj
  have Y:=zMA (P:=P) (ty:=ty) hT.und w _ (hT.size w) (some ⟨K,off,none⟩) B H c1 G c2 zs Z an;refine⟨_,_,?_,I,ρ,C,am.put hn (.v _)⟩;simp only[execOp,resolve,invoke,builtin,cS,dV,cW,eO,ez,fI,hv,bb,Y]
def cpA (l:List Int) (i:Nat) (x:Int):Int:=(l[i]?).getD x
theorem yS6 (l:List Int) (y x0 x1 x2 x3 x4 x5 x6 x7:Int):yJ4 ([y,x0,x1,x2,x3,x4,x5,x6,x7].map λv=>AV.d (di v)) 1 (((eI.all l).take (min l.length 8)).map AV.d)=
  [y,cpA l 0 x0,cpA l 1 x1,cpA l 2 x2,cpA l 3 x3,cpA l 4 x4,cpA l 5 x5,cpA l 6 x6,cpA l 7 x7].map λv=>AV.d (di v):=by
 match l with
 | []=>rfl
 | [_]=>rfl
 | [_,_]=>rfl
 | [_,_,_]=>rfl
 | [_,_,_,_]=>rfl
 | [_,_,_,_,_]=>rfl
 | [_,_,_,_,_,_]=>rfl
 | [_,_,_,_,_,_,_]=>rfl
 | a::b::c::dd::e::f::k::h::rest=>
  have:min (a::b::c::dd::e::f::k::h::rest).length 8=8:=by simp only[dO];omega
  rw[this];rfl
section win
variable {t e size bytes k n:Nat} {z:Value} {x:Operand} {id:Nat} {cells:List DV}
theorem z3Z {T:Operand} {kk:IntKind} {i:Int} {j:Nat} (hn:d<E.n) (Z:SlTy P t e size bytes z) (hx:S.ev x= .row id) (hb:S.blk id= .win e size k cells) (hi:S.ev T= .d (.v (.int kk i))) (hj:i=(j:Int)) (hl:cells.length=n*size) (K:j<n):
  AOp P r E S ⟨some d,.indexAddr t x T,ty,pos,af,g⟩ d (.wp id (j*size)):=
 ⟨rfl,hn,λS' G=>zY rfl hn (by simp) λA w I ρ C O=>by
  subst hj;have Y:=O.ev x;rw[(G.ev (x:=x) (by simp[Op.operands])).trans hx] at Y;have hv:A.eval x= ρ id:=Y;have hk:=O.blks id;rw[(G.blk id).trans hb] at hk;obtain⟨_,A',c,xs,D,aa,_,_,h⟩:=zKQ hk hl;obtain⟨b,off,arr,rfl,_⟩:=h (by omega);have H:=O.val ((G.ev (x:=T) (by simp[Op.operands])).trans hi);refine⟨_,?_,b,off,n,c,D,rfl⟩;simp only[execOp,hv,D,H,cS,zKJ w Z.und (Z.size w) b off n c kk j K];rfl⟩
theorem yB7 {tt:TypeId} {off:Nat} {y:DV} (hn:d<E.n) (hT:OneTy P tt) (hx:S.ev x= .wp id off) (hb:S.blk id= .win e size k cells) (hc:cells[off]? =some y):
  AOp P r E S ⟨some d,.load tt x,ty,pos,af,g⟩ d (.d y):=
 ⟨rfl,hn,λS' Z=>zY rfl hn (by simp) λA w I ρ C hs=>by
  have Y:=hs.ev x;rw[(Z.ev (x:=x) (by simp[Op.operands])).trans hx] at Y;obtain⟨b,o,n0,c0,T,hv⟩:=Y;have hk:=hs.blks id;rw[(Z.blk id).trans hb] at hk;obtain⟨A',n',c,xs,h,am,hp,al,hr,ai,G⟩:=hk;rw[T] at h;cases h;have O:off<xs.length:=by rw[hr.1];exact(cX.1 hc).1
  have H:=cO O;rcases G with ⟨G,_⟩ | ⟨b',ah,arr,G,hM,hh,hf,K,hI⟩
  ·cases G
  ·cases G
   refine⟨xs[off],?_,hr.2 off _ y H hc⟩;have D:w.cell? ⟨b,o+off,none⟩=some xs[off]:=by rw[fb w b (o+off) arr e (0,0) hh];exact K off _ H
   simp only[execOp,hv,cS,zHN w hT b _ _ D];rfl⟩
theorem SatAt.spliceW {A:Act} {w:World} {I:Im} {ρ:Nat->Value} {C:Nat->Prop} (hs:SatAt E S A w I ρ C) {off b o:Nat} {news:List DV} {ys:List Value} {n0 c0:Nat} (hb:S.blk id= .win e size k cells) (ai: ρ id= .slice (some ⟨b,o,none⟩) n0 c0)
  (hk:k*size<=off) (ar:off+news.length<=cells.length) (au:0<news.length) (ab:Reps w I ys news) (O:∀u∈ys,u.oneCell'=true) (hE:E.wrB=true):
  ∃w',(storeCells ⟨b,o+off,none⟩ ys).run P w= .ok () w'/\SatAt E (S.setBlk id (.win e size k (spl cells off news))) A w' I ρ C:=by
 have Y:=hs.blks id;rw[hb] at Y;obtain⟨A',n',c,xs,H,an,hp,am,hr,K,T⟩:=Y;have aj:=H;rw[ai] at H;cases H;have ao:ys.length=news.length:=ab.1;rcases T with ⟨T,h0⟩ | ⟨b',ay,arr,T,hM,hh,hf,Z,hI⟩
 ·cases T
 ·cases T
  have ah:=run_storeCells_at P b (o+off) e ys 0 arr w hh (by omega) O;simp only[fJ] at ah;have D:Same I w (w.setRow b (arr.toList.take (o+off)++ys++arr.toList.drop (o+off+ys.length)).toArray):=by
   intro b2 j hi;by_cases e':b2=b
   ·subst e'
    refine KeepB.ofCell hh (zS7 hh _ ?_);have aa:j<o+off\/o+off+ys.length<=j:=by
     rcases fK j o with h | h
     ·left;omega
     ·rcases fK j (o+n0*size) with h2 | h2
      ·have:=hI j h h2 hi;left;omega
      ·right;omega
    have bb:o+off+ys.length<=arr.size:=by omega
    simp only[eX,c8];rcases aa with h | h
    ·rw[dY (by simp;omega),d5,dI h];simp
    ·rw[dW (by simp;omega),dW (by simp;omega),eT]
     simp only[dZ,eM];rw[show o+off+ys.length+(j-min (o+off) arr.size-ys.length)=j by omega];simp
   ·exact KeepB.of (setRow_other w b b2 _ e')
  have ag:(spl cells off news).length=cells.length:=by simp[spl];omega
  refine⟨_,ah,hs.modify (zCJ w b _) (by rw[hb];simp) (by rw[ai];rfl) D ⟨_,n0,c0,xs.take off++ys++xs.drop (off+ys.length),aj,an,hp,by rw[ag,am],?_,?_,.inr ⟨b,o,_,rfl,hM,iy w b arr _ e _ hh,?_,?_,hI⟩⟩ hE⟩
  ·have ad:=hr.mono D (λ_ _ h=>h)
   have ac:=ab.mono D (λ_ _ h=>h);unfold spl;rw[<-ao];exact Pw.append (Pw.append (ad.take off) ac) (ad.drop (off+ys.length))
  ·intro v hv'
   simp only[eQ] at hv';rcases hv' with (hv' | hv') | hv'
   ·exact K v (eC hv')
   ·exact O v hv'
   ·exact K v (eP hv')
  ·simp;omega
  ·intro j u G
   have bd:xs.length=cells.length:=hr.1;have al:j<(xs.take off++ys++xs.drop (off+ys.length)).length:=(cX.1 G).1;simp only[cU,dZ,eH] at al;simp only[eX,c8] at G ⊢;rcases fK j off with h | h
   ·rw[dY (by simp;omega),d5,dI h] at G
    rw[dY (by simp;omega),d5,dI (by omega)]
    have:=Z j u G;simpa using this
   ·rcases fK j (off+ys.length) with h2 | h2
    ·rw[dW (by simp;omega),dY (by simp;omega)] at G
     rw[dW (by simp;omega),dY (by simp;omega)]
     simp only[dZ,eM] at G ⊢;rw[show o+j-min (o+off) arr.size=j-min off xs.length by omega];exact G
    ·rw[dW (by simp;omega),dW (by simp;omega),eT] at G
     rw[dW (by simp;omega),dW (by simp;omega),eT]
     simp only[dZ,eM] at G ⊢;rw[show off+ys.length+(j-min off xs.length-ys.length)=j by omega] at G;have:=Z j u G;rw[show o+off+ys.length+(o+j-min (o+off) arr.size-ys.length)=o+j by omega];simpa using this
theorem z6Y {tt:TypeId} {y:Operand} {off:Nat} {u:DV} (Z:OneTy P tt) (hx:S.ev x= .wp id off) (hb:S.blk id= .win e size k cells) (hk:k*size<=off) (O:off<cells.length) (hy:S.ev y= .d u) (h1:(AV.d u).one=true) (hE:E.wrB=true):
  jJ P r E ⟨none,.store tt x y,ty,pos,af,g⟩ S (S.setBlk id (.win e size k (cells.set off u))):=
 zGS rfl (by simp) λA w I ρ C K=>by
  have h:=K.ev x;rw[hx] at h;obtain⟨b,o,n0,c0,Y,hv⟩:=h;have H:=K.ev y;rw[hy] at H;have D:=zPU K.blks H h1 (by intro _ e;cases e)
  obtain⟨w',T,G⟩:=K.spliceW (P:=P) (off:=off) (news:=[u]) (ys:=[A.eval y]) hb Y hk (by simp only[dO,d6];omega) (by simp) (Pw.cons H Pw.nil) (by simpa using D) hE
  refine⟨w',?_,I,ρ,C,?_⟩
  ·simp only[execOp,hv,Instr.storeAt,Instr.sureAddr,storeVar,cS,dV,cW,Z.agg,Z.size,zLG D]
   simp[T]
  ·have e1:spl cells off [u]=cells.set off u:=by
    unfold spl;rw[gA,dI O];simp
   rw[e1] at G;exact G
theorem yB8 {y:Operand} {h m off G:Nat} {t1 t2:Bool} (hn:d<E.n) (hT:SlTy P t e size bytes z) (hx:S.ev x= .ws id (off*size) h t1) (hb:S.blk id= .win e size k cells) (hl:cells.length=n*size)
  (hy:S.ev y= .ws id (G*size) m t2) (hk:k<=off) (ar:off+h<=n) (au:G+m<=n) (hE:E.wrB=true):
  jJ P r E ⟨some d,.call {callee:= .builtin .copy,args:= #[x,y],argTypes:= #[t,t]},ty,pos,af,g⟩ S
   ((S.setBlk id (.win e size k (spl cells (off*size) (((cells.drop (G*size)).take (m*size)).take (min m h*size))))).put d (.d (.v (.int .i64 (min m h:Nat))))):=
 zAM (by simp) λA w I ρ C hs=>by
  have h1:=hs.ev x;rw[hx] at h1;obtain⟨D,c1,hv,_,_,aa⟩:=h1;have h2:=hs.ev y;rw[hy] at h2;obtain⟨B,c2,aj,_,_,O⟩:=h2;have ac:Nat.min m h=min m h:=rfl;by_cases h0:min m h=0
  ·have aq:SatAt E (S.setBlk id (.win e size k (spl cells (off*size) (((cells.drop (G*size)).take (m*size)).take (min m h*size))))) A w I ρ C:=by
    refine hs.congr' (λ_=>rfl) (λi=>?_);rw[yO];by_cases e':id=i
    ·subst e'
     rw[hb,h0];simp[spl]
    ·simp[e']
   refine⟨.int .i64 (min m h:Nat),w,?_,I,ρ,C,aq.put hn (.v _)⟩;have:=zMA (P:=P) (ty:=ty) hT.und w w (hT.size w) D B h c1 m c2 [] (by rw[ac,h0];cases B<;>simp[Builtin.firstCells,loadCells,loadCellsFrom]) (by cases D<;>simp[storeCells])
   simp only[execOp,resolve,invoke,builtin,cS,dV,cW,eO,ez,fI,hv,aj,this]
  ·obtain⟨b,o,n0,c0,Y,rfl⟩:=aa (by omega)
   obtain⟨b2,o3,n3,c3,K,rfl⟩:=O (by omega);rw[Y] at K;cases K;have ab:=hs.blks id;rw[hb] at ab;obtain⟨hp,A',c,xs,H,bf,hr,an,hA⟩:=zKQ ab hl;rw[Y] at H;cases H;obtain⟨b',bj,arr,ao,hM,hh,hf,ap,hI⟩:=hA (by omega);cases ao;have az:xs.length=n*size:=by rw[hr.1,hl]
   have bq:G*size+m*size<=n*size:=by rw[<-eG];exact dT _ au
   have br:off*size+h*size<=n*size:=by rw[<-eG];exact dT _ ar
   have bo:min m h*size<=m*size:=dT _ (by omega);have bp:min m h*size<=h*size:=dT _ (by omega);have aw:0<min m h*size:=Nat.mul_pos (by omega) hp
   let zs:=((xs.drop (G*size)).take (m*size)).take (min m h*size)
   have ag:Reps w I zs (((cells.drop (G*size)).take (m*size)).take (min m h*size)):=((hr.drop _).take _).take _;have ak:zs.length=min m h*size:=by simp only[zs,dZ,eH,az];omega
   have ad:(((cells.drop (G*size)).take (m*size)).take (min m h*size)).length=min m h*size:=by rw[<-ag.1,ak]
   obtain⟨w',ay,ai⟩:=hs.spliceW (P:=P) (off:=off*size) (ys:=zs) hb Y (dT _ hk) (by rw[ad,hl];omega) (by rw[ad];exact aw) ag (λu hu=>an u (eP (eC (eC hu)))) hE
   have T:(Builtin.firstCells size (min m h) (.slice (some ⟨b,o+G*size,none⟩) m c2)).run P w= .ok zs.toArray w:=by
    refine run_firstCells_some w size (min m h) ⟨b,o+G*size,none⟩ m c2 zs ak λj v Z=>?_;rw[u7,fb w b (o+G*size+j) arr e (0,0) hh];simp only[zs,d5,eT] at Z;split at Z
    ·split at Z
     ·rw[fX];exact ap _ v Z
     ·cases Z
    ·cases Z
   have:=zMA (P:=P) (ty:=ty) hT.und w w' (hT.size w) (some ⟨b,o+off*size,none⟩) (some ⟨b,o+G*size,none⟩) h c1 m c2 zs T ay;refine⟨_,w',?_,I,ρ,C,ai.put hn (.v _)⟩;simp only[execOp,resolve,invoke,builtin,cS,dV,cW,eO,ez,fI,hv,aj,this]
end win
end
open Go.RowKit Go.M
section
variable {P:Program} {r:Option Nat} {E:Env} {S:AState} {d:Nat} {ty:TypeId} {pos:String} {af:Array Edge} {g:Option (Nat×Bool)}
section win
variable {t e size bytes k n:Nat} {z:Value} {x:Operand} {id:Nat} {cells:List DV}
theorem z0P {Z xm:Operand} {k2 k3:IntKind} {Y:Int} {h:Nat} (hn:d<E.n) (hT:SlTy P t e size bytes z) (hx:S.ev x= .row id) (T:S.blk id= .win e size k cells) (hl:cells.length=n*size)
    (h2:S.ev Z= .d (.v (.int k2 Y))) (h3:S.ev xm= .d (.v (.int k3 Y))) (e2:Y=(h:Int)) (am:h<=n):
    AOp P r E S ⟨some d,.slice t x none (some Z) (some xm),ty,pos,af,g⟩ d (.ws id 0 h true):=
  ⟨rfl,hn,λS' H=>zY rfl hn (by simp) λA w I ρ C K=>by
    subst e2;have h1:=K.ev x;rw[(H.ev (x:=x) (by simp[Op.operands])).trans hx] at h1;have hv:A.eval x= ρ id:=h1;have hk:=K.blks id;rw[(H.blk id).trans T] at hk;obtain⟨_,O,c,xs,G,ac,_,_,D⟩:=zKQ hk hl;have v2:=K.val ((H.ev (x:=Z) (by simp[Op.operands])).trans h2);have v3:=K.val ((H.ev (x:=xm) (by simp[Op.operands])).trans h3);refine⟨_,?_,(if h=0 then O else O.map (·.add (0*size))),h-0,rfl,by omega,(by simp),λh0=>?_⟩
    · simp only[execOp,hv,G,cS,gy,eZ,v2,v3,z6V w hT.und (hT.size w) O n c 0 h h none k2 k3 (.inl ⟨rfl,rfl⟩) (by omega) (by omega) (by omega)]
      rfl
    · obtain⟨b,off,arr,rfl,_⟩:=D (by omega)
      refine⟨b,off,n,c,G,?_⟩;rw[dK (by omega)];simp[u7]⟩
theorem z30 {s:Operand} {off m:Nat} {news:List DV} {h:Nat} (hn:d<E.n) (hT:SlTy P t e size bytes z) (bg:S.ev s= .ws id (off*size) h true) (hb:S.blk id= .win e size k cells) (hl:cells.length=n*size) (am:off+h<=n)
  (hx:S.ev x= .d (.sl size news)) (aa:news.length=m*size) (hm:0<m) (ai:h+m<=maxLen) (H:(h+m)*bytes<=140737488355328) (bf:E.nm d=none):
  jJ P r E ⟨some d,.call {callee:= .builtin .append,args:= #[s,x],argTypes:= #[t,t]},ty,pos,af,g⟩ S (((S.kill d).setBlk d (.row e size false (((cells.drop (off*size)).take (h*size))++news))).put d (.row d)):=
 zAM (by simp) λA w I ρ C hs=>by
  obtain⟨i,hi,hz,rfl,rfl⟩:=hT.info;have h1:=hs.ev s;rw[bg] at h1;obtain⟨B,c,hv,_,bi,aj⟩:=h1;have bb:=bi rfl;subst bb;have h2:=hs.ev x;rw[hx] at h2;obtain⟨B2,G,c2,ys,bj,_,an,ah,ax,bc⟩:=Rep.sl_inv h2;obtain rfl:=zII an aa hT.pos;obtain⟨b2,o2,rfl,al⟩:=bc (by omega);have ak:=hs.blks id;rw[hb] at ak;obtain⟨hp,A',c3,xs,bm,bq,hr,aw,hA⟩:=zKQ ak hl;have ca:off*i.size+c*i.size<=n*i.size:=by rw[<-eG];exact dT _ am
  have bk:xs.length=n*i.size:=by rw[hr.1,hl]
  let D:=(xs.drop (off*i.size)).take (c*i.size)
  have ag:D.length=c*i.size:=by simp only[D,dZ,eH,bk];omega
  have ap:Reps w I D ((cells.drop (off*i.size)).take (c*i.size)):=(hr.drop _).take _;have bp:((c+G:Nat):Int)<=9223372036854775807:=by simp only[maxLen] at ai;omega
  have O:∃K,(Builtin.append_ #[t,t] ty #[.slice B c c,.slice (some ⟨b2,o2,none⟩) G c2]).run P w= .ok (.slice (some ⟨w.heap.size,0,none⟩) (c+G) (grownCap w (c+G) K e))
    (w.drew.alloc (.cells ((D++ys).toArray++Builtin.zeroCells z.cells (grownCap w (c+G) K e-(c+G))) e)):=by
   have Y:∀(j:Nat) u,ys[j]? =some u->w.cell? ((⟨b2,o2,none⟩:Addr).add j)=some u:=λj u Z=>by rw[u7];exact(al j u Z).1
   have ab:ys.length=G*i.size:=by rw[ah.1,aa]
   by_cases h0:c=0
   ·subst h0
    have ho:D= []:=cP (by rw[ag];omega)
    rw[ho];cases B with
    | none=>
     have:=run_append_nil (P:=P) w t ty e i z hT.und hi hz ⟨b2,o2,none⟩ G c2 ys ab Y (by omega) (by omega) (by simp only[eE] at H;omega)
     exact⟨0,by simpa using this⟩
    | some a=>
     have:=run_append_grow (P:=P) w t ty e i z hT.und hi hz a 0 0 [] (by simp) (λj u Z=>by simp at Z) ⟨b2,o2,none⟩ G c2 ys ab Y (by omega) (by omega) (growslice_fits (by omega) H);exact⟨0,by simpa using this⟩
   ·obtain⟨b,o,n0,c0,ac,rfl⟩:=aj (by omega)
    rw[bm] at ac;cases ac;obtain⟨b',bu,arr,ay,hM,hh,hf,az,hI⟩:=hA (by omega);cases ay;have:=run_append_grow (P:=P) w t ty e i z hT.und hi hz ⟨b,o+off*i.size,none⟩ c c D ag (λj u Z=>by
     rw[u7,fb w b _ arr e (0,0) hh];simp only[D,d5,eT] at Z;split at Z
     ·rw[fX];exact az _ u Z
     ·cases Z) ⟨b2,o2,none⟩ G c2 ys ab Y (by omega) (by omega) (growslice_fits (by omega) H)
    exact⟨c,by simpa using this⟩
  obtain⟨K,O⟩:=O;have be:=grownCap_ge w (c+G) K e;have ba:grownCap w (c+G) K e<=maxLen:=grownCap_le_maxLen w (c+G) K e ai;have bx:∀b j,I b j->b<w.heap.size:=λb j h=>(hs.old b j h).1;have bd:Below w.heap.size w w.drew:=⟨rfl,rfl,rfl,dA _,λ_ _=>rfl⟩;have bh:=hs.grow bd;have ab:ys.length=G*i.size:=by rw[ah.1,aa]
  have ao:=bh.newRow (id:=d) (e:=e) (size:=i.size) (n:=c+G) (c:=grownCap w (c+G) K e) (xs:=D++ys) (rest:=(Builtin.zeroCells z.cells (grownCap w (c+G) K e-(c+G))).toList) (cells:=((cells.drop (off*i.size)).take (c*i.size))++news)
   hT.pos (by rw[cU,<-ap.1,ag,aa,eG]) be ba (by rw[eM,size_zeroCells,hT.zs]) (by
    have T:Same I w w.drew:=λ_ _ _=>KeepB.of rfl;exact Pw.append (Reps.mono ap T λ_ _ h=>h) (ah.mono T λ_ _ h=>h)) (by
    intro u Z;rcases eQ.1 Z with h | h
    ·exact aw u (eP (eC h))
    ·exact ax u h) bf
  refine⟨_,_,?_,I,_,C,ao.put hn (show Holds _ _ _ (.slice (some ⟨w.heap.size,0,none⟩) (c+G) (grownCap w (c+G) K e)) (AV.row d) from by simp[Holds,upd])⟩;simp only[execOp,resolve,invoke,builtin,cS,dV,cW,eO,ez,fI,hv,bj,O];congr 2;congr 1;simp
end win
inductive View (S:AState):AV->DV->Prop
 | d (x:DV):View S (.d x) x
 | win {id e size k:Nat} {cells:List DV} (h:S.blk id= .win e size k cells):View S (.row id) (.sl size cells)
 | ws {id e size k off n N:Nat} {tt:Bool} {cells:List DV} (h:S.blk id= .win e size k cells) (hl:cells.length=N*size) (hf:off+n<=N):View S (.ws id (off*size) n tt) (.sl size ((cells.drop (off*size)).take (n*size)))
def ViewL (S:AState):List AV->List DV->Prop
 | [],ds=>ds= []
 | x::xs,ds=> ∃y ys,ds=y::ys/\View S x y/\ViewL S xs ys
theorem View.rep {a:Act} {w:World} {I:Im} {ρ:Nat->Value} {C:Nat->Prop} (hs:SatAt E S a w I ρ C) {v:Value} {x:AV} {y:DV} (h:View S x y) (hv:Holds w I ρ v x):Rep w (λb _=>b<w.heap.size) v y:=by
 have D:∀b j,I b j->(λb (_:Nat)=>b<w.heap.size) b j:=λb j hi=>(hs.old b j hi).1;cases h with
 | d=>exact Rep.mono hv (k7 I w) D
 | win hb=>
  rename_i id e size k cells;have hk:=hs.blks id;rw[hb] at hk;obtain⟨A,n,c,xs,Y,O,hp,hl,hr,h1,hA⟩:=hk;have T:v= .slice A n c:=Eq.trans hv Y;subst T;by_cases h0:n=0;subst h0;have:cells= []:=cP (by omega);subst this;exact .nil _ _ _;rcases hA with ⟨_,h⟩ | ⟨b,off,arr,rfl,hM,hh,hf,hc,hI⟩
  omega;have K:b<w.heap.size:=(cQ.1 hh).1;have G:=hr.mono (k7 I w) D;refine .sl b off n c size xs cells (by omega) O hl hr.1 (λj x Z=>⟨?_,K⟩) h1 G.2;rw[fb w b (off+j) arr e (0,0) hh];exact hc j x Z
 | ws hb hl hf=>
  rename_i id e size k off n N tt cells;have hk:=hs.blks id;rw[hb] at hk;obtain⟨hp,A',c3,xs,Y,ao,hr,ai,hA⟩:=zKQ hk hl;obtain⟨B,c,T,O,_,aa⟩:=hv;subst T;have az:off*size+n*size<=N*size:=by rw[<-eG];exact dT _ hf
  by_cases h0:n=0;subst h0;simp only[gB,iC];exact .nil _ _ _;obtain⟨b,o,n0,c0,H,rfl⟩:=aa (by omega);rw[Y] at H;cases H;obtain⟨b',aq,arr,ak,hM,hh,ay,al,hI⟩:=hA (by omega);cases ak;have K:b<w.heap.size:=(cQ.1 hh).1;have G:=Reps.mono ((hr.drop (off*size)).take (n*size)) (k7 I w) D;refine .sl b (o+off*size) n c size ((xs.drop (off*size)).take (n*size)) _ (by omega) O (by rw[dZ,eH,hl];omega) G.1 (λj x Z=>⟨?_,K⟩) (λu hu=>ai u (eP (eC hu))) G.2
  rw[fb w b _ arr e (0,0) hh];simp only[d5,eT] at Z;split at Z;rw[fX];exact al _ x Z;cases Z
theorem ViewL.reps {a:Act} {w:World} {I:Im} {ρ:Nat->Value} {C:Nat->Prop} (D:SatAt E S a w I ρ C):∀{vs:List Value} {xs:List AV} {ys:List DV},ViewL S xs ys->Pw (Holds w I ρ) vs xs->Reps w (λb _=>b<w.heap.size) vs ys
 | [],[],ys,h,_=>by cases h;exact Pw.nil
 | [],x::xs,ys,_,k=>by have:=k.1;simp at this
 | v::vs,[],ys,_,k=>by have:=k.1;simp at this
 | v::vs,x::xs,ys,⟨y,zs,e,G,H⟩,k=>by
  subst e;obtain⟨q1,q2⟩:=zIV k;exact Pw.cons (G.rep D q1) (ViewL.reps D H q2)
theorem yJ5 {f:FuncId} {xs:List Operand} {ats:Array TypeId} {ds rs:List DV} (hn:d<E.n) (hv:ViewL S (xs.map S.ev) ds) (hc:zC P f ds rs) (hG:E.gdt=zAS P:=by rfl):
  jJ P r E ⟨some d,.call {callee:= .value (.func f),args:=xs.toArray,argTypes:=ats},ty,pos,af,g⟩ S (S.put d (yNB rs)):=by
 rintro A w K Q ⟨I,ρ,C,O⟩ hk
 obtain⟨⟨fn,hf,D,h⟩,k⟩:=hc;have h3:=hv.reps O (zB9 O xs);have T:=k w (λb _=>b<w.heap.size) (xs.map A.eval) (λb j hi=>hi) ((hG▸O.gl).sub λb j hi=>(O.old b j hi).1) h3;refine⟨λf _=>trivial,?_⟩;rw[Oper.semAt_eq _ _ _ (by simp)];have H:(execOp A.eval ⟨some d,.call {callee:= .value (.func f),args:=xs.toArray,argTypes:=ats},ty,pos,af,g⟩).run P w= .ok (.enter f (xs.map A.eval).toArray) w:=by
  simp only[execOp,resolve,Act.eval,Deferred.ofValue];have Y:¬fn.name= "runtime.NumGoroutine" :=by simpa using D
  have Z:¬fn.body=none:=by intro e;simp[e] at h
  simp[invoke,callFunc,hf,Y,Z,eO]
 rw[H];refine⟨by simp[fen,Fence.wide],?_⟩;show CallsIn Fence.wide 0 P f _ w _;refine gJ.2 (T.mono ?_)
 rintro e w' ⟨v,I',rfl,hb,ac,ab,G⟩
 exact hk _ _ ⟨I,ρ,C,SatAt.put (O.grow hb) hn (z3X G)⟩
theorem zPL {t e:TypeId} (h:P.underlying t=some (.slice e)) (B:Option Addr) (n c:Nat) (w:World):(Op.equal t (.slice B n c) (.slice none 0 0)).run P w= .ok B.isNone w:=by show (Op.equalIn (9999+1) t (.slice B n c) (.slice none 0 0)).run P w=_;rw[Op.equalIn];cases B<;>simp[dJ h]
theorem yJ6 {t e:TypeId} {x:Operand} {size:Nat} {cells:List DV} {tz:TypeId} (K:d<E.n) (hu:P.underlying t=some (.slice e)) (hx:S.ev x= .d (.sl size cells)) (G:cells≠[]):
  AOp P r E S ⟨some d,.binOp .eql t x (.const (.slice none 0 0)) tz,ty,pos,af,g⟩ d (.d (.v (.bool false))):=
 ⟨rfl,K,λS' O=>jQ rfl K (by simp) λA w I ρ C Z=>by
  have H:=Z.ev x;rw[(O.ev (x:=x) (by simp[Op.operands])).trans hx] at H;obtain⟨B,n,c,xs,hv,_,hl,_,_,k⟩:=Rep.sl_inv H;have D:0<n:=by
   rcases Nat.eq_zero_or_pos n with h | h
   ·subst h;exact absurd (cP (by omega)) G
   ·exact h
  obtain⟨b,off,rfl,_⟩:=k D;have T:A.eval (.const (.slice none 0 0))= .slice none 0 0:=rfl;have hb:binOp .eql t (.slice (some ⟨b,off,none⟩) n c) (.slice none 0 0)=(do pure (.bool (<-Op.equal t (.slice (some ⟨b,off,none⟩) n c) (.slice none 0 0)))):=rfl;have Y:eqGuard .eql t x (.const (.slice none 0 0)) (.slice (some ⟨b,off,none⟩) n c) (.slice none 0 0)=pure ():=rfl;simp only[execOp,hv,T,hb,Y,cS,dV,cW,zPL hu];rfl⟩
theorem yB9 {t e:TypeId} {x:Operand} {B:Option Addr} {n c:Nat} {tz:TypeId} (h:d<E.n) (K:P.underlying t=some (.slice e)) (T:S.ev x= .d (.v (.slice B n c))):
  AOp P r E S ⟨some d,.binOp .eql t x (.const (.slice none 0 0)) tz,ty,pos,af,g⟩ d (.d (.v (.bool B.isNone))):=
 ⟨rfl,h,λS' k=>jQ rfl h (by simp) λA w I ρ C H=>by
  have O:=H.val ((k.ev (x:=x) (by simp[Op.operands])).trans T);have D:A.eval (.const (.slice none 0 0))= .slice none 0 0:=rfl;have hb:binOp .eql t (.slice B n c) (.slice none 0 0)=(do pure (.bool (<-Op.equal t (.slice B n c) (.slice none 0 0)))):=rfl;have G:eqGuard .eql t x (.const (.slice none 0 0)) (.slice B n c) (.slice none 0 0)=pure ():=rfl;simp only[execOp,O,D,hb,G,cS,dV,cW,zPL K]⟩
theorem z0Q {t:Nat} {B:Option Addr} {c:Nat} (size:Nat) (D:t<E.n) (G:S.get t= .d (.v (.slice B 0 c))):zGM E S (S.put t (.d (.sl size []))):=by
 rintro a w ⟨I,ρ,C,h⟩
 refine⟨I,ρ,C,⟨λu=>?_,h.blks,h.dist,by rw[zA0 _ _ D];exact h.frame,h.sub,h.old,h.size,h.defers,h.cI,h.cB,h.nm⟩⟩
 rw[uJ];by_cases e:t=u;subst e;simp only[dG];have:=h.tmps t;rw[G] at this;generalize a.tmps.getD t undef=v at this ⊢;have k:Rep w I v (.v (.slice B 0 c)):=this;cases k;exact .nil _ _ _;simp only[e,cV];exact h.tmps u
end
theorem yFJ {P:Program} {f:FuncId} {size:Nat} {T D:List (Nat×Blk)} {keep:List Nat} {k:List Cap} (hp:0<size) (h:∀B c,GC P f [.d (.v (.slice B 0 c))] T keep k D):GC P f [.d (.sl size [])] T keep k D:=by
 refine⟨(h none 0).1,λw I ρ vs K hG O H=>?_⟩
 match vs,H.1 with
 | [v],_=>
  have hr:Rep w I v (.sl size []):=H.2 0 v (.d (.sl size [])) rfl rfl;cases hr with
  | nil A c=>exact(h A c).2 w I ρ _ K hG O (Pw.cons (show HoldsC w I ρ _ (.d (.v _)) from .v _) Pw.nil)
  | sl b off n c size xs cells Z G Y=>exact absurd Y (by have:=Nat.mul_pos Z hp;simp only[d6];omega)
open Go.RowKit Go.M
section
variable {P:Program} {r:Option Nat} {E:Env} {S:AState} {d:Nat} {ty:TypeId} {pos:String} {af:Array Edge} {g:Option (Nat×Bool)}
section win
variable {t e size bytes k n:Nat} {z:Value} {x:Operand} {id:Nat} {cells:List DV}
theorem yCA {tm h:Nat} {tt:Bool} (k':Nat) (hn:tm<E.n) (ht:S.get tm= .ws id 0 h tt) (hb:S.blk id= .win e size k cells) (hl:cells.length=n*size) (hh:h<=n) (az:k<=k') (ba:h<=k'):
  zGM E S ((S.setBlk id (.win e size k' cells)).put tm (.d (.sl size (cells.take (h*size))))):=by
 rintro a w ⟨I,ρ,C,K⟩
 have ah:=K.blks id;rw[hb] at ah;obtain⟨hp,A,c,xs,ab,bc,hr,h1,hA⟩:=zKQ ah hl;have aa:S.blk id≠ .none:=by rw[hb];simp
 let I':Im:=λb j=>I b j\/(∃off,A=some ⟨b,off,none⟩/\off<=j/\j<off+h*size)
 have H:∀b j,I b j->I' b j:=λb j hi=> .inl hi;have key:∀i,((S.setBlk id (.win e size k' cells)).put tm (.d (.sl size (cells.take (h*size))))).blk i≠ .none->S.blk i≠ .none:=by
  intro i hi;rw[yJO,yO] at hi;by_cases T:id=i
  ·subst T;exact aa
  ·simp only[T,cV] at hi;exact hi
 have ag:∀b off,A=some ⟨b,off,none⟩->blockOf (ρ id)=some b:=λb off e=>by rw[ab,e];rfl
 have bn:h*size<=n*size:=dT _ hh;have bf:xs.length=n*size:=by rw[hr.1,hl]
 refine⟨I',ρ,C,⟨λu=>?_,λi=>?_,λi i' b bb hi ax=>K.dist i i' b bb (key i hi) (key i' ax),by rw[zA0 _ _ hn];exact K.frame,λb j hi=>H b j (K.sub b j hi),λb j hi=>?_,K.size,K.defers,λb j hi=>?_,λi b hi=>K.cB i b (key i hi),λi v hv hi=>K.nm i v hv (key i hi)⟩⟩
 ·rw[uJ]
  by_cases T:tm=u
  ·subst T
   simp only[dG];have hv:=K.tmps tm;rw[ht] at hv;obtain⟨B,c',be,ak,_,aj⟩:=hv;rw[be];by_cases h0:h=0
   ·subst h0
    simp only[gB,iC];exact .nil _ _ _
   ·obtain⟨b,o,n0,c0,ac,rfl⟩:=aj (by omega)
    rw[ab] at ac;cases ac;obtain⟨b',bj,arr,D,hM,O,Z,Y,hI⟩:=hA (by omega);cases D;have am:=Reps.mono (hr.take (h*size)) (k7 I w) H;refine .sl b (o+0) h c' size (xs.take (h*size)) _ (by omega) ak (by rw[dZ,hl];omega) am.1 (λj x hj=>?_) (λu hu=>h1 u (eC hu)) am.2
    have ay:=(cX.1 hj).1;rw[dZ] at ay;rw[d5,dI (by omega)] at hj;rw[fJ];exact⟨by rw[fb w b (o+j) arr e (0,0) O];exact Y j x hj,.inr ⟨o,rfl,by omega,by omega⟩⟩
  ·simp only[T,cV]
   exact(K.tmps u).mono (k7 I w) H
 ·show BlkOk w I' ρ E.mine i ((S.setBlk id (.win e size k' cells)).blk i)
  rw[yO];by_cases T:id=i
  ·subst T
   simp only[dG];refine⟨A,n,c,xs,ab,bc,hp,hl,hr.mono (k7 I w) H,h1,?_⟩;by_cases h0:n=0
   ·obtain⟨A2,n2,c2,bv,ad,_,_,bo,_,_,G⟩:=ah
    rw[ab] at ad;cases ad;rcases G with G | ⟨b,off,arr,G,hM,O,Z,Y,hI⟩
    ·exact .inl G
    ·refine .inr ⟨b,off,arr,G,hM,O,Z,λj x hj=>?_,λj q1 q2 _=>?_⟩
     ·have:=(cX.1 hj).1;rw[bf,h0] at this;omega
     ·rw[h0] at q2;omega
   ·obtain⟨b,off,arr,D,hM,O,Z,Y,hI⟩:=hA (by omega)
    refine .inr ⟨b,off,arr,D,hM,O,Z,Y,λj q1 q2 hi=>?_⟩;have m1:k*size<=k'*size:=dT _ az;have m2:h*size<=k'*size:=dT _ ba;rcases hi with hi | ⟨bk,G,q3,q4⟩
    ·have:=hI j q1 q2 hi;omega
    ·rw[D] at G;cases G;omega
  ·simp only[T,cV]
   refine(K.blks i).widenI H λb j hx aw hi=>?_;rcases hi with hi | ⟨off,D,_⟩
   ·exact hi
   ·exact absurd aw (K.dist id i b T aa hx (ag b off D))
 ·rcases hi with hi | ⟨off,D,_⟩
  ·exact K.old b j hi
  ·have:=K.blt id b aa (ag b off D);exact⟨this.2,.inr this.1⟩
 ·rcases hi with hi | ⟨off,D,_⟩
  ·exact K.cI b j hi
  ·exact K.cB id b aa (ag b off D)
theorem z6Z (Z:Nat) (hb:S.blk id= .win e size k cells) (hk:k<=Z):zGM E S (S.setBlk id (.win e size Z cells)):=by
 rintro a w ⟨I,ρ,C,h⟩
 have H:=h.blks id;rw[hb] at H;have T:S.blk id≠ .none:=by rw[hb];simp
 have key:∀i,(S.setBlk id (.win e size Z cells)).blk i≠ .none->S.blk i≠ .none:=by
  intro i hi;rw[yO] at hi;by_cases D:id=i;subst D;exact T;simpa[D] using hi
 refine⟨I,ρ,C,⟨h.tmps,λi=>?_,λi i' b hn hi K=>h.dist i i' b hn (key i hi) (key i' K),h.frame,h.sub,h.old,h.size,h.defers,h.cI,λi b hi=>h.cB i b (key i hi),λi v hv hi=>h.nm i v hv (key i hi)⟩⟩;rw[yO];by_cases D:id=i;subst D;simp only[dG];obtain⟨A,n,c,xs,Y,O,hp,hl,hr,h1,G⟩:=H;refine⟨A,n,c,xs,Y,O,hp,hl,hr,h1,?_⟩;rcases G with G | ⟨b,off,arr,G,hM,hh,hf,hc,hI⟩
 exact .inl G;exact .inr ⟨b,off,arr,G,hM,hh,hf,hc,λj q1 q2 hi=>eU (hI j q1 q2 hi) (Nat.add_le_add_left (dT _ hk) _)⟩;simp only[D,cV];exact h.blks i
theorem yFK {xl:Operand} {kk:IntKind} {il:Int} {l:Nat} (hn:d<E.n) (hT:SlTy P t e size bytes z) (hx:S.ev x= .row id) (hb:S.blk id= .win e size k cells) (hl:cells.length=n*size) (aj:S.ev xl= .d (.v (.int kk il))) (el:il=(l:Int)) (ah:k<=l) (ai:l<=n) (al:E.nm id=none):
    jJ P r E ⟨some d,.slice t x (some xl) none none,ty,pos,af,g⟩ S (((S.kill id).setBlk id (.win e size 0 (cells.drop (l*size)))).put d (.row id)):=
  zAM (by simp) λA w I ρ C hs=>by
    subst el;have h1:=hs.ev x;rw[hx] at h1;have hv:A.eval x= ρ id:=h1;have an:=hs.val aj;have hk:=hs.blks id;rw[hb] at hk;obtain⟨D,G,c,xs,Z,ak,hp,H,hr,ac,hA⟩:=hk;obtain rfl:=zII H hl hp;have T:G*size=(G - l)*size+l*size:=by rw[<-eG];congr 1;omega
    have Y:(Instr.sliceAt t (.slice D G c) (some (.int kk l)) none none).run P w= .ok (.slice (if c=l then D else D.map (·.add (l*size))) (G - l) (c-l)) w:=
      zOL w hT.und (hT.size w) D G c l G _ _ (.inr ⟨kk,rfl⟩) (.inl ⟨rfl,rfl⟩) ai (dA _) ak
    have ag:∀b,blockOf (.slice (if c=l then D else D.map (·.add (l*size))) (G - l) (c-l))=some b->blockOf (ρ id)=some b:=by
      intro b h;rw[Z];cases D with
      | none=>split at h<;>simp[blockOf] at h
      | some ad=>
        split at h
        · exact h
        · have e3:(ad.add (l*size)).block=ad.block:=by unfold Addr.add;split<;>rfl
          simpa[blockOf,e3] using h
    have am:=hs.update (iu w none) (id:=id) (u:= .slice (if c=l then D else D.map (·.add (l*size))) (G - l) (c-l)) (x:= .win e size 0 (cells.drop (l*size))) (by simp) (k7 I w)
      (λb h=> .inr ⟨by rw[hb];simp,ag b h⟩) (by
        refine⟨(if c=l then D else D.map (·.add (l*size))),G - l,c-l,xs.drop (l*size),by simp[upd],by omega,hp,by rw[eH,H];omega,hr.drop _,λu hu=>ac u (eP hu),?_⟩
        rcases hA with ⟨rfl,h0⟩ | ⟨b,off,arr,rfl,hM,hh,hf,hc,hI⟩
        · left;constructor
          · split<;>rfl
          · omega
        · right
          by_cases O:c=l
          · have K:G - l=0:=by omega
            refine⟨b,off,arr,by rw[dI O],hM,hh,by rw[K];omega,λj u hj=>?_,λj q1 q2 _=>by rw[K] at q2;omega⟩
            have:=(cX.1 hj).1;rw[eH,hr.1,H,T,K] at this;omega
          · refine⟨b,off+l*size,arr,by rw[dK O];simp[u7],hM,hh,by omega,λj u hj=>?_,λj q1 q2 hi=>?_⟩
            · rw[eT] at hj
              rw[fX];exact hc _ u hj
            · have:=hI j (by omega) (by omega) hi
              have m1:k*size<=l*size:=dT _ ah;omega) (.inl rfl) al
    refine⟨_,w,?_,I,_,C,am.put hn (show Holds _ _ _ _ (AV.row id) from by simp[Holds,upd];rfl)⟩
    simp only[execOp,hv,Z,cS,eZ,gy,an,Y];rfl
end win
section lists
variable {α:Type} {en:En α} {l l':List α} {t e bytes k:Nat} {z:Value} {x:Operand} {id:Nat}
theorem yOQ (D:d<E.n) (h:SlTy P t e en.size bytes z) (G:S.ev x= .row id) (hb:S.blk id= .win e en.size k (en.all l)):
  AOp P r E S ⟨some d,.call {callee:= .builtin .len,args:= #[x],argTypes:= #[t]},ty,pos,af,g⟩ d (.d (.v (.int .i64 l.length))):=yB5 D h G hb (jI en l)
theorem zHP {D:Operand} {O:IntKind} {i:Int} {v: α} (H:d<E.n) (G:SlTy P t e en.size bytes z) (K:S.ev x= .row id) (hb:S.blk id= .win e en.size k (en.all l)) (hi:S.ev D= .d (.v (.int O i))) (h:yD l i=some v):
  AOp P r E S ⟨some d,.indexAddr t x D,ty,pos,af,g⟩ d (.wp id (i.toNat*en.size)):=
 z3Z H G K hb hi (wU h).2.1 (jI en l) (wU h).2.2.1
theorem zMF {tt:TypeId} {i:Int} {v: α} {y:DV} (G:d<E.n) (D:OneTy P tt) (K:S.ev x= .wp id (i.toNat*en.size)) (hb:S.blk id= .win e en.size k (en.all l)) (H:yD l i=some v) (h:(en.cells v)[0]? =some y):
  AOp P r E S ⟨some d,.load tt x,ty,pos,af,g⟩ d (.d y):=
 yB7 G D K hb (by have:=zON en (wU H).2.2.2 0 (by rw[<-en.len v];exact(cX.1 h).1);rw[fJ] at this;rw[this];exact h)
theorem zZH {hi:Operand} {G:IntKind} {b:Int} (O:d<E.n) (K:SlTy P t e en.size bytes z) (T:S.ev x= .row id) (hb:S.blk id= .win e en.size k (en.all l)) (D:S.ev hi= .d (.v (.int G b))) (h:slc l 0 b=some l'):
  AOp P r E S ⟨some d,.slice t x none (some hi) none,ty,pos,af,g⟩ d (.ws id 0 b.toNat false):=by
 obtain⟨rfl,Y,Z,H⟩:=zCK h;have:=zTD (P:=P) (r:=r) (ty:=ty) (pos:=pos) (af:=af) (g:=g) O K T hb (jI en l) (lo:=none) (hi:=some hi) (l:=0) (h:=b.toNat) ⟨rfl,⟨G,b,D,by omega⟩,by omega,H⟩;simpa only[gB,Nat.sub_zero] using this
theorem z31 {lo hi:Operand} {H K:IntKind} {a b:Int} (Y:d<E.n) (T:SlTy P t e en.size bytes z) (Z:S.ev x= .row id) (hb:S.blk id= .win e en.size k (en.all l)) (G:S.ev lo= .d (.v (.int H a))) (D:S.ev hi= .d (.v (.int K b))) (h:slc l a b=some l'):
  AOp P r E S ⟨some d,.slice t x (some lo) (some hi) none,ty,pos,af,g⟩ d (.ws id (a.toNat*en.size) (b.toNat-a.toNat) false):=by
 obtain⟨rfl,h1,h2,O⟩:=zCK h;exact zTD Y T Z hb (jI en l) (lo:=some lo) (hi:=some hi) (l:=a.toNat) (h:=b.toNat) ⟨⟨H,a,G,by omega⟩,⟨K,b,D,by omega⟩,by omega,O⟩
theorem yCB {hi H:Operand} {Z k3:IntKind} {b:Int} (T:d<E.n) (O:SlTy P t e en.size bytes z) (Y:S.ev x= .row id) (hb:S.blk id= .win e en.size k (en.all l)) (D:S.ev hi= .d (.v (.int Z b))) (G:S.ev H= .d (.v (.int k3 b))) (h:slc l 0 b=some l'):
  AOp P r E S ⟨some d,.slice t x none (some hi) (some H),ty,pos,af,g⟩ d (.ws id 0 b.toNat true):=by
 obtain⟨rfl,h1,h2,K⟩:=zCK h;exact z0P T O Y hb (jI en l) D G (by omega) K
theorem View.front {b:Int} {tt:Bool} (hb:S.blk id= .win e en.size k (en.all l)) (h:slc l 0 b=some l'):View S (.ws id 0 b.toNat tt) (zH en l'):=by
 obtain⟨rfl,G,H,K⟩:=zCK h;have:=View.ws (off:=0) (n:=b.toNat) (tt:=tt) hb (jI en l) (by omega);simp only[gB,d7] at this;have D:en.all ((l.take b.toNat).drop (0:Int).toNat)=(en.all l).take (b.toNat*en.size):=by simp[zDN]
 unfold zH;rw[D];exact this
theorem z32 {tt:TypeId} {y:Operand} {i:Int} {v: α} {u:DV} {w0: α} (hT:OneTy P tt) (O:S.ev x= .wp id (i.toNat*en.size)) (hb:S.blk id= .win e en.size 0 (en.all l)) (h:en.size=1) (hi:yD l i=some w0) (K:zBD l i v=some l') (hy:S.ev y= .d u) (hu:en.cells v= [u]) (Y:(AV.d u).one=true) (hE:E.wrB=true):
  jJ P r E ⟨none,.store tt x y,ty,pos,af,g⟩ S (S.setBlk id (.win e en.size 0 (en.all l'))):=by
 obtain⟨rfl,Z,h3⟩:=zOP K;have H:=jI en l;rw[h,gI] at H;have G:S.ev x= .wp id i.toNat:=by rw[O,h,gI]
 have:=z6Y (P:=P) (r:=r) (ty:=ty) (pos:=pos) (af:=af) (g:=g) hT G hb (by omega) (by omega) hy Y hE;have T:en.all (l.set i.toNat v)=(en.all l).set i.toNat u:=by
  unfold En.all;clear hi O G H hb K this Z h3
  induction l generalizing i with
  | nil=>rfl
  | cons a l ih=>
   have ha:(en.cells a).length=1:=by rw[en.len,h]
   match D:en.cells a,ha with
   | [q],_=>
    cases hi:i.toNat with
    | zero=>simp[D,hu]
    | succ j=>
     have:=ih (i:=(j:Int));simp only[Int.toNat_natCast] at this;simp only[List.set_cons_succ,d9,D,this,iD,List.set_cons_succ]
 rw[T];exact this
def cpM (l:List α) (a1 b1 a2 b2:Int):List α:=l.take a1.toNat++((l.drop a2.toNat).take (b2.toNat-a2.toNat)).take (min (b2.toNat-a2.toNat) (b1.toNat-a1.toNat))++l.drop (a1.toNat+(((l.drop a2.toNat).take (b2.toNat-a2.toNat)).take (min (b2.toNat-a2.toNat) (b1.toNat-a1.toNat))).length)
theorem yJ7 {y:Operand} {a1 b1 a2 b2:Int} {l1 l2:List α} {t1 t2:Bool} (G:d<E.n) (hT:SlTy P t e en.size bytes z) (hx:S.ev x= .ws id (a1.toNat*en.size) (b1.toNat-a1.toNat) t1) (hb:S.blk id= .win e en.size 0 (en.all l)) (hy:S.ev y= .ws id (a2.toNat*en.size) (b2.toNat-a2.toNat) t2)
  (T:slc l a1 b1=some l1) (Y:slc l a2 b2=some l2) (Z:E.wrB=true):
  jJ P r E ⟨some d,.call {callee:= .builtin .copy,args:= #[x,y],argTypes:= #[t,t]},ty,pos,af,g⟩ S ((S.setBlk id (.win e en.size 0 (en.all (cpM l a1 b1 a2 b2)))).put d .top):=by
 obtain⟨rfl,p1,p2,p3⟩:=zCK T;obtain⟨rfl,q1,q2,q3⟩:=zCK Y;have:=yB8 (P:=P) (r:=r) (ty:=ty) (pos:=pos) (af:=af) (g:=g) G hT hx hb (jI en l) hy (gH _) (by omega) (by omega) Z;have O:spl (en.all l) (a1.toNat*en.size) ((((en.all l).drop (a2.toNat*en.size)).take ((b2.toNat-a2.toNat)*en.size)).take (min (b2.toNat-a2.toNat) (b1.toNat-a1.toNat)*en.size))=en.all (cpM l a1 b1 a2 b2):=by
  rw[zF6,zDN,zDN];unfold spl cpM;rw[jI,zDN,<-eG,zF6,<-zMC,<-zMC]
 rw[O] at this;intro a w K Q hs hk;refine this a w K Q hs λH w' ⟨I,ρ,C,h⟩=>hk H w' ⟨I,ρ,C,⟨λu=>?_,h.blks,h.dist,by have:=h.frame;rw[zA0 _ _ G] at this ⊢;exact this,h.sub,h.old,h.size,h.defers,h.cI,h.cB,h.nm⟩⟩
 have q:=h.tmps u;rw[uJ] at q ⊢;by_cases D:d=u
 ·simp only[D,dG];trivial
 ·simp only[D,cV] at q ⊢;exact q
theorem yCC {s:Operand} {b:Int} {T m:List α} (hn:d<E.n) (Z:SlTy P t e en.size bytes z) (hs:S.ev s= .ws id 0 b.toNat true) (hb:S.blk id= .win e en.size k (en.all l)) (O:slc l 0 b=some T) (hx:S.ev x= .d (zH en m)) (hm:m.length≠0) (ha:app T m=some l') (G:bytes<=32768) (K:E.nm d=none):
  jJ P r E ⟨some d,.call {callee:= .builtin .append,args:= #[s,x],argTypes:= #[t,t]},ty,pos,af,g⟩ S (((S.kill d).setBlk d (.row e en.size false (en.all l'))).put d (.row d)):=by
 obtain⟨rfl,p1,p2,p3⟩:=zCK O;obtain⟨rfl,D⟩:=zQZ ha;have H:((l.take b.toNat).drop (0:Int).toNat).length=b.toNat:=by simp;omega
 rw[H] at D;have:=z30 (P:=P) (r:=r) (ty:=ty) (pos:=pos) (af:=af) (g:=g) (off:=0) (h:=b.toNat) hn Z (by rw[gB];exact hs) hb (jI en l) (by omega) hx (jI en m) (by omega) (by unfold LIM at D;unfold maxLen;omega) (by
  have O:(b.toNat+m.length)*bytes<=4294967296*bytes:=dT _ D;have h2:4294967296*bytes<=4294967296*32768:=gS _ G;omega) K
 have Y:en.all ((l.take b.toNat).drop (0:Int).toNat++m)=((en.all l).drop (0*en.size)).take (b.toNat*en.size)++en.all m:=by
  rw[zMC];simp[zDN]
 rw[Y];exact this
theorem z60 {tm:Nat} {b:Int} {tt:Bool} (H:tm<E.n) (K:S.get tm= .ws id 0 b.toNat tt) (hb:S.blk id= .win e en.size 0 (en.all l)) (h:slc l 0 b=some l'):
  zGM E S ((S.setBlk id (.win e en.size b.toNat (en.all l))).put tm (.d (zH en l'))):=by
 obtain⟨rfl,O,T,G⟩:=zCK h;have:=yCA (E:=E) (S:=S) b.toNat H K hb (jI en l) G (gH _) (dA _);have D:en.all ((l.take b.toNat).drop (0:Int).toNat)=(en.all l).take (b.toNat*en.size):=by simp[zDN]
 unfold zH;rw[D];exact this
theorem yFL {H:Operand} {kk:IntKind} {a:Int} (Y:d<E.n) (O:SlTy P t e en.size bytes z) (Z:S.ev x= .row id) (hb:S.blk id= .win e en.size k (en.all l)) (D:S.ev H= .d (.v (.int kk a))) (h:slc l a l.length=some l') (T:k<=a.toNat) (G:E.nm id=none):
  jJ P r E ⟨some d,.slice t x (some H) none none,ty,pos,af,g⟩ S (((S.kill id).setBlk id (.win e en.size 0 (en.all l'))).put d (.row id)):=by
 obtain⟨rfl,h1,h2,h3⟩:=zCK h;have:=yFK (P:=P) (r:=r) (ty:=ty) (pos:=pos) (af:=af) (g:=g) (l:=a.toNat) Y O Z hb (jI en l) D (by omega) T (by omega) G;have K:en.all ((l.take (l.length:Int).toNat).drop a.toNat)=(en.all l).drop (a.toNat*en.size):=by simp[zF6]
 rw[K];exact this
end lists
end
open Go.RowKit Go.M
theorem yOR {k:Type} {en:En k} {x: k} {l:List k} (h:0<en.size):en.all (x::l)≠[]:=by intro D;have:=congrArg List.length D;rw[jI,dO,d6,eG] at this;omega
theorem zN0 {P:Program} {D:Type} {w:World} {F: D->PUnit->Sem (ForInStep PUnit)}:∀(k:List D),(∀f∈k,(F f ()).run P w= .ok (.yield ()) w)->(forIn k () F).run P w= .ok () w
 | [],_=>by simp
 | f::k,h=>by
  have H:=zN0 k λg G=>h g (by simp[G]);rw[List.forIn_cons];simp only[cS,h f (by simp),cW,H]
def zUL:TypeDesc->Bool
 | .int _ | .string | .bool=>true
 | _=>false
theorem zTE {P:Program} {t:TypeId} {ds:TypeDesc} (k:P.underlying t=some ds) (h:zUL ds=true) (v:Value) (n:Nat) (b:Bool) (w:World):(Instr.checkKey b (n+1) t v).run P w= .ok () w:=by
 simp only[Instr.checkKey,cS,dJ k,cW];cases ds<;>first | (simp[zUL] at h;done) | (cases v<;>rfl)
theorem yCD {P:Program} {G e:TypeId} {n:Nat} {zs vals:List Value} {ds:TypeDesc} (H:ArTy P G n 1 e zs) (O:OneTy P e) (Y:P.underlying e=some ds) (T:zUL ds=true) (K:vals.length=n) (b:Bool) (w:World):(Instr.checkKey b 10000 G (.agg vals.toArray)).run P w= .ok () w:=by
 show (Instr.checkKey b (9999+1) G (.agg vals.toArray)).run P w=_;rw[Instr.checkKey];simp only[cS,dJ H.und,cW];rw[Std.Legacy.Range.forIn_eq_forIn_range'];have D:(Std.Legacy.Range.size [0:n])=n:=by simp[Std.Legacy.Range.size]
 simp only[D];rw[<-gN];refine(congrArg (λq=>Result.andThen q _) (zN0 _ λi hi=>?_)).trans (by simp);have k:i<n:=fH.1 hi;have h:(part e vals.toArray i).run P w= .ok (vals[i]'(by omega)) w:=zJK O.agg (by simp[K,k]) w;simp only[cS,H.size w,cW,gI,h];have:=zTE Y T (vals[i]'(by omega)) 9998 b w;simp only[show (9998+1)=9999 from rfl] at this;simp[this]
theorem z61 {P:Program} {G:TypeId} {h:Array Field} {vals:List Value} (Z:P.underlying G=some (.struct h))
  (Y:∀f∈h.toList,OneTy P f.type/\(∃ds,P.underlying f.type=some ds/\zUL ds=true)/\f.offset<vals.length) (b:Bool) (w:World):(Instr.checkKey b 10000 G (.agg vals.toArray)).run P w= .ok () w:=by
 show (Instr.checkKey b (9999+1) G (.agg vals.toArray)).run P w=_;rw[Instr.checkKey];simp only[cS,dJ Z,cW];rw[<-Array.forIn_toList];refine(congrArg (λq=>Result.andThen q _) (zN0 _ λf hi=>?_)).trans (by simp);obtain⟨K,⟨ds,O,T⟩,D⟩:=Y f hi;have:=zTE O T (vals[f.offset]'D) 9998 b w;simp only[show (9998+1)=9999 from rfl] at this;have k:(part f.type vals.toArray f.offset).run P w= .ok (vals[f.offset]'D) w:=zJK K.agg (by simp[D]) w;by_cases H:f.name= "_"
 ·simp[H]
 ·simp only[ne_eq,H,not_false_eq_true,dG,cS,k,cW,this]
  rfl
section
variable {P:Program} {r:Option Nat} {E:Env} {S:AState} {d:Nat} {ty:TypeId} {pos:String} {af:Array Edge} {g:Option (Nat×Bool)}
theorem zXJ {bid eb off:Nat} {cells:List AV} (size:Nat) (hb:S.blk bid= .box eb cells) (G:cells[off]? =some (.d (.v (.slice none 0 0)))):zGM E S (S.setBlk bid (.box eb (cells.set off (.d (.sl size []))))):=by
 rintro a w ⟨I,ρ,C,h⟩
 refine⟨I,ρ,C,h.rebox (eb:=eb) (cells:=cells) hb λxs H=>H.set_right G λx k=>?_⟩;have D:Rep w I x (.v (.slice none 0 0)):=k;cases D;exact Rep.nil _ _ _
theorem yJ8 {t e bytes:Nat} {z:Value} {x y:Operand} {id eb:Nat} {q x0 x1 x2 x3 x4 x5 x6 x7:Int} {l:List Int} (H:d<E.n) (G:SlTy P t e eI.size bytes z) (K:S.ev x= .rs id 1 8)
  (hb:S.blk id= .box eb [.d (di q),.d (di x0),.d (di x1),.d (di x2),.d (di x3),.d (di x4),.d (di x5),.d (di x6),.d (di x7)]) (O:S.ev y= .d (zH eI l)) (D:E.wrB=true):
  jJ P r E ⟨some d,.call {callee:= .builtin .copy,args:= #[x,y],argTypes:= #[t,t]},ty,pos,af,g⟩ S
   ((S.setBlk id (.box eb [.d (di q),.d (di (cpA l 0 x0)),.d (di (cpA l 1 x1)),.d (di (cpA l 2 x2)),.d (di (cpA l 3 x3)),.d (di (cpA l 4 x4)),.d (di (cpA l 5 x5)),.d (di (cpA l 6 x6)),.d (di (cpA l 7 x7))])).put d (.d (.v (.int .i64 (min l.length 8:Nat))))):=by
 have h:(eI.all l).length=l.length:=by rw[jI];exact gI _
 have:=z6X (P:=P) (r:=r) (ty:=ty) (pos:=pos) (af:=af) (g:=g) H G K hb (by simp) (by omega) O h D;have k:=yS6 l q x0 x1 x2 x3 x4 x5 x6 x7;simp only[ez,fI] at k;rw[k] at this;exact this
end
open Go.RowKit Go.M
def QJ (E:Env) (J:AState->Prop):Exit->Act->World->Prop
 | .normal,a,w=> ∃S,J S/\Sat E S a w
 | _,_,_=>False
def zFY (P:Program) (r:Option Nat) (E:Env) (l:List Oper) (J:AState->Prop) (fuel:Nat) (listed:List Bool) (S:AState):Prop:=
 ∀a w,Sat E S a w->wpAnyIn (fen r) 0 P .any l.toArray (QJ E J) fuel listed.toArray a w
def AnyE (P:Program) (r:Option Nat) (E:Env) (l:List Oper) (J:AState->Prop) (fuel:Nat) (listed:List Bool) (S:AState):List Nat->Prop
 | []=>True
 | i::is=>(∃o S',l[i]? =some o/\z24 P r E l.toArray o S S'/\zFY P r E l J fuel (listed.set i true) S')/\AnyE P r E l J fuel listed S is
section
variable {P:Program} {r:Option Nat} {E:Env} {l:List Oper} {J:AState->Prop} {fuel:Nat} {listed:List Bool} {S:AState}
theorem AnyE.mem:∀{is:List Nat} {i:Nat},AnyE P r E l J fuel listed S is->i∈is->∃o S',l[i]? =some o/\z24 P r E l.toArray o S S'/\zFY P r E l J fuel (listed.set i true) S'
 | [],_,_,h=>by cases h
 | k::is,i,h,hi=>by
  rcases dL.1 hi with e | hi;subst e;exact h.1;exact AnyE.mem h.2 hi
def rdy (l:List Oper) (h:List Bool):List Nat:=(List.range l.length).filter λi=>!h.getD i true&&(match l[i]? with | none=>true | some o=>(aft o).all λj=>h.getD j false)
theorem z0R {i:Nat} (h:i∈Region.ready .any l.toArray listed.toArray):i∈rdy l listed:=by
 obtain⟨D,H,K⟩:=zEC h;simp only[rdy,e6,fH,dE,fS];have e:∀k b,listed.toArray.getD k b=listed.getD k b:=λk b=>by simp[dF,eF]
 refine⟨D,by rw[<-e];exact H,?_⟩
 have G:=cO D;rw[G];simp only[dS];intro j O;rw[<-e];exact K _ G j O
theorem zUM {i:Nat} (h:(rdy l listed).contains i=true):i∈Region.ready .any l.toArray listed.toArray:=by
 have h:=gE.1 h;simp only[rdy,e6,fH,dE,fS] at h;have e:∀k b,listed.toArray.getD k b=listed.getD k b:=λk b=>by simp[dF,eF]
 obtain⟨H,K,D⟩:=h;have G:=cO H;rw[G] at D;simp only[dS] at D;exact zVL G (by rw[e];exact K) λj O=>by rw[e];exact D j O
theorem zMG (h:List Bool) (i:Nat):h.toArray.setIfInBounds i true=(h.set i true).toArray:=by simp
theorem yJ9 (G:rdy l listed= []) (h:J S):zFY P r E l J fuel listed S:=by
 intro a w D;have k:Region.ready .any l.toArray listed.toArray= []:=gK.2 λi hi=>by have:=z0R hi;rw[G] at this;cases this
 cases fuel with
 | zero=>exact⟨k,S,h,D⟩
 | succ n=>exact⟨λ_=>⟨S,h,D⟩,λi hi=>by rw[k] at hi;cases hi⟩
theorem yRC (is:List Nat) (H:rdy l listed=is) (D:is.isEmpty=false) (h:AnyE P r E l J fuel listed S is):zFY P r E l J (fuel+1) listed S:=by
 intro a w Z;refine⟨λe=>?_,λi hi=>?_⟩;cases is with
 | nil=>cases D
 | cons k is=>
  have:=zUM (l:=l) (listed:=listed) (i:=k) (by rw[H];simp)
  rw[e] at this;cases this
 have hi:=z0R hi;rw[H] at hi;obtain⟨o,S',O,T,Y⟩:=h.mem hi;unfold wpOpIn;simp only[eX,O];refine T a w _ _ Z λK w' G=>?_;rw[zMG];exact Y K w' G
theorem z9K:AnyE P r E l J fuel listed S []:=trivial
theorem yNC {i:Nat} {is:List Nat} {o:Oper} {S':AState} (G:l[i]? =some o) (D:o.guard=none) (h:jJ P r E o S S') (k:zFY P r E l J fuel (listed.set i true) S') (H:AnyE P r E l J fuel listed S is):AnyE P r E l J fuel listed S (i::is):=
 ⟨⟨o,S',G,zJF D h,k⟩,H⟩
theorem yND {i d:Nat} {is:List Nat} {o:Oper} {x:AV} (G:l[i]? =some o) (D:o.guard=none) (h:AOp P r E S o d x) (k:zFY P r E l J fuel (listed.set i true) (S.put d x)) (H:AnyE P r E l J fuel listed S is):AnyE P r E l J fuel listed S (i::is):=
 ⟨⟨o,_,G,zJF D h.step,k⟩,H⟩
def z62 (l:List Oper) (listed:List Bool) (i:Nat) (oi:Oper):Bool:=
 (List.range l.length).all λj=>Nat.beq j i ||listed.getD j true ||(match l[j]? with
  | none=>true
  | some h=>(aft h).contains i ||oi.apart l.toArray h)
def zPM (l:List Oper):Bool:=l.all λo=>match o.op with | .select _ _=>false | _=>true
theorem zLK {i d:Nat} {oi:Oper} {x:AV} (hr:r=none) (hi:l[i]? =some oi) (hg:oi.guard=none) (hd:oi.dst=some d) (H:zPM l=true) (K:z62 l listed i oi=true) (aa:(rdy l listed).contains i=true)
  (hy:∀a w,Sat E S a w->∃v,(∀w',(execOp a.eval oi).run P w'= .ok (.value v) w')/\(∀w',oi.about P w' a.eval=none)/\Sat E (S.put d x) (a.put (some d) v) w) (k:zFY P r E l J fuel (listed.set i true) (S.put d x)):zFY P r E l J (fuel+1) listed S:=by
 subst hr;intro a w hs;obtain⟨v,h1,h2,h3⟩:=hy a w hs;have O:l.toArray[i]? =some oi:=by simpa using hi
 refine wpAnyIn_first (i:=i) (oi:=oi) (v:=v) rfl O (λj o cs b ho e=>?_) (λc a w h=>h.elim) fuel listed.toArray a w (λj oj hj Z hl G=>?_) (zUM aa) ⟨.inl ⟨?_,h1⟩,h2⟩ (by rw[hd,zMG];exact k _ w h3)
 ·have:=dS.1 H o (eN (by simpa using ho))
  rw[e] at this;cases this
 ·have D:l[j]? =some oj:=by simpa using hj
  have Y:=(cX.1 D).1;have:=dS.1 K j (fH.2 Y);have T:listed.getD j true=false:=by rw[<-hl];simp[dF,eF]
  simp only[fB,ib,T,D] at this;rcases this with (h | h) | h | h
  ·exact absurd h Z
  ·cases h
  ·exfalso
   have h:=gE.1 h;simp only[aft,eK,e6] at h;obtain⟨q,⟨hq,hb⟩,he⟩:=h;exact G q (by simpa using hq) hb he
  ·exact h
 ·unfold Region.wanted
  rw[hg]
section
variable {d:Nat} {ty:TypeId} {pos:String} {af:Array Edge} {x:Operand}
theorem yFM {i:Nat} (hi:l[i]? =some ⟨some d,.move x,ty,pos,af,none⟩) (K:d<E.n) (O:r=none) (h:zPM l=true) (D:z62 l listed i ⟨some d,.move x,ty,pos,af,none⟩=true) (G:(rdy l listed).contains i=true)
  (k:zFY P r E l J fuel (listed.set i true) (S.put d (S.ev x))):zFY P r E l J (fuel+1) listed S:=
 zLK O hi rfl rfl h D G (λa w ⟨I,ρ,C,H⟩=>⟨a.eval x,λw'=>by simp[execOp],λw'=>rfl,I,ρ,C,H.put K (H.ev x)⟩) k
theorem zMH {i:Nat} {y:Operand} {tx tz:TypeId} {a b:Int} (hi:l[i]? =some ⟨some d,.binOp .sub tx x y tz,ty,pos,af,none⟩) (K:d<E.n) (T:S.ev x= .d (.v (.int .i64 a))) (Y:S.ev y= .d (.v (.int .i64 b))) (O:r=none) (h:zPM l=true) (D:z62 l listed i ⟨some d,.binOp .sub tx x y tz,ty,pos,af,none⟩=true) (G:(rdy l listed).contains i=true)
  (k:zFY P r E l J fuel (listed.set i true) (S.put d (.d (.v (.int .i64 (wi (a-b))))))):zFY P r E l J (fuel+1) listed S:=
 zLK O hi rfl rfl h D G (λA w ⟨I,ρ,C,H⟩=>⟨.int .i64 (wi (a-b)),λw'=>by
  simp only[execOp,H.val T,H.val Y];simp[binOp,eqGuard,Op.intArith,wi],λw'=>rfl,I,ρ,C,SatAt.put (x:= .d (.v _)) H K (Rep.v _)⟩) k
theorem zOT {i:Nat} {y:Operand} {tx tz:TypeId} {a b:Int} (hi:l[i]? =some ⟨some d,.binOp .add tx x y tz,ty,pos,af,none⟩) (K:d<E.n) (T:S.ev x= .d (.v (.int .i64 a))) (Y:S.ev y= .d (.v (.int .i64 b))) (O:r=none) (h:zPM l=true) (D:z62 l listed i ⟨some d,.binOp .add tx x y tz,ty,pos,af,none⟩=true) (G:(rdy l listed).contains i=true)
  (k:zFY P r E l J fuel (listed.set i true) (S.put d (.d (.v (.int .i64 (wi (a+b))))))):zFY P r E l J (fuel+1) listed S:=
 zLK O hi rfl rfl h D G (λA w ⟨I,ρ,C,H⟩=>⟨.int .i64 (wi (a+b)),λw'=>by
  simp only[execOp,H.val T,H.val Y];simp[binOp,eqGuard,Op.intArith,wi],λw'=>rfl,I,ρ,C,SatAt.put (x:= .d (.v _)) H K (Rep.v _)⟩) k
theorem zZI {α:Type} {en:En α} {D:List α} {i t e bytes:Nat} {z:Value} {ix:Operand} {kk:IntKind} {q:Int} {v: α} (hi:l[i]? =some ⟨some d,.indexAddr t x ix,ty,pos,af,none⟩) (hn:d<E.n) (O:SlTy P t e en.size bytes z) (hx:S.ev x= .d (zH en D)) (Y:S.ev ix= .d (.v (.int kk q))) (hv:yD D q=some v)
  (hr:r=none) (K:zPM l=true) (T:z62 l listed i ⟨some d,.indexAddr t x ix,ty,pos,af,none⟩=true) (ac:(rdy l listed).contains i=true)
  (k:zFY P r E l J fuel (listed.set i true) (S.put d (.ip (en.all D) (q.toNat*en.size)))):zFY P r E l J (fuel+1) listed S:=
 zLK hr hi rfl rfl K T ac (λA w ⟨I,ρ,C,hs⟩=>by
  have h:=hs.ev x;rw[hx] at h;obtain⟨B,n,c,xs,ag,_,hl,ab,h1,G⟩:=Rep.sl_inv h;have aa:n=D.length:=zII hl (jI en D) O.pos;subst aa;have hq:=(wU hv).2.1;have Z:=(wU hv).2.2.1;obtain⟨b,off,rfl,hc⟩:=G (by omega);have H:=hs.val Y;refine⟨.pointer (some ⟨b,off+q.toNat*en.size,none⟩),λw'=>?_,λw'=>rfl,I,ρ,C,hs.put hn ⟨b,off,xs,rfl,ab,h1,hc⟩⟩;rw[hq] at H;simp only[execOp,ag,H,cS,zKJ w' O.und (O.size w') b off D.length c kk q.toNat Z];rfl) k
end
theorem zFH {id:Nat} {K:Exit->AState->Prop} (G:P.follows .mixedOrders=true) (h:zFY P r E l (K .normal) l.length (List.replicate l.length false) S):Avc P r E (.region id l.toArray true) K S:=by
 intro a w H;have D:=h a {w with drawn:=w.drawn+1} (z3C H);refine g7 (wpIn_region_any (Q:=QJ E (K .normal)) G (by simpa[<-List.toArray_replicate] using D)) ?_;intro e O w' k;cases e with
 | normal=>exact k
 | _=>exact k.elim
end
open Go.RowKit Go.M
def CapsOf:List AV->List Cap->Prop
 | [],cs=>cs= []
 | x::xs,cs=> ∃c ds,cs=c::ds/\CapOf x c/\CapsOf xs ds
section
variable {P:Program} {r:Option Nat} {E:Env} {S:AState} {d:Nat} {ty:TypeId} {pos:String} {af:Array Edge} {g:Option (Nat×Bool)}
theorem CapsOf.holds {w:World} {I:Im} {ρ:Nat->Value}:∀{vs:List Value} {xs:List AV} {cs:List Cap},CapsOf xs cs->Pw (Holds w I ρ) vs xs->Pw (HoldsC w I ρ) vs cs
 | [],[],cs,h,_=>by cases h;exact Pw.nil
 | [],x::xs,cs,_,k=>by have:=k.1;simp at this
 | v::vs,[],cs,_,k=>by have:=k.1;simp at this
 | v::vs,x::xs,cs,⟨c,ds,e,D,G⟩,k=>by
  subst e;obtain⟨q1,q2⟩:=zIV k;exact Pw.cons (D.holds q1) (CapsOf.holds G q2)
theorem zSB {f:FuncId} {h:List Operand} {cs:List Cap} (D:d<E.n) (k:CapsOf (h.map S.ev) cs):
  AOp P r E S ⟨some d,.makeFunc (.func f) #[] h.toArray,ty,pos,af,g⟩ d (.clo f cs):=
 ⟨rfl,D,λS' G=>zY rfl D (by simp) λA w I ρ C K=>by
  have H:h.map S'.ev=h.map S.ev:=gw λx O=>G.ev (by simp[Op.operands];simpa using O)
  rw[<-H] at k;exact⟨.func (.func f) #[] (h.map A.eval).toArray,by simp[execOp,Instr.makeFunc],_,rfl,k.holds (zB9 K h)⟩⟩
theorem zN1 {t:TypeId} {x y:Operand} {id off eb:Nat} {cells:List AV} {av:AV} (G:OneTy P t) (K:S.ev x= .ptr id off) (hb:S.blk id= .box eb cells) (h:off<cells.length) (O:S.ev y=av) (k:av.one=true) (H:zS6 S av=true) (D:E.wrB=true):
  jJ P r E ⟨none,.store t x y,ty,pos,af,g⟩ S (S.setBlk id (.box eb (cells.set off av))):=by
 subst O;exact zJC G K hb h k H D
theorem z63 {a t id e b u h k:Nat} {x y:DV} (D:(S.get a).un= .ptr id 0) (G:S.blk id= .box e [.d x]) (H:OneTy P t) (O:(S.get b).un= .ptr h 0) (T:S.blk h= .box k [.d y]) (K:OneTy P u):RetS P S [.cell a t,.cell b u] [x,y]:=
 ⟨_,_,id,e,_,rfl,D,G,.inl ⟨H,_,rfl,rfl⟩,_,_,h,k,_,rfl,O,T,.inl ⟨K,_,rfl,rfl⟩,rfl⟩
end
open Go.RowKit Go.M
theorem BlkOk.lt {w:World} {I:Im} {ρ:Nat->Value} {M:Nat->Prop} {i b:Nat} {x:Blk} (h:BlkOk w I ρ M i x) (Z:x≠ .none) (hb:blockOf (ρ i)=some b):b<w.heap.size:=by
 cases x with
 | none=>exact absurd rfl Z
 | row e size sh cells=>
  obtain⟨hM,n,xs,hl,O,_⟩:=h;rcases O.2 with ⟨hn,_⟩ | ⟨g,ab,ac,D,T,G,_⟩;rw[hn] at hb;simp[blockOf] at hb;rw[D] at hb;simp[blockOf] at hb;subst hb;exact(cQ.1 G).1
 | box e cells=>
  obtain⟨Y,arr,D,T,G,_⟩:=h;rw[D] at hb;simp[blockOf] at hb;subst hb;exact(cQ.1 G).1
 | it es q=>
  obtain⟨Y,bm,ents,H,aa,D,T,G,_⟩:=h;rw[D] at hb;simp[blockOf] at hb;subst hb;exact(cQ.1 G).1
 | map es=>
  obtain⟨Y,ents,H,D,T,G,_⟩:=h;rw[D] at hb;simp[blockOf] at hb;subst hb;exact(cQ.1 G).1
 | win e size k cells=>
  obtain⟨A,n,c,xs,D,_,_,_,_,_,K⟩:=h;rcases K with ⟨K,_⟩ | ⟨Y,off,arr,K,T,G,_⟩;rw[D,K] at hb;simp[blockOf] at hb;rw[D,K] at hb;simp[blockOf] at hb;subst hb;exact(cQ.1 G).1
open Go.RowKit Go.M
section
variable {P:Program} {r:Option Nat} {E:Env} {S:AState} {d ty:Nat} {pos:String} {af:Array Edge} {g:Option (Nat×Bool)}
theorem zV0 {D:Type} {c ys:List D} {off n N:Nat} (h:ys.length=n) (G:off+n<=N) (H:N<=c.length):(c.take off++ys++c.drop (off+n)).take N=(c.take N).take off++ys++(c.take N).drop (off+n):=by
 have k:(c.take off++ys).length=off+n:=by simp;omega
 rw[List.take_append,gC (by omega),k,List.take_take,hF (by omega),List.drop_take]
theorem zTX {t n:Nat} {x y:Operand} {id off e size:Nat} {cells ds:List DV} (hT:AggTy P t n) (hx:S.ev x= .ptr id off) (hb:S.blk id= .row e size false cells) (bl:off+n<=cells.length)
  (hy:S.ev y= .d (.agg ds)) (ar:ds.length=n) (hE:E.wrB=true):
  jJ P r E ⟨none,.store t x y,ty,pos,af,g⟩ S (S.setBlk id (.row e size false (cells.take off++ds++cells.drop (off+n)))):=
 zGS rfl (by simp) λA w I ρ C hs=>by
  have h:=hs.ev x;rw[hx] at h;obtain⟨b,D,hv⟩:=h;have aa:=hs.blks id;rw[hb] at aa;obtain⟨h0,n',xs,hl,H,Z,au,hI⟩:=aa;have aj:=hs.ev y;rw[hy] at aj;have K:Rep w I (A.eval y) (.agg ds):=aj;generalize he:A.eval y=vy at K;cases K with
  | agg ys ak ab h1 hr=>
   have ax:Reps w I ys ds:=⟨ab,hr⟩;rcases H.2 with ⟨Y,_⟩ | ⟨O,an,k,Y,hB,hh,ac,ap,aq,az⟩
   ·rw[Y] at D;cases D
   ·have ao:O=b:=by rw[Y] at D;simpa[blockOf] using D
    subst ao;have G:∀j,¬I O j:=λj hj=>by have:=(hI O j (by rw[Y];rfl) hj).1;cases this
    have bq:xs.length=n'*size:=H.1;have bd:cells.length<=k.size:=by rw[aq,hl];exact dT _ ac
    have ai:ys.length=n:=by rw[ab];exact ar
    have ay:=zVF (P:=P) w hT (b:=O) (off:=off) (vs:=ys) hh (by omega) ai h1;have bo:cells.length=n'*size:=hl;refine⟨_,?_,I,ρ,C,hs.modify (zCJ w O (k.toList.take off++ys++k.toList.drop (off+n)).toArray) (by rw[hb];simp) D (vS G) ⟨h0,n',xs.take off++ys++xs.drop (off+n),by simp;omega,⟨by simp;omega,.inr ⟨O,an,_,Y,hB,iy w O k _ e _ hh,ac,ap,?_,?_⟩⟩,?_,?_,?_⟩ hE⟩
    ·simp only[execOp,hv,he,cS,ay]
     rfl
    ·simp;omega
    ·have ag:k.toList.take (n'*size)=xs:=az
     rw[<-ag];exact zV0 ai (by omega) (by simp;omega)
    ·intro v ah
     simp only[eQ] at ah;rcases ah with (hu | hu) | hu
     ·exact Z v (eC hu)
     ·exact h1 v hu
     ·exact Z v (eP hu)
    ·have ad:=au.imp λ_ _ h=>h.mono (vS (arr:=(k.toList.take off++ys++k.toList.drop (off+n)).toArray) G) (λ_ _ h=>h)
     have aw:=Reps.mono ax (vS (arr:=(k.toList.take off++ys++k.toList.drop (off+n)).toArray) G) (λ_ _ h=>h);exact((ad.take off).append aw).append (ad.drop (off+n))
    ·intro g' j T hi
     rw[Y] at T;simp[Value.ownBlock] at T;subst T;exact absurd hi (G j)
theorem yFN {h:Type} (en:En h) (l:List h) (v: h):∀(i:Nat),i<l.length->en.all (l.set i v)=(en.all l).take (i*en.size)++en.cells v++(en.all l).drop (i*en.size+en.size):=by
 induction l with
 | nil=>intro i hi;simp at hi
 | cons a l H=>
  intro i hi;have G:(en.cells a).length=en.size:=en.len a;cases i with
  | zero=>
   simp only[List.set_cons_zero,En.all,d9,gB,iC,dP,eE];rw[List.drop_append_of_le_length (by omega),dC (by omega)];simp
  | succ j=>
   have:=H j (by simpa using hi);simp only[List.set_cons_succ,En.all,d9] at this ⊢;rw[this,eG,Nat.one_mul];rw[List.take_append,List.drop_append,G];rw[gC (l:=en.cells a) (by omega),dC (l:=en.cells a) (by omega)];have k:j*en.size+en.size-en.size=j*en.size:=by omega
   have D:j*en.size+en.size+en.size-en.size=j*en.size+en.size:=by omega
   rw[k,D];simp[c8]
theorem yFO {k:Type} {en:En k} {l D:List k} {e tt:Nat} {x y:Operand} {id:Nat} {i:Int} {v: k} (H:AggTy P tt en.size) (T:S.ev x= .ptr id (i.toNat*en.size)) (hb:S.blk id= .row e en.size false (en.all l)) (Y:S.ev y= .d (en.dv v)) (K:en.dv v= .agg (en.cells v))
  (O:zBD l i v=some D) (G:E.wrB=true):
  jJ P r E ⟨none,.store tt x y,ty,pos,af,g⟩ S (S.setBlk id (.row e en.size false (en.all D))):=by
 obtain⟨rfl,Z,h⟩:=zOP O;rw[yFN en l v i.toNat h];refine zTX H T hb ?_ (by rw[Y,K]) (en.len v) G;rw[jI];have:(i.toNat+1)*en.size<=l.length*en.size:=dT _ h;rw[eG] at this;omega
def Blk.is:Blk->Bool
 | .none=>false
 | _=>true
theorem Blk.is_ne {b:Blk} (h:b.is=true):b≠ .none:=by cases b<;>simp_all [Blk.is]
def nmB (h:List Nat) (σ:List (Nat×Nat)) (keep:List Nat) (T k:List (Nat×Blk)):Bool:=
 σ.all λp=>!h.contains p.2 ||(keep.contains p.1&&((look Blk.none T p.1).is&&(look Blk.none k p.1).is))
theorem zEO {G:Nat->Option (List Value)} {w0:World} {I0:Im} {O:GlI G w0 I0} {aa:Nat->Value} {T0:List (Nat×Blk)} {h:List Nat} {n0:Nat} {Z:n0<=1000000} {f:FuncId} {xs:List Operand} {ats:Array TypeId} {args D:List Cap} {T K:List (Nat×Blk)} {keep:List Nat} (σ:List (Nat×Nat)) (hc:GC P f args T keep D K) (hn:d<n0) (ak:(σ.map Prod.fst).Nodup/\(σ.map Prod.snd).Nodup)
  (H:ArgsAs σ (xs.map S.ev) args) (ag:args.all (Cap.idsLt σ)=true) (aj:D.all (Cap.idsLt σ)=true) (hT:BlksAs S σ T) (ad:zDE σ T=true) (Y:zDE σ K=true)
  (ah:zSA S σ T=true) (ai:nmB h σ keep T K=true) (hG:G=zAS P:=by rfl):
  jJ P r (Env.gen G w0 I0 O aa T0 h n0 Z) ⟨some d,.call {callee:= .value (.func f),args:=xs.toArray,argTypes:=ats},ty,pos,af,g⟩ S
   (((S.killL (zK7 σ keep K)).setL (renL σ K++zO6 σ T K)).put d ((zPZ D).ren σ)):=
 z9G (E:=Env.gen G w0 I0 O aa T0 h n0 Z) σ hn (zVW ak) H ag aj hT ad Y (zNX ah) (λk hk=>by
  have:=dS.1 ai _ (zFO hk);by_cases hc:h.contains (look 0 σ k)=true
  ·simp only[hc,dD,eY,dE] at this
   exact .inr ⟨this.1,Blk.is_ne this.2.1,Blk.is_ne this.2.2⟩
  ·refine .inl ?_
   show (if h.contains (look 0 σ k)=true then _ else _)=_;rw[dK hc]) hc rfl hG
theorem zUN {f:FuncId} {xf:Operand} {cs:List Cap} {xs:List Operand} {ats:Array TypeId} {args h:List Cap} {T G:List (Nat×Blk)} {keep:List Nat} (σ:List (Nat×Nat)) (hc:GC P f args T keep h G) (hn:d<E.n) (ac:(σ.map Prod.fst).Nodup/\(σ.map Prod.snd).Nodup) (ab:S.ev xf= .clo f cs)
  (D:ArgsAs σ (xs.map S.ev++cs.map Cap.av) args) (O:args.all (Cap.idsLt σ)=true) (aa:h.all (Cap.idsLt σ)=true) (hT:BlksAs S σ T) (K:zDE σ T=true) (H:zDE σ G=true)
  (Y:zSA S σ T=true) (Z:∀k,E.nm k=none) (hE:E.wrB=true) (hG:E.gdt=zAS P:=by rfl):
  jJ P r E ⟨some d,.call {callee:= .value xf,args:=xs.toArray,argTypes:=ats},ty,pos,af,g⟩ S
   (((S.killL (zK7 σ keep G)).setL (renL σ G++zO6 σ T G)).put d ((zPZ h).ren σ)):=
 z3O σ hn (zVW ac) ab D O aa hT K H (zNX Y) (λk _=> .inl (Z _)) hc hE hG
theorem z33 {G:Nat->Option (List Value)} {w0:World} {I0:Im} {O:GlI G w0 I0} {aa:Nat->Value} {T0:List (Nat×Blk)} {h:List Nat} {n0:Nat} {Z:n0<=1000000} {f:FuncId} {xf:Operand} {cs:List Cap} {xs:List Operand} {ats:Array TypeId} {args D:List Cap} {T K:List (Nat×Blk)} {keep:List Nat} (σ:List (Nat×Nat)) (hc:GC P f args T keep D K) (hn:d<n0) (al:(σ.map Prod.fst).Nodup/\(σ.map Prod.snd).Nodup) (ak:S.ev xf= .clo f cs)
  (H:ArgsAs σ (xs.map S.ev++cs.map Cap.av) args) (ag:args.all (Cap.idsLt σ)=true) (aj:D.all (Cap.idsLt σ)=true) (hT:BlksAs S σ T) (ad:zDE σ T=true) (Y:zDE σ K=true)
  (ah:zSA S σ T=true) (ai:nmB h σ keep T K=true) (hG:G=zAS P:=by rfl):
  jJ P r (Env.gen G w0 I0 O aa T0 h n0 Z) ⟨some d,.call {callee:= .value xf,args:=xs.toArray,argTypes:=ats},ty,pos,af,g⟩ S
   (((S.killL (zK7 σ keep K)).setL (renL σ K++zO6 σ T K)).put d ((zPZ D).ren σ)):=
 z3O (E:=Env.gen G w0 I0 O aa T0 h n0 Z) σ hn (zVW al) ak H ag aj hT ad Y (zNX ah) (λk hk=>by
  have:=dS.1 ai _ (zFO hk);by_cases hc:h.contains (look 0 σ k)=true
  ·simp only[hc,dD,eY,dE] at this
   exact .inr ⟨this.1,Blk.is_ne this.2.1,Blk.is_ne this.2.2⟩
  ·refine .inl ?_
   show (if h.contains (look 0 σ k)=true then _ else _)=_;rw[dK hc]) hc rfl hG
end
end Go.AV
namespace Go.M
def yM {h:Type} [DecidableEq h] (items:List h) (k:Nat) (x: h):Option Unit:=if items[k]? =some x then some () else none
def zV1 {h:Type} (items:List h) (k:Nat):Option Unit:=if k=items.length then some () else none
end Go.M
namespace Go.AV
open Go.M
theorem z64 {D:Type} [DecidableEq D] {H:Type} {items:List D} {k:Nat} {x: D} {u:Unit} (f: D->H) (h:yM items k x=some u):(items.map f)[k]? =some (f x):=by unfold yM at h;split at h;rename_i G;rw[dX,G];rfl;cases h
theorem zN2 {D:Type} {H:Type} {items:List D} {k:Nat} {u:Unit} (f: D->H) (h:zV1 items k=some u):k=(items.map f).length:=by unfold zV1 at h;split at h;rename_i G;rw[e7,G];cases h
open Go.M
section
variable {P:Program} {r:Option Nat} {E:Env} {S:AState} {K:Exit->AState->Prop} {c:Code} {A B C D:Type}
def yS7 (E:Env) (G:Exit) (k:A->AState) (H:Exit) (S2:B->AState):A⊕B->Exit->AState->Prop
 | .inl y,h,S'=>h=G/\zGM E S' (k y)
 | .inr y,h,S'=>h=H/\zGM E S' (S2 y)
theorem zP (y:A⊕B) (G:Exit) (k:A->AState) (H:Exit) (S2:B->AState) (h:Avc P r E c (yS7 E G k H S2 y) S) (O:∀z,y= .inl z->K G (k z)) (T:∀z,y= .inr z->K H (S2 z)):Avc P r E c K S:=by rcases y with y | y;exact zVP (e:=G) (S2:=k y) h (O y rfl);exact zVP (e:=H) (S2:=S2 y) h (T y rfl)
end
open Go.RowKit Go.M
section
variable {P:Program} {r:Option Nat} {E:Env} {S:AState} {d ty:Nat} {pos:String} {af:Array Edge} {g:Option (Nat×Bool)}
theorem z0S {f:FuncId} {xs:List Operand} {ats:Array TypeId} {args:List Cap} {D:AV} {T G:List (Nat×Blk)} {keep:List Nat} (σ:List (Nat×Nat)) (hc:GCA P f args T keep D G) (hn:d<E.n) (ab:(σ.map Prod.fst).Nodup/\(σ.map Prod.snd).Nodup)
  (h:ArgsAs σ (xs.map S.ev) args) (O:args.all (Cap.idsLt σ)=true) (aa:D.idsLt σ =true) (hT:BlksAs S σ T) (K:zDE σ T=true) (H:zDE σ G=true)
  (Y:zSA S σ T=true) (Z:∀k,E.nm k=none) (hE:E.wrB=true) (hG:E.gdt=zAS P:=by rfl):
  jJ P r E ⟨some d,.call {callee:= .value (.func f),args:=xs.toArray,argTypes:=ats},ty,pos,af,g⟩ S
   (((S.killL (zK7 σ keep G)).setL (renL σ G++zO6 σ T G)).put d (D.ren σ)):=
 zZA σ hn (zVW ab) (extra:=[]) (λA w I ρ C _=>⟨[],by simp[Act.eval],Pw.nil⟩) (by rw[eA];exact h) O aa hT K H (zNX Y) (λk _=> .inl (Z _)) hc hE hG
theorem yKA {w:World} {I D:Im} {ys:List Value} {cells:List DV} (h:Reps w D ys cells) (G:∀x∈cells,∃u,x= .v u):Reps w I ys cells:=
 ⟨h.1,λj y x H k=>by
  obtain⟨u,rfl⟩:=G x (eN k);have:=h.2 j y _ H k;cases this;exact .v _⟩
theorem yOS {f e size n off id k0:Nat} {x y:Operand} {ats:Array TypeId} {L D:List DV} {fv:DV} (hn:d<E.n) (hx:S.ev x= .rs id off n) (hy:S.ev y= .d fv) (hb:S.blk id= .row e size false L) (h0:0<n) (bk:off+n*size<=L.length)
  (hv:∀x∈D,∃u,x= .v u) (hc:GC P f [.row k0,.d fv] [(k0,.win e size 0 ((L.drop off).take (n*size)))] [k0] [] [(k0,.win e size 0 D)]) (hE:E.wrB=true) (hG:E.gdt=zAS P:=by rfl):
  jJ P r E ⟨some d,.call {callee:= .value (.func f),args:= #[x,y],argTypes:=ats},ty,pos,af,g⟩ S
   ((S.setBlk id (.row e size false (L.take off++D++L.drop (off+n*size)))).put d (.tupc [])):=by
 rintro A w K Q ⟨I,ρ,C,hs⟩ hk
 obtain⟨⟨fn,hf,bd,aw⟩,ax⟩:=hc;have cy:S.blk id≠ .none:=by rw[hb];simp
 have bj:=hs.blks id;rw[hb] at bj;obtain⟨⟨hp,hM⟩,n0,xs,hl,br,h1,hr,hI⟩:=bj;have aj:=hs.ev x;rw[hx] at aj;obtain⟨A',c,aj,bq,hA⟩:=aj;obtain⟨O,ah,rfl⟩:=hA h0;have aq:=hs.ev y;rw[hy] at aq;have aq:Rep w I (A.eval y) fv:=aq;have dm:0<n*size:=Nat.mul_pos h0 hp;have em:xs.length=L.length:=hr.1;rcases br.2 with ⟨ac,_⟩ | ⟨gb,cd,G,ac,hB,hh,be,cp,ay,bw⟩
 ·rw[ac] at ah;cases ah
 have ck:O=gb:=by rw[ac] at ah;simpa[blockOf] using ah.symm
 subst ck;have ak:∀j,¬I O j:=λj T=>by have:=(hI O j (by rw[ac];rfl) T).1;cases this
 have bl:O<w.heap.size:=(cQ.1 hh).1;have cj:L.length<=G.size:=by rw[ay,hl];exact dT _ be
 have bg:∀(j:Nat) v,xs[j]? =some v->G[j]? =some v:=λj v T=>by
  rw[<-bw,d5] at T;split at T
  ·simpa using T
  ·cases T
 let I1:Im:=λb j=>I b j\/(b=O/\(j<off\/off+n*size<=j))
 let ca:Nat->Value:=λ_=>A.eval x
 have ad:∀b j,I b j->I1 b j:=λb j h=> .inl h;have an:Same I w w:=λ_ _ _=>KeepB.refl;have az:Frag w I1 ca [(k0,.win e size 0 ((L.drop off).take (n*size)))]:=by
  refine⟨λk=>?_,λk k' b al ab au _=>?_⟩
  ·by_cases ap:k=k0
   ·subst ap
    rw[kK,dI rfl];refine⟨_,n,c,(xs.drop off).take (n*size),aj,bq,hp,by simp;omega,Reps.mono ((hr.drop off).take (n*size)) an ad,λu hu=>h1 u (eP (eC hu)),.inr ⟨O,off,G,rfl,trivial,hh,by omega,λj u T=>?_,λj eh ei T=>?_⟩⟩
    ·rw[d5] at T
     split at T
     ·rw[eT] at T;exact bg _ u T
     ·cases T
    ·rcases T with T | ⟨_,T⟩
     ·exact absurd T (ak j)
     ·omega
   ·rw[kK,dK (λe=>ap e.symm)]
    trivial
  ·exfalso
   have e1:k=k0:=by
    by_cases e:k=k0
    ·exact e
    ·exfalso;apply ab;rw[kK,dK (λq=>e q.symm)];rfl
   have e2:k'=k0:=by
    by_cases e:k'=k0
    ·exact e
    ·exfalso;apply au;rw[kK,dK (λq=>e q.symm)];rfl
   exact al (e1.trans e2.symm)
 have ci:∀b j,I1 b j->b<w.heap.size:=by
  rintro b j (h | ⟨rfl,_⟩)
  ·exact(hs.old b j h).1
  ·exact bl
 have cn:=ax w I1 ca [A.eval x,A.eval y] ci ((hG▸hs.gl).sub ad) az (Pw.cons rfl (Pw.cons (Rep.mono aq an ad) Pw.nil));refine⟨λf _=>trivial,?_⟩;rw[Oper.semAt_eq _ _ _ (by simp)];have bv:(execOp A.eval ⟨some d,.call {callee:= .value (.func f),args:= #[x,y],argTypes:=ats},ty,pos,af,g⟩).run P w= .ok (.enter f #[A.eval x,A.eval y]) w:=by
  have cw:¬fn.name= "runtime.NumGoroutine" :=by simpa using bd
  have cx:¬fn.body=none:=by intro e;simp[e] at aw
  simp[execOp,resolve,Act.eval,Deferred.ofValue,invoke,callFunc,hf,cw,cx]
 rw[bv];refine⟨by simp[fen,Fence.wide],?_⟩;show CallsIn Fence.wide 0 P f _ w _;refine gJ.2 (cn.mono ?_)
 rintro e' w' ⟨v,I',ey,rfl,Z,am,dn,dl,ao,bu,cz,bc⟩
 have bn:look Blk.none [(k0,Blk.win e size 0 D)] k0= .win e size 0 D:=by rw[kK,dI rfl]
 have ap:=bc k0 (by simp) (by rw[bn];simp)
 have ar:=ao.ok k0;rw[bn] at ar;obtain⟨A2,n2,c2,ys,aa,_,_,cv,bt,cg,ch⟩:=ar;rw[ap] at aa;have aa:A.eval x= .slice A2 n2 c2:=aa;rw[aj] at aa;cases aa;rcases ch with ⟨bf,_⟩ | ⟨b2,dq,H,bf,_,bm,cq,cm,_⟩
 ·cases bf
 cases bf;have df:ys.length=n*size:=by rw[bt.1];exact cv
 have ag:∀j,(j<off\/off+n*size<=j)->H[j]? =G[j]?:=λj T=>by
  have:=(am O j (.inr ⟨rfl,T⟩)).cell;rw[fb w' O j H e (0,0) bm,fb w O j G e (0,0) hh] at this;exact this
 have de:H.size=G.size:=by
  have ab:H[G.size]? =none:=by rw[ag G.size (.inr (by omega))];simp
  have au:H.size<=G.size:=by
   by_cases bo:G.size<H.size
   ·rw[fO bo] at ab;cases ab
   ·omega
  by_cases bo:off+n*size<G.size
  ·have:=ag (G.size-1) (.inr (by omega))
   rw[fO (by omega:G.size-1<G.size)] at this;have:=(cQ.1 this).1;omega
  ·omega
 have bi:H.toList=G.toList.take off++ys++G.toList.drop (off+n*size):=by
  apply fV;intro j;by_cases ab:j<off
  ·rw[c8,dY (by simp;omega),d5,dI ab]
   have:=ag j (.inl ab);simpa using this
  ·by_cases au:j<off+n*size
   ·have bb:(G.toList.take off).length=off:=by simp;omega
    rw[c8,dW (by omega),dY (by omega),bb];have bz:ys[j-off]? =some ys[j-off]:=cO (by omega);have:=cm (j-off) _ bz;rw[bz,show off+(j-off)=j by omega] at*;simpa using this
   ·have bb:(G.toList.take off++ys).length=off+n*size:=by simp;omega
    rw[dW (by omega),bb,eT,show off+n*size+(j-(off+n*size))=j by omega];have:=ag j (.inr (by omega));simpa using this
 have Y:Same I w w':=λb j h=>am b j (.inl h);have cr:w.grownBy w' (some O):=⟨Z.os,Z.tape,Z.output,Z.size,λk hk al=>Z.block k hk (by
  rintro⟨i,_,hi⟩
  have hi:blockOf (A.eval x)=some k:=hi;rw[aj] at hi;exact al (by simpa[blockOf] using hi.symm))⟩
 have bx:xs.take off++ys++xs.drop (off+n*size)=H.toList.take (n0*size):=by
  rw[bi,<-bw];have hL:off+n*size<=n0*size:=by rw[<-hl];exact bk
  exact(zV0 df hL (by simp;rw[ay];exact dT _ be)).symm
 have dc:Reps w' I (xs.take off++ys++xs.drop (off+n*size)) (L.take off++D++L.drop (off+n*size)):=
  ((Reps.mono (hr.take off) Y λ_ _ h=>h).append (yKA bt hv)).append (Reps.mono (hr.drop _) Y λ_ _ h=>h)
 have bp:=hs.modify (id:=id) (x:= .row e size false (L.take off++D++L.drop (off+n*size))) cr cy (by rw[ac];rfl) Y ⟨⟨hp,hM⟩,n0,xs.take off++ys++xs.drop (off+n*size),by simp;omega,⟨by simp;omega,.inr ⟨O,cd,H,ac,hB,bm,be,cp,by rw[de];exact ay,bx.symm⟩⟩,by
   intro u hu;simp only[eQ] at hu;rcases hu with (hu | hu) | hu
   ·exact h1 u (eC hu)
   ·exact cg u hu
   ·exact h1 u (eP hu),dc,by
   intro g' j ba hi;rw[ac] at ba;simp[Value.ownBlock] at ba;subst ba;exact absurd hi (ak j)⟩ hE
 refine hk _ _ ⟨I,ρ,C,bp.put hn ?_⟩;obtain⟨zs,hz,dg⟩:=bu;exact⟨zs,hz,cP dg.1▸Pw.nil⟩
end
end Go.AV
namespace Go.M
def zMZ {h:Type} (f:List h->Option (List h)) (l:List h) (a b:Int):Option (List h):=
 if 0<=a/\a<b/\b.toNat<=l.length then (f ((l.drop a.toNat).take (b.toNat-a.toNat))).map λm=>l.take a.toNat++m++l.drop b.toNat else none
end Go.M
namespace Go.AV
open Go.RowKit Go.M
section
variable {P:Program} {r:Option Nat} {E:Env} {S:AState} {d ty:Nat} {pos:String} {af:Array Edge} {g:Option (Nat×Bool)}
theorem yS8 (l:List Int):∀x∈eI.all l,∃u,x= .v u:=by intro x k;obtain⟨n,_,h⟩:=List.mem_flatMap.1 k;have h:x∈[di n]:=h;simp at h;exact⟨_,h⟩
theorem yOT {D:Type} {en:En D} {f e id H:Nat} {x y:Operand} {ats:Array TypeId} {l Y:List D} {a b:Int} {O:DV} {Z:List D->Option (List D)} (hn:d<E.n) (hx:S.ev x= .rs id (a.toNat*en.size) (b.toNat-a.toNat)) (hy:S.ev y= .d O) (hb:S.blk id= .row e en.size false (en.all l))
  (G:zMZ Z l a b=some Y) (hv:∀(m:List D),∀x∈en.all m,∃u,x= .v u) (hc:∀m h,Z m=some h->GC P f [.row H,.d O] [(H,.win e en.size 0 (en.all m))] [H] [] [(H,.win e en.size 0 (en.all h))]) (hE:E.wrB=true) (hG:E.gdt=zAS P:=by rfl):
  jJ P r E ⟨some d,.call {callee:= .value (.func f),args:= #[x,y],argTypes:=ats},ty,pos,af,g⟩ S ((S.setBlk id (.row e en.size false (en.all Y))).put d (.tupc [])):=by
 unfold zMZ at G;split at G
 ·rename_i K
  obtain⟨h,hm,rfl⟩:=fc.1 G;have T:=hc _ _ hm;have e0:en.all ((l.drop a.toNat).take (b.toNat-a.toNat))=((en.all l).drop (a.toNat*en.size)).take ((b.toNat-a.toNat)*en.size):=by rw[zF6,zDN]
  rw[e0] at T;have k:a.toNat*en.size+(b.toNat-a.toNat)*en.size=b.toNat*en.size:=by rw[<-eG];congr 1;omega
  have h2:=yOS (P:=P) (r:=r) (E:=E) (S:=S) (d:=d) (ty:=ty) (pos:=pos) (af:=af) (g:=g) (ats:=ats) hn hx hy hb (by omega) (by rw[k,jI];exact dT _ K.2.2) (hv h) T hE hG
  have e1:en.all (l.take a.toNat++h++l.drop b.toNat)=(en.all l).take (a.toNat*en.size)++en.all h++(en.all l).drop (a.toNat*en.size+(b.toNat-a.toNat)*en.size):=by
   rw[k,zF6,zDN];simp[En.all,List.flatMap_append]
  rw[e1];exact h2
 ·cases G
theorem z34 {K:Type} {en:En K} {t e bytes:Nat} {z:Value} {x lo hi:Operand} {id:Nat} {sh:Bool} {l:List K} {G H:IntKind} {a b:Int} (Y:d<E.n) (T:SlTy P t e en.size bytes z) (Z:S.ev x= .row id) (hb:S.blk id= .row e en.size sh (en.all l)) (D:S.ev lo= .d (.v (.int G a))) (k:S.ev hi= .d (.v (.int H b)))
  (h0:0<=a) (h1:a<b) (O:b.toNat<=l.length):AOp P r E S ⟨some d,.slice t x (some lo) (some hi) none,ty,pos,af,g⟩ d (.rs id (a.toNat*en.size) (b.toNat-a.toNat)):=
 z3E Y T Z hb (jI en l) (lo:=some lo) (hi:=some hi) (l:=a.toNat) (h:=b.toNat) ⟨⟨G,a,D,by omega⟩,⟨H,b,k,by omega⟩,by omega,O⟩
end
end Go.AV
namespace Go.M
def zBE {h k:Type} (f:List h->Option (List h)) (lo hi: k->Int) (l:List h) (items:List k):Option (List h):=items.foldl (λo x=>o.bind λl=>zMZ f l (lo x) (hi x)) (some l)
theorem zPN {h k:Type} (f:List h->Option (List h)) (lo hi: k->Int):∀items:List k,items.foldl (λ(o:Option (List h)) x=>o.bind λl=>zMZ f l (lo x) (hi x)) none=none
 | []=>rfl
 | _::r=>zPN f lo hi r
noncomputable def outK {h D:Type} (f:List h->Option (List h)) (lo hi: D->Int) (l:List h) (items:List D) (k:Nat):List h:=(zBE f lo hi l (items.take k)).getD []
theorem yCE {H K:Type} {f:List H->Option (List H)} {lo hi: K->Int} {l r:List H} {items:List K} (h:zBE f lo hi l items=some r) {k:Nat} {v: K} (T:items[k]? =some v):zMZ f (outK f lo hi l items k) (lo v) (hi v)=some (outK f lo hi l items (k+1)):=by
 have Z:=(cX.1 T).1;have e:zBE f lo hi l (items.take (k+1))=(zBE f lo hi l (items.take k)).bind λl=>zMZ f l (lo v) (hi v):=by
  unfold zBE;rw[List.take_add_one,T,List.foldl_append];rfl
 have Y:∃x,zBE f lo hi l (items.take (k+1))=some x:=by
  cases D:zBE f lo hi l (items.take (k+1)) with
  | some x=>exact⟨x,rfl⟩
  | none=>
   exfalso;have G:=h;rw[<-et (k+1) items] at G;unfold zBE at G D;rw[List.foldl_append,D,zPN] at G;cases G
 obtain⟨x,D⟩:=Y;rw[D] at e;unfold outK;rw[D];cases O:zBE f lo hi l (items.take k) with
 | none=>rw[O] at e;cases e
 | some y=>rw[O] at e;exact e.symm
theorem yFP {k D:Type} {f:List k->Option (List k)} {lo hi: D->Int} {l r:List k} {items:List D} (h:zBE f lo hi l items=some r):outK f lo hi l items items.length=r:=by unfold outK;rw[List.take_length,h];rfl
theorem yFQ {k:Type} {f:List k->Option (List k)} {l D:List k} {a b:Int} (h:zMZ f l a b=some D):0<=a/\a<b/\b.toNat<=l.length:=by unfold zMZ at h;split at h;assumption;cases h
end Go.M
namespace Go.AV
open Go.RowKit Go.M
section
variable {P:Program} {r:Option Nat} {E:Env} {S:AState} {d:Nat} {ty:TypeId} {pos:String} {af:Array Edge} {g:Option (Nat×Bool)}
theorem NilL.app:∀{as bs cs ds:List DV},NilL as bs->NilL cs ds->NilL (as++cs) (bs++ds)
 | [],[],_,_,_,h=>h
 | [],_::_,_,_,h,_=>h.elim
 | _::_,[],_,_,h,_=>h.elim
 | _::_,_::_,_,_,h,k=>⟨h.1,NilL.app h.2 k⟩
theorem NilL.len:∀{as bs:List DV},NilL as bs->as.length=bs.length
 | [],[],_=>rfl
 | [],_::_,h=>h.elim
 | _::_,[],h=>h.elim
 | _::_,_::_,h=>by simp[NilL.len h.2]
theorem zXK {id e size:Nat} {as bs:List DV} (hb:S.blk id= .row e size false as) (D:NilL as bs):zGM E S (S.setBlk id (.row e size false bs)):=by
 rintro a w ⟨I,ρ,C,h⟩
 have O:=h.blks id;rw[hb] at O;obtain⟨hp,n,xs,hl,G,Y,hr,Z⟩:=O;have K:S.blk id≠ .none:=by rw[hb];simp
 have key:∀i,(S.setBlk id (.row e size false bs)).blk i≠ .none->S.blk i≠ .none:=by
  intro i hi;rw[yO] at hi;by_cases k:id=i;subst k;exact K;simpa[k] using hi
 refine⟨I,ρ,C,⟨h.tmps,λi=>?_,λi T b D hi H=>h.dist i T b D (key i hi) (key T H),h.frame,h.sub,h.old,h.size,h.defers,h.cI,λi b hi=>h.cB i b (key i hi),λi v hv hi=>h.nm i v hv (key i hi)⟩⟩;rw[yO];by_cases k:id=i;subst k;simp only[dG];exact⟨hp,n,xs,by rw[<-D.len];exact hl,G,Y,zQ1 D hr,by rw[<-D.len];exact Z⟩
 simp only[k,cV];exact h.blks i
variable {α:Type} {en:En α} {l:List α} {t e bytes:Nat} {z:Value} {x:Operand}
theorem yKB {n:Int} {zero: α} (T:d<E.n) (O:SlTy P t e en.size bytes z) (Y:S.ev x= .d (.v (.int .i64 n))) (k:mkM zero n=some l) (h:bytes<=32768) (D:E.nm d=none):
  jJ P r E ⟨some d,.makeSlice t x x,ty,pos,af,g⟩ S (((S.kill d).setBlk d (.row e en.size false (zKK z l.length))).put d (.row d)):=by
 unfold mkM at k;split at k
 ·rename_i K
  cases k;have G:n=((n.toNat:Nat):Int):=by omega
  have H:n.toNat*bytes<=140737488355328:=by
   have G:n.toNat*bytes<=4294967296*bytes:=dT _ K.2;have H:4294967296*bytes<=4294967296*32768:=gS _ h;omega
  have:=zYU (P:=P) (r:=r) (ty:=ty) (pos:=pos) (af:=af) (g:=g) T O Y G H (by have:=K.2;unfold LIM at this;unfold maxLen;omega) D
  rw[List.length_replicate];exact this
 ·cases k
theorem yCF {n:Int} {zero: α} (D:NilL (z.cells.toList.map DV.v) (en.cells zero)) (h:mkM zero n=some l):NilL (zKK z l.length) (en.all l):=by
 unfold mkM at h;split at h;cases h;rw[List.length_replicate]
 induction n.toNat with
 | zero=>trivial
 | succ k G=>exact D.app G
 cases h
end
open Go.M
theorem wc {E:Env} {S S':AState} (ht:Cov S S'.tmps:=by repeat (first | exact trivial | refine⟨rfl,?_⟩)) (hb:zPW S S'.blks:=by repeat (first | exact trivial | refine⟨rfl,?_⟩)) (hgh:∀C w,E.fr S.ghost C w->E.fr S'.ghost C w:=by exact λ_ _ h=>h):zGM E S S':=yET ht hb hgh
abbrev GdO (o:Oper) (ops:Array Oper) (S:AState) (E:Env) (j t d:Nat) (b q:Bool):Prop:=(o.guard,(ops[j]?).bind (·.dst),o.dst,S.get t,Nat.blt d E.n,Nat.blt t E.n)=(some (j,q),some t,some d,AV.d (.v (.bool b)),true,true)
section
variable {P:Program} {r:Option Nat} {E:Env} {S S':AState} {l:List Oper} {J:AState->Prop} {fuel i d j t:Nat} {listed:List Bool} {is:List Nat} {o:Oper} {x:AV} {b:Bool} {ops:Array Oper} {rest:List Oper}
theorem xa (G:l[i]? =some o) (h:AOp P r E S o d x) (k:zFY P r E l J fuel (listed.set i true) (S.put d x)) (H:AnyE P r E l J fuel listed S is) (D:o.guard=none:=by rfl):AnyE P r E l J fuel listed S (i::is):=yND G D h k H
theorem xb (G:l[i]? =some o) (h:jJ P r E o S S') (k:zFY P r E l J fuel (listed.set i true) S') (H:AnyE P r E l J fuel listed S is) (D:o.guard=none:=by rfl):AnyE P r E l J fuel listed S (i::is):=yNC G D h k H
theorem xc (G:l[i]? =some o) (h:AOp P r E S o d x) (k:zFY P r E l J fuel (listed.set i true) (S.put d x)) (D:o.guard=none:=by rfl):AnyE P r E l J fuel listed S [i]:=yND G D h k z9K
theorem xd (G:l[i]? =some o) (h:jJ P r E o S S') (k:zFY P r E l J fuel (listed.set i true) S') (D:o.guard=none:=by rfl):AnyE P r E l J fuel listed S [i]:=yNC G D h k z9K
theorem xn (is:List Nat) (h:AnyE P r E l J fuel listed S is) (D:rdy l listed=is:=by kernel_rfl) (k:is.isEmpty=false:=by rfl):zFY P r E l J (fuel+1) listed S:=yRC is D k h
theorem sqt (x:AV) (D:GdO o ops S E j t d b true) (h:b=true->AOp P r E S o d x) (k:Sq P r E ops rest (S.put d (.cond (gd true b) x)) J):Sq P r E ops (o::rest) S J:=by injection D with G D;injection D with H D;injection D with K D;injection D with O D;injection D with T Y;exact yQ1 G H K (lq T) (lq Y) O h k
theorem sqf (x:AV) (D:GdO o ops S E j t d b false) (h:b=false->AOp P r E S o d x) (k:Sq P r E ops rest (S.put d (.cond (gd false b) x)) J):Sq P r E ops (o::rest) S J:=by injection D with G D;injection D with H D;injection D with K D;injection D with O D;injection D with T Y;exact yQ1 G H K (lq T) (lq Y) O (λhb=>h (gF hb)) k
theorem dat (x:AV) (D:GdO o ops S E j t d b true) (h:b=true->AOp P r E S o d x) (k:DA P r E ops rest (S.put d (.cond (gd true b) x)) J):DA P r E ops (o::rest) S J:=by injection D with G D;injection D with H D;injection D with K D;injection D with O D;injection D with T Y;exact yQ2 G H K (lq T) (lq Y) O h k
theorem daf (x:AV) (D:GdO o ops S E j t d b false) (h:b=false->AOp P r E S o d x) (k:DA P r E ops rest (S.put d (.cond (gd false b) x)) J):DA P r E ops (o::rest) S J:=by injection D with G D;injection D with H D;injection D with K D;injection D with O D;injection D with T Y;exact yQ2 G H K (lq T) (lq Y) O (λhb=>h (gF hb)) k
theorem zX {c:Operand} {y z:Code} {K:Exit->AState->Prop} {k:Type} {A B:Option k} {q:Option k} (h:cond b A B=q) (G:A=q->Avc P r E y K S) (H:B=q->Avc P r E z K S) (D:S.ev c= .d (.v (.bool b)):=by rfl):Avc P r E (.cond c y z) K S:=
 zJH D ⟨λe=>G (cT e h),λe=>H (cF e h)⟩
end
section
variable {P:Program} {r:Option Nat} {E:Env} {S S':AState} {l:List Oper} {J:AState->Prop} {fuel d:Nat} {listed:List Bool} {x:Operand} {ty:TypeId} {pos:String} {af:Array Edge}
theorem xm (i:Nat) (k:zFY P r E l J fuel (listed.set i true) (S.put d (S.ev x))) (hi:l[i]? =some ⟨some d,.move x,ty,pos,af,none⟩:=by rfl) (H:d<E.n:=by exact lq rfl) (K:r=none:=by rfl) (h:zPM l=true:=by rfl) (D:z62 l listed i ⟨some d,.move x,ty,pos,af,none⟩=true:=by rfl) (G:(rdy l listed).contains i=true:=by rfl):zFY P r E l J (fuel+1) listed S:=yFM hi H K h D G k
end
theorem fx {F G:Prop} (f:F) (h:F->G:=by first | exact λf=>OneTy.of f rfl (by kernel_rfl) | exact λf=>AggTy.of f rfl (by kernel_rfl) | exact λf=>FldTy.of f rfl (by kernel_rfl) (by decide) | exact λf=>SlTy.of f (by kernel_rfl) rfl (by decide) rfl | exact λf=>StTy.of f (by kernel_rfl) (by kernel_rfl) rfl):G:=h f
theorem co {F H G:Prop} (f:F) (k:H) (h:F->H->G:=by exact λf k=>z2W f (by kernel_rfl) rfl (lq rfl) (lq rfl) k):G:=h f k
theorem ae {E:Env} {P:Program} {r:Option Nat} {l:List Oper} {fuel:Nat} {listed:List Bool} {S S2:AState} {e:Exit} (k:rdy l listed= []:=by rfl) (h:zGM E S S2:=by exact wc):zFY P r E l (outK E e S2 e) fuel listed S:=yJ9 k (zR8 h)
theorem tl {E:Env} {P:Program} {r:Option Nat} {S:AState} {K:Exit->AState->Prop} {c:Code} (e:Exit) (S2:AState) (h:Avc P r E c (outK E e S2) S) (k:K e S2):Avc P r E c K S:=zVP h k
theorem oi {k:Type} {a b: k} (h:some a=some b):a=b:=hP h
open Go.RowKit Go.M
def mvO (d:Nat) (v:Value):Oper:=⟨some d,.move (.const v),0, "",#[],none⟩
def pnd (a:Act) (vs:Nat->Value):List (Nat×Nat)->Act
 | []=>a
 | u::U=>(pnd a vs U).put (some u.2) (vs u.2)
def yCG (ops:Array Oper) (h:Oper) (d:Nat):Bool:=!(h.looksAt ops).contains d&&h.dst != some d
def unf (listed:List Bool) (U:List (Nat×Nat)):List Bool:=(List.range listed.length).map λk=>listed.getD k true&& !U.any λu=>u.1==k
section
variable {P:Program} {r:Option Nat} {E:Env} {l:List Oper} {J:AState->Prop} {S:AState}
theorem yRD (ops:Array Oper) (d:Nat) (v:Value) (a:Act):YieldsFenced P ops (mvO d v) v a:=
 ⟨.inl ⟨rfl,λw=>by simp[mvO,execOp,Act.eval]⟩,λw=>rfl⟩
theorem yOV {ops:Array Oper} {k:Oper} {d:Nat} {v:Value} (h:yCG ops k d=true):(mvO d v).apart ops k=true:=by
 unfold Oper.apart;unfold yCG at h;have e:(mvO d v).looksAt ops= []:=by simp[mvO,Oper.looksAt,Op.operands]
 rw[e];simp only[mvO,h,dM];cases k.dst<;>simp
theorem z65 {vs:Nat->Value} {j:Nat} {D:Oper} (T:r=none) (O:l.toArray[j]? =some D) (k:∀cs b,D.op≠ .select cs b):
  ∀(U:List (Nat×Nat)),(∀u∈U,yCG l.toArray D u.2=true)->∀{K:Act->World->Prop} {a:Act} {w:World},wpOpIn (fen r) 0 P l.toArray (QJ E J) j K (pnd a vs U) w->wpOpIn (fen r) 0 P l.toArray (QJ E J) j (λG w'=>K (pnd G vs U) w') a w
 | [],_,_,_,_,h=>h
 | u::U,H,K,a,w,h=>by
  have Y:=wpOpIn_put (oi:=mvO u.2 (vs u.2)) (v:=vs u.2) (F:=fen r) (n:=0) (P:=P) (Q:=QJ E J) (by rw[T];rfl) O (yOV (H u (by simp))) (λcs b e=>by cases e) k (λc a w h=>h.elim) (yRD (P:=P) l.toArray u.2 (vs u.2) (pnd a vs U)) h
  exact z65 T O k U (λq Z=>H q (by simp[Z])) (wpOpIn_mono (λG w' h=>h.2) Y)
theorem yFR {a:Act} {vs:Nat->Value} {U V:List (Nat×Nat)} (h:U.Perm V):pnd a vs U=pnd a vs V:=by
 induction h with
 | nil=>rfl
 | cons x _ G=>show (pnd a vs _).put _ _=(pnd a vs _).put _ _;rw[G]
 | swap x y U=>
  show ((pnd a vs U).put (some x.2) (vs x.2)).put (some y.2) (vs y.2)=((pnd a vs U).put (some y.2) (vs y.2)).put (some x.2) (vs x.2);by_cases e:x.2=y.2
  · rw[e]
  · exact Act.put_comm _ _ _ (λd k D=>e (by injection k with k;injection D with D;omega))
 | trans _ _ k D=>exact k.trans D
theorem yKC {A:Act} {w:World} {d:Nat} {v:Value} (D:d<E.n) (h:Sat E S (A.put (some d) v) w):Sat E (S.put d .top) A w:=by
 obtain⟨I,ρ,C,h⟩:=h;refine⟨I,ρ,C,λt=>?_,h.blks,h.dist,by rw[zA0 S _ D];exact h.frame,h.sub,h.old,by have:=h.size;simpa[Act.put] using this,h.defers,h.cI,h.cB,h.nm⟩
 rw[uJ];by_cases k:d=t;rw[dI k];trivial;rw[dK k];have:=h.tmps t;simp only[Act.put] at this;rw[dF,dU k] at this;rw[dF];exact this
theorem yFS {A:Act} {w:World} {d:Nat} (D:d<E.n) (h:Sat E ((S.put d .top).put d (S.get d)) A w):Sat E S A w:=by
 obtain⟨I,ρ,C,h⟩:=h;refine⟨I,ρ,C,λt=>?_,h.blks,h.dist,by have:=h.frame;rw[zA0 _ _ D,zA0 S _ D] at this;exact this,h.sub,h.old,h.size,h.defers,h.cI,h.cB,h.nm⟩
 have:=h.tmps t;rw[uJ,uJ] at this;by_cases k:d=t;rw[dI k] at this;rw[<-k];rw[<-k] at this;exact this;rw[dK k,dK k] at this;exact this
def FlS (P:Program) (r:Option Nat) (E:Env) (l:List Oper) (S:AState) (u:Nat×Nat):Prop:= ∃o,l[u.1]? =some o/\o.guard=none/\u.2∉o.looksAt l.toArray/\AOp P r E S o u.2 (S.get u.2)
theorem z66 {vs:Nat->Value} {U:List (Nat×Nat)} {u:Nat×Nat} {a:Act} {w:World} (hr:r=none) (H:zPM l=true) (hu:u∈U) (hf:FlS P r E l S u) (D:∀o,l[u.1]? =some o->∀q∈U.erase u,yCG l.toArray o q.2=true) (h:Sat E S (pnd a vs U) w):
  wpOpIn (fen r) 0 P l.toArray (QJ E J) u.1 (λZ w'=>Sat E S (pnd Z vs (U.erase u)) w') a w:=by
 obtain⟨o,O,hg,K,G⟩:=hf;have hd:u.2<E.n:=G.2.1;rw[yFR (List.perm_cons_erase hu)] at h;have h1:=yKC hd h;have k:l.toArray[u.1]? =some o:=by simpa using O
 have Y:jJ P r E o (S.put u.2 .top) ((S.put u.2 .top).put u.2 (S.get u.2)):=G.2.2 (S.put u.2 .top) ⟨rfl,λt ht=>by
  rw[uJ,dK (λe=>K (by rw[e];exact zOK ht))]⟩
 refine z65 hr k (λcs b e=>?_) (U.erase u) (D o O) ?_
 ·have:=dS.1 H o (eN O)
  rw[e] at this;cases this
 ·unfold wpOpIn
  simp only[k];exact zJF hg Y (pnd a vs (U.erase u)) w _ _ h1 λZ w' T=>yFS hd T
def zXL (l:List Oper) (h:List (Nat×Nat)):Bool:=
 h.all (λu=>match l[u.1]? with
  | none=>false
  | some o=>(aft o).all λj=>!h.any λq=>q.1==j)&&
 (List.range l.length).all (λj=>match l[j]? with
  | none=>true
  | some k=>h.all λu=>j==u.1 ||(aft k).contains u.1 ||yCG l.toArray k u.2)&&zPM l&&h.all λu=>h.all λq=>u.1 != q.1 ||u==q
def zV2 (l:List Oper) (h:List (Nat×Nat)) (listed:List Bool):Bool:=listed.length==l.length&&h.all λu=>listed.getD u.1 false&&match l[u.1]? with
 | none=>false
 | some o=>(aft o).all λj=>listed.getD j false
def zV3 (P:Program) (r:Option Nat) (E:Env) (l:List Oper) (J:AState->Prop) (h:List (Nat×Nat)) (fuel:Nat) (listed:List Bool) (S:AState):Prop:=
 ∀(U:List (Nat×Nat)),U.Nodup->(∀u∈U,u∈h)->∀(vs:Nat->Value) (a:Act) (w:World),Sat E S (pnd a vs U) w->wpAnyIn (fen r) 0 P .any l.toArray (QJ E J) (fuel+U.length) (unf listed U).toArray a w
theorem zIW (listed:List Bool) (U:List (Nat×Nat)):(unf listed U).length=listed.length:=by simp[unf]
theorem zQ5 {listed:List Bool} {U:List (Nat×Nat)} {k:Nat} {b:Bool} (h:k<listed.length):(unf listed U).toArray.getD k b=(listed.getD k true&& !U.any λu=>u.1==k):=by simp[unf,dF,h]
theorem z0T {D:List Bool} {k:Nat} (h:D.getD k false=true):k<D.length/\D.getD k true=true:=by by_cases G:k<D.length;refine⟨G,?_⟩;simp[eF,G] at h ⊢;exact h;simp[eF,fG (Nat.le_of_not_lt G)] at h
theorem zIX {U:List (Nat×Nat)} {k:Nat}:(U.any λu=>u.1==k)=true↔∃u∈U,u.1=k:=by simp[fT]
section
variable {fl U:List (Nat×Nat)} {listed:List Bool}
theorem z67 (D:zXL l fl=true) (k:zV2 l fl listed=true) (H:∀u∈U,u∈fl) {u:Nat×Nat} (O:u∈U):u.1∈Region.ready .any l.toArray (unf listed U).toArray:=by
 simp only[zXL,zV2,dE,dS,iL] at D k;obtain⟨Y,h⟩:=k.2 u (H u O);obtain⟨k1,k2⟩:=z0T Y;have G:=D.1.1.1 u (H u O);cases K:l[u.1]? with
 | none=>rw[K] at h;cases h
 | some o=>
  rw[K] at h G;simp only[dS] at h G;refine zVL K ?_ λj T=>?_;rw[zQ5 k1];have:(U.any λq=>q.1==u.1)=true:=zIX.2 ⟨u,O,rfl⟩;rw[this];simp;obtain⟨j1,j2⟩:=z0T (h j T);rw[zQ5 j1,j2];have:=G j T;cases he:(U.any λq=>q.1==j) with
  | false=>rfl
  | true=>
   obtain⟨q,hq,e⟩:=zIX.1 he;have Z:(fl.any λq=>q.1==j)=true:=zIX.2 ⟨q,H q hq,e⟩;rw[Z] at this;cases this
theorem zP2 (k:zV2 l fl listed=true) {i:Nat} (hi:i∈Region.ready .any l.toArray (unf listed U).toArray) (Z:¬∃u∈U,u.1=i):i∈rdy l listed:=by
 simp only[zV2,dE,iL] at k;obtain⟨D,G,K⟩:=zEC hi;have O:(U.any λu=>u.1==i)=false:=by
  cases T:(U.any λu=>u.1==i) with
  | false=>rfl
  | true=>exact absurd (zIX.1 T) Z
 rw[zQ5 (by omega),O] at G;simp only[rdy,e6,fH,dE,fS];refine⟨D,by simpa using G,?_⟩;have H:=cO D;rw[H];simp only[dS];intro j Y;have:=K _ H j Y;by_cases h:j<listed.length;rw[zQ5 h] at this;simp only[dE] at this;have q:=this.1;simp[eF,h] at q ⊢;exact q;rw[dF,Array.getElem?_eq_none (by rw[fW,zIW];omega)] at this
 cases this
theorem yCH (H:zXL l fl=true) (G:zV2 l fl listed=true) (K:∀u∈U,u∈fl) (O:U.Nodup) {u:Nat×Nat} (Y:u∈U):(unf listed U).set u.1 true=unf listed (U.erase u):=by
 simp only[zXL,zV2,dE,dS,fB,bne_iff_ne,iL] at H G;refine fU (by simp[zIW]) λk h1 T=>?_;have hk:k<listed.length:=by rw[zIW] at T;exact T
 rw[List.getElem_set];by_cases e:u.1=k
 ·subst e
  obtain⟨_,Z⟩:=z0T (G.2 u (K u Y)).1;have:((U.erase u).any λq=>q.1==u.1)=false:=by
   cases he:((U.erase u).any λq=>q.1==u.1) with
   | false=>rfl
   | true=>
    obtain⟨q,D,e⟩:=zIX.1 he;have:=H.2 u (K u Y) q (K q (hQ D));rcases this with h | h
    ·exact absurd e.symm h
    ·subst h;exact absurd D (O.not_mem_erase)
  rw[eF] at Z;simp[unf,Z,this]
 ·have:(U.any λq=>q.1==k)=((U.erase u).any λq=>q.1==k):=by
   rw[gL,zIX,zIX];constructor
   ·rintro⟨q,D,rfl⟩
    exact⟨q,(List.mem_erase_of_ne (λh=>e (by rw[h]))).2 D,rfl⟩
   ·rintro⟨q,D,rfl⟩
    exact⟨q,hQ D,rfl⟩
  simp[unf,e,this]
theorem z9L {i:Nat} (hi:i<listed.length) (K:¬∃u∈U,u.1=i):(unf listed U).set i true=unf (listed.set i true) U:=by
 refine fU (by simp[zIW]) λk O h=>?_;have H:k<listed.length:=by simpa[zIW] using h
 rw[List.getElem_set];have D:(U.any λu=>u.1==i)=false:=by
  cases G:(U.any λu=>u.1==i) with
  | false=>rfl
  | true=>exact absurd (zIX.1 G) K
 by_cases e:i=k;subst e;simp[unf,D,hi];simp[unf,e,H,List.getElem_set_ne e]
end
theorem yRE {fl:List (Nat×Nat)} {listed:List Bool} {fuel:Nat} (hr:r=none) (H:zXL l fl=true) (G:zV2 l fl listed=true) (aq:∀u∈fl,FlS P r E l S u)
  (Y:∀j∈rdy l listed,∃f o S',fuel=f+1/\l[j]? =some o/\o.guard=none/\jJ P r E o S S'/\zV3 P r E l J fl f (listed.set j true) S') (ao:rdy l listed= []->J S):zV3 P r E l J fl fuel listed S:=by
 have ag:zPM l=true:=by simp only[zXL,dE] at H;exact H.1.2
 have bf:listed.length=l.length:=by simp only[zV2,dE,iL] at G;exact G.1
 have off:∀{U:List (Nat×Nat)} {j:Nat} {oj:Oper},(∀u∈U,u∈fl)->l[j]? =some oj->j∈Region.ready .any l.toArray (unf listed U).toArray->∀u∈U,j≠u.1->yCG l.toArray oj u.2=true:=by
  intro U j oj K hj bb u D ba;have ay:=(cX.1 hj).1;simp only[zXL,dE,dS] at H;have h1:=H.1.1.2 j (fH.2 ay);rw[hj] at h1;simp only[dS,fB,iL] at h1;rcases h1 u (K u D) with (h | h) | h
  ·exact absurd h ba
  ·exfalso
   have hm:=gE.1 h;have h2:=(zEC bb).2.2 oj hj u.1 hm;have bc:u.1<listed.length:=by
    simp only[zV2,dE,dS] at G;exact(z0T (G.2 u (K u D)).1).1
   rw[zQ5 bc] at h2;have:(U.any λq=>q.1==u.1)=true:=zIX.2 ⟨u,D,rfl⟩;rw[this] at h2;simp at h2
  ·exact h
 have key:∀(n:Nat) (U:List (Nat×Nat)),U.length=n->U.Nodup->(∀u∈U,u∈fl)->∀(vs:Nat->Value) (a:Act) (w:World),Sat E S (pnd a vs U) w->wpAnyIn (fen r) 0 P .any l.toArray (QJ E J) (fuel+n) (unf listed U).toArray a w:=by
  intro n
  induction n with
  | zero=>
   intro U hn O K vs a w hs;have:U= []:=cP hn;subst this;have sub:∀i,i∈rdy l listed->i∈Region.ready .any l.toArray (unf listed []).toArray:=by
    intro i hi;have e:unf listed []=listed:=by
     refine fU (by simp[zIW]) λk h1 h2=>?_;simp[unf,h2]
    rw[e];exact zUM (gE.2 hi)
   have e0:Region.ready .any l.toArray (unf listed []).toArray= []->J S:=λhe=>ao (gK.2 λi hi=>by
    have:=sub i hi;rw[he] at this;cases this)
   cases fuel with
   | zero=>
    have he:Region.ready .any l.toArray (unf listed []).toArray= []:=gK.2 λi hi=>by
     obtain⟨f,_,_,h0,_⟩:=Y i (zP2 G hi (λ⟨u,D,_⟩=>by cases D));cases h0
    exact⟨he,S,e0 he,hs⟩
   | succ fuel=>
   refine⟨λhe=>⟨S,e0 he,hs⟩,λi hi=>?_⟩
   ·obtain⟨f,o,S',hf,ho,hg,ak,hk⟩:=Y i (zP2 G hi (λ⟨u,D,_⟩=>by cases D))
    cases hf;have aa:l.toArray[i]? =some o:=by simpa using ho
    unfold wpOpIn;simp only[aa];refine zJF hg ak a w _ _ hs λa' w' T=>?_;have au:=(zEC hi).1;rw[zMG,z9L (by omega) (λ⟨u,D,_⟩=>by cases D)];exact hk [] .nil (λu D=>by cases D) vs a' w' T
  | succ n ih=>
   intro U hn O K vs a w hs;refine⟨λhe=>?_,λi hi=>?_⟩
   ·exfalso
    cases U with
    | nil=>cases hn
    | cons u U=>
     have:=z67 (listed:=listed) H G K (u:=u) (by simp);rw[he] at this;cases this
   ·by_cases Z:∃u∈U,u.1=i
    ·obtain⟨u,D,rfl⟩:=Z
     refine wpOpIn_mono (λa' w' T=>?_) (z66 (J:=J) hr ag D (aq u (K u D)) (λo ho q hq=>off K ho hi q (hQ hq) (λe=>?_)) hs)
     ·rw[zMG,yCH H G K O D]
      exact ih (U.erase u) (by rw[List.length_erase_of_mem D];omega) (O.erase u) (λq hq=>K q (hQ hq)) vs a' w' T
     ·simp only[zXL,dE,dS,fB,bne_iff_ne,iL] at H
      rcases H.2 u (K u D) q (K q (hQ hq)) with h | h
      ·exact h e
      ·subst h;exact O.not_mem_erase hq
    ·obtain⟨f,o,S',hf,ho,hg,ak,hk⟩:=Y i (zP2 G hi Z)
     subst hf;have aa:l.toArray[i]? =some o:=by simpa using ho
     have au:=(zEC hi).1;have h1:wpOpIn (fen r) 0 P l.toArray (QJ E J) i (λa' w'=>Sat E S' a' w') (pnd a vs U) w:=by
      unfold wpOpIn;simp only[aa];exact zJF hg ak (pnd a vs U) w _ _ hs λa' w' h=>h
     have h2:=z65 (vs:=vs) hr aa (λcs b e=>by
      have:=dS.1 ag o (eN ho);rw[e] at this;cases this) U (λu D=>off K ho hi u D (λe=>Z ⟨u,D,e.symm⟩)) h1
     refine wpOpIn_mono (λa' w' T=>?_) h2;rw[zMG,z9L (by omega) Z];have h3:=hk U O K vs a' w' T;rw[show f+U.length=f+1+n by omega] at h3;exact h3
 intro U O K vs a w hs;exact key U.length U rfl O K vs a w hs
end
open Go.RowKit Go.M
def Fl (E:Env) (S:AState) (x:AV):Prop:= ∀a w I ρ C,SatAt E S a w I ρ C->∃v,Holds w I ρ v x
section
variable {P:Program} {r:Option Nat} {E:Env} {l:List Oper} {J:AState->Prop} {S:AState} {fl:List (Nat×Nat)} {listed:List Bool} {fuel:Nat}
theorem yKD {x:Operand} {cells:List DV} {off:Nat} {e:DV} (K:S.ev x= .ip cells off) (D:cells[off]? =some e):Fl E S (.d e):=λa w I ρ C H=>by
 have h:=H.ev x;rw[K] at h;obtain⟨b,Y,xs,T,G,O,_⟩:=h;have k:off<xs.length:=by rw[G.1];exact(cX.1 D).1
 exact⟨xs[off],G.2 off _ e (cO k) D⟩
def FlA (P:Program) (r:Option Nat) (E:Env) (l:List Oper) (S:AState):List (Nat×Nat)->Prop
 | []=>True
 | u::fl=>FlS P r E l S u/\FlA P r E l S fl
theorem FlA.mem:∀{fl:List (Nat×Nat)},FlA P r E l S fl->∀u∈fl,FlS P r E l S u
 | [],_,u,h=>by cases h
 | v::fl,h,u,k=>by
  rcases dL.1 k with e | k;rw[e];exact h.1;exact h.2.mem u k
def AnyG (P:Program) (r:Option Nat) (E:Env) (l:List Oper) (J:AState->Prop) (fl:List (Nat×Nat)) (fuel:Nat) (listed:List Bool) (S:AState):List Nat->Prop
 | []=>True
 | i::is=>(∃o S',l[i]? =some o/\o.guard=none/\jJ P r E o S S'/\zV3 P r E l J fl fuel (listed.set i true) S')/\AnyG P r E l J fl fuel listed S is
theorem AnyG.mem:∀{is:List Nat} {i:Nat},AnyG P r E l J fl fuel listed S is->i∈is->∃o S',l[i]? =some o/\o.guard=none/\jJ P r E o S S'/\zV3 P r E l J fl fuel (listed.set i true) S'
 | [],_,_,h=>by cases h
 | k::is,i,h,hi=>by
  rcases dL.1 hi with e | hi;subst e;exact h.1;exact AnyG.mem h.2 hi
theorem zTY (is:List Nat) (hf:FlA P r E l S fl) (h:AnyG P r E l J fl fuel listed S is) (hr:r=none) (H:zXL l fl=true) (G:zV2 l fl listed=true) (D:rdy l listed=is) (k:is.isEmpty=false):zV3 P r E l J fl (fuel+1) listed S:=
 yRE hr H G hf.mem (λj K=>by
  rw[D] at K;obtain⟨o,S',O,T,Y,Z⟩:=h.mem K;exact⟨fuel,o,S',rfl,O,T,Y,Z⟩) (λe=>by rw[<-D,e] at k;cases k)
theorem z68 (K:FlA P r E l S fl) (h:J S) (O:r=none) (D:zXL l fl=true) (k:zV2 l fl listed=true) (G:rdy l listed= []):zV3 P r E l J fl fuel listed S:=
 yRE O D k K.mem (λj H=>by rw[G] at H;cases H) (λ_=>h)
theorem fa {u:Nat×Nat} (h:FlS P r E l S u) (k:FlA P r E l S fl):FlA P r E l S (u::fl):=⟨h,k⟩
theorem fz:FlA P r E l S []:=trivial
theorem z35 {i d:Nat} {is:List Nat} {o:Oper} {x:AV} (G:l[i]? =some o) (D:o.guard=none) (h:AOp P r E S o d x) (k:zV3 P r E l J fl fuel (listed.set i true) (S.put d x)) (H:AnyG P r E l J fl fuel listed S is):AnyG P r E l J fl fuel listed S (i::is):=
 ⟨⟨o,_,G,D,h.step,k⟩,H⟩
theorem yCI {i:Nat} {is:List Nat} {o:Oper} {S':AState} (G:l[i]? =some o) (D:o.guard=none) (h:jJ P r E o S S') (k:zV3 P r E l J fl fuel (listed.set i true) S') (H:AnyG P r E l J fl fuel listed S is):AnyG P r E l J fl fuel listed S (i::is):=
 ⟨⟨o,S',G,D,h,k⟩,H⟩
theorem ff {i d:Nat} {o:Oper} (H:l[i]? =some o) (D:o.guard=none) (h:AOp P r E S o d (S.get d)) (G:(o.looksAt l.toArray).contains d=false):FlS P r E l S (i,d):=by refine⟨o,H,D,λe=>?_,h⟩;have k:=gE.2 e;rw[G] at k;cases k
theorem yFT {vs:Nat->Value} {d:Nat} {v:Value} {a:Act}:∀{U:List (Nat×Nat)},(∀u∈U,u.2≠d)->pnd a (λt=>if t=d then v else vs t) U=pnd a vs U
 | [],_=>rfl
 | u::U,h=>by
  show (pnd a _ U).put _ _=(pnd a vs U).put _ _;rw[yFT (λq k=>h q (by simp[k]))];simp only[dK (h u (by simp))]
theorem z0U (i d:Nat) {x:AV} (hx:Fl E S x) (hn:d<E.n) (h:zV3 P r E l J ((i,d)::fl) fuel (listed.set i true) (S.put d x)) (hi:listed.getD i true=false) (hd:fl.all (λu=>u.2 != d)=true):zV3 P r E l J fl (fuel+1) listed S:=by
 intro U Y Z vs a w O;obtain⟨I,ρ,C,O⟩:=O;obtain⟨v,hv⟩:=hx _ _ _ _ _ O;have D:i<listed.length:=by
  rcases fK i listed.length with h | h;exact h;rw[eF,fG h] at hi;cases hi
 have G:∀u∈U,u.2≠d:=λu H=>by
  have:=dS.1 hd u (Z u H);simpa using this
 have K:=h ((i,d)::U) (List.nodup_cons.2 ⟨λhm=>G _ hm rfl,Y⟩) (λu H=>by
  rcases dL.1 H with e | H;rw[e];simp;exact ic _ (Z u H)) (λt=>if t=d then v else vs t) a w (by
  show Sat E _ ((pnd a _ U).put (some d) (if d=d then v else vs d)) w;rw[yFT G,dI rfl];exact⟨I,ρ,C,O.put hn hv⟩)
 have e:unf (listed.set i true) ((i,d)::U)=unf listed U:=by
  refine fU (by simp[zIW]) λk h1 K=>?_;have hk:k<listed.length:=by simpa[zIW] using h1
  by_cases T:i=k;subst T;rw[eF,cO D] at hi;simp only[gD] at hi;simp[unf,hi,D];have e1:(i==k)=false:=by simpa using T
  simp[unf,hk,List.getElem_set_ne T,e1]
 rw[e] at K;have e2:fuel+((i,d)::U).length=fuel+1+U.length:=by simp;omega
 rw[e2] at K;exact K
theorem yRF (h:zV3 P r E l J [] fuel listed S):zFY P r E l J fuel listed S:=λa w G=>by
 have:=h [] .nil (λu H=>by cases H) (λ_=> .bool false) a w G;have e:unf listed []=listed:=by
  refine fU (by simp[zIW]) λk K D=>?_;simp[unf,D]
 rw[e] at this;exact this
theorem z36 {i d s k off n:Nat} {t:TypeId} {x:Operand} {cells:List DV} {ty:TypeId} {pos:String} {af:Array Edge} (hi:l[i]? =some ⟨some d,.fieldAddr s x k,ty,pos,af,none⟩) (hn:d<E.n) (hT:FldTy P s k off n t) (hx:S.ev x= .d (.pt cells)) (K:r=none) (D:zPM l=true)
  (G:z62 l listed i ⟨some d,.fieldAddr s x k,ty,pos,af,none⟩=true) (O:(rdy l listed).contains i=true) (k':zFY P r E l J fuel (listed.set i true) (S.put d (.ip cells (0+off)))):zFY P r E l J (fuel+1) listed S:=
 zLK K hi rfl rfl D G O (λA w ⟨I,ρ,C,Y⟩=>by
  have h:=Y.ev x;rw[hx] at h;obtain⟨b,T,xs,hv,K,Z,H⟩:=z3Q (ρ:=ρ) h;refine⟨.pointer (some ⟨b,T+(0+off),none⟩),λw'=>?_,λw'=>rfl,I,ρ,C,Y.put hn ⟨b,T,xs,rfl,K,Z,H⟩⟩;simp only[execOp,hv,cS,zKM hT w' b (T+0),fX];rfl) k'
end
end Go.AV
namespace Go.M
end Go.M
namespace Go.AV
open Go.RowKit Go.M
section
variable {P:Program} {r:Option Nat} {E:Env} {S:AState} {d:Nat} {ty:TypeId} {pos:String} {af:Array Edge} {g:Option (Nat×Bool)}
theorem z69 {α:Type} {en:En α} {l l':List α} {t e:TypeId} {n:Nat} {zs:List Value} {x hi:Operand} {k2:IntKind} {b:Int} (hn:d<E.n) (Y:ArTy P t n en.size e zs) (ac:l.length=n) (hp:0<n) (hx:S.ev x= .d (.pt (en.all l))) (ab:S.ev hi= .d (.v (.int k2 b))) (h:slc l 0 b=some l'):
  AOp P r E S ⟨some d,.slice t x none (some hi) none,ty,pos,af,g⟩ d (.d (zH en l')):=
 ⟨rfl,hn,λS' ha=>zY rfl hn (by simp) λA w I ρ C hs=>by
  obtain⟨rfl,h0,h1,h2⟩:=zCK h;have T:=hs.ev x;rw[(ha.ev (x:=x) (by simp[Op.operands])).trans hx] at T;have h4:=hs.val ((ha.ev (x:=hi) (by simp[Op.operands])).trans ab);have aa:b=(b.toNat:Int):=by omega
  generalize b.toNat=k at*;subst aa;generalize hv:A.eval x=v at T;cases T with
  | pt K off xs _ ad hc O hr=>
   have D:=jI en l;have Z:(Instr.sliceBounds false n n none (some (.int k2 k)) none).run P w= .ok (0,k,n) w:=by
    simp[Instr.sliceBounds,wC (P:=P) w k2 k n _ (by omega)]
   rw[ac] at D;have hR:Rep w I (.slice (some ⟨K,off,none⟩) n n) (.sl en.size (en.all l)):= .sl K off n n en.size xs _ hp (dA _) D ad hc O hr;have H:=zY2 (l:=0) (h:=k) hR D Y.pos (gH _) (by omega);rw[dK (by omega)] at H;have G:n≠0:=by omega
   simp only[eZ,u7,gB,fJ,Nat.sub_zero,d7] at H;refine⟨.slice (some ⟨K,off,none⟩) k n,?_,?_⟩
   ·simp only[execOp,Instr.sliceAt,cS,dJ Y.und,cW,hv,eZ,gy,h4,Instr.sureAddr,dV,Z,Y.size,G.symm,G,cV,u7,gB,fJ,Nat.sub_zero]
   ·rw[zDN] at H
    exact H⟩
theorem zOU {T:Type} {en:En T} {l:List T} {t e:TypeId} {n off:Nat} {zs:List Value} {cells:List DV} {x K:Operand} {kk:IntKind} {i:Int} {v: T} (hn:d<E.n) (hT:ArTy P t n en.size e zs) (G:l.length=n) (hx:S.ev x= .ip cells off) (hi:S.ev K= .d (.v (.int kk i))) (hv:yD l i=some v):
  AOp P r E S ⟨some d,.indexAddr t x K,ty,pos,af,g⟩ d (.ip cells (off+i.toNat*en.size)):=
 ⟨rfl,hn,λS' Z=>zY rfl hn (by simp) λA w I ρ C hs=>by
  have h:=hs.ev x;rw[(Z.ev (by simp[Op.operands])).trans hx] at h;have Y:=hs.ev K;rw[(Z.ev (by simp[Op.operands])).trans hi] at Y;have k:=zPK Y;obtain⟨b,O,xs,H,hr,h1,D⟩:=h;have hk:=(wU hv).2.2.1;rw[(wU hv).2.1] at k;rw[G] at hk;refine⟨.pointer (some ⟨b,O+(off+i.toNat*en.size),none⟩),?_,b,O,xs,rfl,hr,h1,D⟩;simp only[execOp,H,k,cS,zMD hT hk kk w b (O+off),fX];rfl⟩
theorem yFU {G H:Type} {en:En G} {h:En H} {Y:List G} {l:List H} {t:TypeId} {x:Operand} {i j:Int} {v: G} {u: H} (hn:d<E.n) (Z:OneTy P t) (hx:S.ev x= .ip (en.all Y) (i.toNat*en.size+j.toNat*h.size)) (hv:yD Y i=some v) (hu:yD l j=some u)
  (T:en.cells v=h.all l) (K:h.cells u= [h.dv u]):AOp P r E S ⟨some d,.load t x,ty,pos,af,g⟩ d (.d (h.dv u)):=
 kW hn Z hx (by
  have D:h.size=1:=by have:=zVQ (h.ok u);rw[show vG (h.dv u)=h.cells u from rfl,K] at this;simpa using this.symm
  have hj:=(wU hu).2.2;have k:j.toNat*h.size<en.size:=by
   have:=zVQ (en.ok v);rw[show vG (en.dv v)=en.cells v from rfl,T,jI] at this;rw[<-this,D];omega
  rw[zON en (wU hv).2.2.2 _ k,T];have O:=zON h hj.2 0 (by omega);rw[fJ] at O;rw[O,K];rfl)
end
open Go.RowKit Go.M
section
variable {P:Program} {r:Option Nat} {E:Env} {S:AState} {d:Nat} {ty:TypeId} {pos:String} {af:Array Edge} {g:Option (Nat×Bool)}
theorem yCJ {α:Type} {en:En α} {t e bytes:Nat} {z:Value} {m Y:List α} {x s:Operand} {id:Nat} (hn:d<E.n) (Z:SlTy P t e en.size bytes z) (hs:S.ev s= .d (.v (.slice none 0 0))) (H:((S.kill id).setBlk id (.row e en.size false [])).ev x= .d (zH en m)) (ha:app [] m=some Y) (ah:0<bytes) (G:bytes<=32768)
  (hE:E.wrB=true) (K:E.nm id=none):
  jJ P r E ⟨some d,.call {callee:= .builtin .append,args:= #[s,x],argTypes:= #[t,t]},ty,pos,af,g⟩ S (((((S.kill id).setBlk id (.row e en.size false [])).kill id).setBlk id (.row e en.size false (en.all Y))).put d (.row id)):=
 zAM (by simp) λA w I ρ C h=>by
  obtain⟨hl,k⟩:=zQZ ha;rw[show Y=m from hl];have h2:=h.update (iu w none) (id:=id) (u:= .slice none 0 0) (x:= .row e en.size false []) (by simp) (k7 I w) (by simp[blockOf])
   ⟨⟨Z.pos,by simp[upd,Value.ownBlock]⟩,0,[],by simp,by simp only[upd,dG];exact ia w _ e en.size,by simp,Pw.nil,by simp[upd,Value.ownBlock]⟩ (.inl rfl) K
  have D:((S.kill id).setBlk id (.row e en.size false [])).blk id= .row e en.size false []:=by rw[yO,dI rfl]
  have hb:=zZD (bytes:=bytes) G k;have T:0+m.length<=maxLen:=by unfold maxLen;unfold LIM at k;simp at k;omega
  obtain⟨v,w',h3,O⟩:=zYT (ty:=ty) (pos:=pos) (af:=af) (g:=g) (s:=s) (x:=x) hn Z D (news:=en.all m) (n:=0) (m:=m.length) (by rw[H];rfl) (by simp) (jI en m) (by simpa using hb) T hE K h2 (by rw[h.val hs];simp[upd])
  rw[H] at O;simp only[AState.shareAV,D,Blk.appended,dP] at O;exact⟨v,w',h3,O⟩
end
end Go.AV
namespace Go.M
theorem yFV {k:Type} {a b:Int} {x y:Option k} {r: k} (h:cond (decide (a=b)) x y=some r):(a=b/\x=some r)\/y=some r:=by by_cases e:a=b;simp only[e,dB,cN] at h;exact .inl ⟨e,h⟩;simp only[e,dH,cM] at h;exact .inr h
theorem gT {k:Type} [Inhabited k] {m:Option k} {r: k} (h:gM true m=some r):m=some r:=h
end Go.M
namespace Go.AV
open Go.RowKit Go.M
section
variable {P:Program} {r:Option Nat} {E:Env} {l:List Oper} {J:AState->Prop} {S:AState} {fl:List (Nat×Nat)} {listed:List Bool} {fuel:Nat} {d:Nat} {ty:TypeId} {pos:String} {af:Array Edge}
theorem zZJ {x:Operand} {cells:List DV} (H:S.ev x= .d (.pt cells)):Fl E S (.d (.agg cells)):=λa w I ρ C G=>by have h:=G.ev x;rw[H] at h;obtain⟨b,O,xs,K,k,D,_⟩:=z3Q (ρ:=ρ) h;exact⟨.agg xs.toArray,.agg _ _ k.1 D k.2⟩
end
end Go.AV
namespace Go.M
theorem yS9 {k:Type} {a b:Option k} {r: k} (h:cond true a b=some r):a=some r:=h
theorem yTA {k:Type} {a b:Option k} {r: k} (h:cond false a b=some r):b=some r:=h
def goB (h:Bool) (n k:Nat):Bool:=!(h&&Nat.beq (k+1) n)
def zMI {A S:Type} (body:S->A->Option (Bool×S)):S->List A->Option (Nat×Bool×S)
 | s,[]=>some (0,true,s)
 | s,x::xs=>match body s x with
  | none=>none
  | some (false,h)=>some (1,false,h)
  | some (true,h)=>(zMI body h xs).map λr=>(r.1+1,r.2)
def zO7 {A S:Type} (body:S->A->Option (Bool×S)):Nat->S->List A->S
 | 0,s,_=>s
 | _+1,s,[]=>s
 | k+1,s,x::xs=>match body s x with
  | none=>s
  | some (_,h)=>zO7 body k h xs
theorem z0V {A S:Type} {body:S->A->Option (Bool×S)}:∀{l:List A} {s k:S} {n:Nat} {b:Bool},zMI body s l=some (n,b,k)->n<=l.length
 | [],s,k,n,b,h=>by cases h;exact dA _
 | x::xs,s,k,n,b,h=>by
  simp only[zMI] at h;cases hb:body s x with
  | none=>rw[hb] at h;cases h
  | some p=>
   obtain⟨g,G⟩:=p;rw[hb] at h;cases g with
   | false=>cases h;simp
   | true=>
    simp only[fc,Prod.exists,iI] at h;obtain⟨m,b2,H,D,rfl,rfl,rfl⟩:=h;have:=z0V D;simp;omega
theorem z37 {A S:Type} {body:S->A->Option (Bool×S)}:∀{l:List A} {s H:S} {n:Nat} {b:Bool},zMI body s l=some (n,b,H)->
  ∀{k:Nat} {x:A},(l.take n)[k]? =some x->body (zO7 body k s l) x=some (goB (!b) (l.take n).length k,zO7 body (k+1) s l)
 | [],s,H,n,b,h,k,x,G=>by simp at G
 | y::xs,s,H,n,b,h,k,x,G=>by
  have T:=z0V h;simp only[zMI] at h;cases hb:body s y with
  | none=>rw[hb] at h;cases h
  | some p=>
   obtain⟨g,s2⟩:=p;rw[hb] at h;cases g with
   | false=>
    cases h;cases k with
    | zero=>
     simp only[List.take_succ_cons,iC,List.getElem?_cons_zero,fD] at G;subst G;simp only[zO7,hb];rfl
    | succ k=>simp at G
   | true=>
    simp only[fc,Prod.exists,iI] at h;obtain⟨m,b2,s3,D,rfl,rfl,rfl⟩:=h;rw[List.take_succ_cons] at G ⊢;cases k with
    | zero=>
     simp only[List.getElem?_cons_zero,fD] at G;subst G;have O:goB (!b2) ((y::xs.take m).length) 0=true:=by
      unfold goB;cases b2 with
      | true=>rfl
      | false=>
       have Y:xs.take m≠[]:=λe=>by
        cases xs with
        | nil=>simp only[zMI] at D;cases D
        | cons z zs=>
         have h2:=z0V D;cases m with
         | zero=>
          simp only[zMI] at D;cases K:body s2 z with
          | none=>rw[K] at D;cases D
          | some p=>
           obtain⟨g,s4⟩:=p;rw[K] at D;cases g with
           | false=>cases D
           | true=>
            simp only[fc,Prod.exists,iI] at D;obtain⟨_,_,_,_,e1,_⟩:=D;omega
         | succ m=>simp at e
       cases Z:xs.take m with
       | nil=>exact absurd Z Y
       | cons _ _=>rfl
     simp only[zO7,hb,O]
    | succ k=>
     simp only[List.getElem?_cons_succ] at G;have:=z37 D G;simp only[zO7,hb];rw[this];have:goB (!b2) (xs.take m).length k=goB (!b2) (y::xs.take m).length (k+1):=by
      unfold goB;rw[dO];congr 2
     rw[this]
theorem z9M {A S:Type} {body:S->A->Option (Bool×S)}:∀{l:List A} {s k:S} {n:Nat} {b:Bool},zMI body s l=some (n,b,k)->zO7 body n s l=k
 | [],s,k,n,b,h=>by cases h;rfl
 | y::xs,s,k,n,b,h=>by
  simp only[zMI] at h;cases hb:body s y with
  | none=>rw[hb] at h;cases h
  | some p=>
   obtain⟨g,G⟩:=p;rw[hb] at h;cases g with
   | false=>cases h;simp only[zO7,hb]
   | true=>
    simp only[fc,Prod.exists,iI] at h;obtain⟨m,b2,H,D,rfl,rfl,rfl⟩:=h;simp only[zO7,hb];exact z9M D
theorem yKE {A S:Type} {body:S->A->Option (Bool×S)} {l:List A} {s k:S} {n:Nat} (h:zMI body s l=some (n,false,k)):0<(l.take n).length:=by
 cases l with
 | nil=>cases h
 | cons y xs=>
  cases n with
  | zero=>
   simp only[zMI] at h;cases hb:body s y with
   | none=>rw[hb] at h;cases h
   | some p=>
    obtain⟨g,G⟩:=p;rw[hb] at h;cases g with
    | false=>cases h
    | true=>
     simp only[fc,Prod.exists,iI] at h;obtain⟨_,_,_,_,D,_⟩:=h;omega
  | succ n=>simp
theorem zZK {A S B:Type} {body:S->A->Option (Bool×S)} (f:A->B) {l:List A} {s G:S} {n:Nat} {b:Bool} (h:zMI body s l=some (n,b,G)) {k:Nat} {x:A} (D:(l.take n)[k]? =some x):
  body (zO7 body k s l) x=some (goB (!b) ((l.take n).map f).length k,zO7 body (k+1) s l):=by
 rw[e7];exact z37 h D
theorem z9N {A S B:Type} {body:S->A->Option (Bool×S)} {f:A->B} {l:List A} {s k:S} {n:Nat} {b:Bool} (h:zMI body s l=some (n,b,k)):zO7 body ((l.take n).map f).length s l=k:=by rw[e7,dZ,hF (z0V h)];exact z9M h
theorem yKF {A S B:Type} {body:S->A->Option (Bool×S)} {f:A->B} {l:List A} {s D:S} {n:Nat} (h:zMI body s l=some (n,false,D)):((l.take n).map f).isEmpty=false:=by
 have:=yKE h;cases k:l.take n with
 | nil=>rw[k] at this;simp at this
 | cons _ _=>rfl
end Go.M
namespace Go.AV
open Go.RowKit Go.M
theorem yRG {Sg:Type} {D:Exit} {n k:Nat} {s H:Sg} {Tf:Sg->List (Nat×Blk)} {S:AState} (h:some (true,s)=some (goF D n k,H)) (K:zPW S (Tf s)):z6P D n k (Tf H) .normal S:=by
 cases G:goF D n k with
 | false=>rw[G] at h;cases h
 | true=>
  rw[G] at h;cases h;unfold z6P;rw[G];exact K
theorem yTB {Sg:Type} {D:Exit} {n k:Nat} {s H:Sg} {Tf:Sg->List (Nat×Blk)} {S:AState} (h:some (false,s)=some (goF D n k,H)) (K:zPW S (Tf s)):z6P D n k (Tf H) D S:=by
 cases G:goF D n k with
 | true=>rw[G] at h;cases h
 | false=>
  rw[G] at h;cases h;unfold z6P;rw[G];exact⟨rfl,K⟩
theorem yTC {Sg:Type} {n k:Nat} {s D:Sg} (h:some (false,s)=some (goB (!true) n k,D)):False:=by cases h
end Go.AV
namespace Go.M
end Go.M
namespace Go.AV
open Go.RowKit Go.M
end Go.AV
namespace Go.M
open Go.AV
end Go.M
namespace Go.AV
open Go.M
theorem lr {a b:Nat} (h:Nat.blt a b=true:=by exact rfl):a<b:=lq h
section
variable {α:Type} {x y: α} {G:Prop}
theorem er (h:some x=some y) (k:x=y->G:=by intro e;cases e;refine yB ?_;exact zVV rfl):G:=k (oi h)
theorem es (h:some x=some y) (k:x=y->G:=by intro e;cases e;exact zVV rfl):G:=k (oi h)
theorem ex (h:some x=some y) (k:x=y->G:=by intro e;cases e;intro q;cases q;exact zR8 wc):G:=k (oi h)
theorem eo (h:some x=some y) (k:x=y->G:=by intro e;cases e;exact zR8 wc):G:=k (oi h)
theorem ew (h:some x=some y) (k:x=y->G:=by intro e;cases e;exact wc):G:=k (oi h)
theorem ep (h:some x=some y) (k:x=y->G:=by intro e;cases e;exact⟨rfl,wc⟩):G:=k (oi h)
end
end Go.AV
namespace Go.M
end Go.M
namespace Go.AV
open Go.RowKit Go.M
section
variable {P:Program} {r:Option Nat} {E:Env} {S:AState} {d:Nat} {ty:TypeId} {pos:String} {af:Array Edge} {g:Option (Nat×Bool)} {κ ν:Type} {kv: κ->Value} {ev:En ν} {m:List (κ×ν)} {t kt vt:TypeId} {x:Operand}
section
variable {X Y:Type} {bs: κ×ν->X->Option (Stp X Y)} {bn:X->Option (Stp X Y)} {ex:Y->Exit} {st:Y->AState} {T:List Nat->X->AState} {q:List Nat} {x:X} {s:Stp X Y} {c:Code} {ops:Array Oper} {l:List Oper}
theorem Sq.mono {J D:AState->Prop} (G:∀S,J S->D S):∀(l:List Oper) {S:AState},Sq P r E ops l S J->Sq P r E ops l S D
 | [],_,h=>G _ h
 | _::l,_,⟨S',h,k⟩=>⟨S',h,Sq.mono G l k⟩
end
end
end Go.AV
namespace Go.M
def z9O (l:List Int):Option (List Int):=if l.length<=LIM then some (l.mergeSort λx y=>decide (x<=y)) else none
end Go.M
namespace Go.AV
open Go.RowKit Go.M Go.Sort
section
variable {P:Program} {α:Type} [Inhabited α]
theorem zV4 {w:World} {g n off:Nat} {os:Array Obj} {h:Array Value} {e:TypeId} {k:Nat×Nat} (encV: α->Value) (d:Array α) (hb:w.heap[g]? =some (.cells h e k)):
  (grow (putRow encV (Sort.ahead w n) g off d) os).heap[g]? =some (.cells (putCells encV off d h) e k):=by
 have D:g<w.heap.size:=(cQ.1 hb).1;rw[heap_grow_old _ _ (by simpa using D)];simp[putRow,mapBlock,Sort.ahead,Array.getElem?_modify,hb,onCells]
theorem zJL {w:World} {g n off k:Nat} {os:Array Obj} (encV: α->Value) (d:Array α) (D:k<w.heap.size) (h:k≠g):
  (grow (putRow encV (Sort.ahead w n) g off d) os).heap[k]? =w.heap[k]?:=by
 rw[heap_grow_old _ _ (by simpa using D)];have:g≠k:=λe=>h e.symm;simp[putRow,mapBlock,Sort.ahead,Array.getElem?_modify,this]
theorem yKG {f:FuncId} {e:Nat} {en:En α} {encV: α->Value} (hv:∀x,en.dv x= .v (encV x)) (ak:en.size=1) (h1:∀x,(encV x).oneCell'=true) {l r:List α} (hl:r.length=l.length)
  (bl:∃fn,P.funcs[f]? =some fn/\(fn.name== "runtime.NumGoroutine")=false/\fn.body.isNone=false)
  (aw:l= []->∀(A:Option Addr) (c:Nat) (w:World),Calls P f #[.slice A 0 c] w λen w'=>en= .returned (.tuple #[])/\w'=w)
  (ad:∀(blk off bd:Nat) (w:World),Sort.Holds encV w blk off l.toArray->blk<w.heap.size->Calls P f #[.slice (some ⟨blk,off,none⟩) l.length bd] w λen w'=>
   en= .returned (.tuple #[])/\∃n os,w'=grow (putRow encV (Sort.ahead w n) blk off r.toArray) os):
  GC P f [.row 0] [(0,.win e en.size 0 (en.all l))] [0] [] [(0,.win e en.size 0 (en.all r))]:=by
 have K:∀m:List α,en.all m=m.map λx=>DV.v (encV x):=λm=>by
  have:en.cells=λx=>[DV.v (encV x)]:=by funext x;simp[En.cells,hv,vG]
  simp only[En.all,this]
  induction m with
  | nil=>rfl
  | cons x m ih=>simp[ih]
 refine⟨bl,λw I ρ vs hI hG O ax=>?_⟩;have aq:=ax.1
 match vs,aq with
 | [v0],_=>
  have bt:v0= ρ 0:=ax.2 0 v0 (.row 0) rfl rfl;subst bt;have hk:=O.ok 0;have au:look Blk.none [(0,Blk.win e en.size 0 (en.all l))] 0= .win e en.size 0 (en.all l):=rfl;rw[au] at hk;obtain⟨A,n,c,xs,T,br,hp,Z,hr,ck,hA⟩:=hk;have hn:n=l.length:=by rw[jI] at Z;exact(Nat.eq_of_mul_eq_mul_right hp Z).symm
  subst hn;have bu:xs=l.map encV:=by
   have ci:xs.length=l.length:=by have:=hr.1;rw[K] at this;simpa using this
   apply fV;intro j;by_cases hj:j<xs.length
   ·have ay:xs[j]? =some xs[j]:=cO hj
    have ar:l[j]? =some (l[j]'(by omega)):=cO (by omega);have:=hr.2 j xs[j] (.v (encV (l[j]'(by omega)))) ay (by rw[K];simp[ar])
    rw[ay,dX,ar,zPK this];rfl
   ·rw[fG (by omega),fG (by simp;omega)]
  have own:∀b,xM [(0,Blk.win e en.size 0 (en.all l))] ρ b↔blockOf (ρ 0)=some b:=by
   intro b;constructor
   ·rintro⟨id,G,hb⟩
    by_cases H:0=id
    ·subst H;exact hb
    ·exact absurd (by rw[kK];simp[H,look]) G
   ·intro hb;exact⟨0,by rw[au];simp,hb⟩
  have ab:∀b (al:Nat->Value),xM [(0,Blk.win e en.size 0 (en.all r))] al b->blockOf (al 0)=some b:=by
   rintro b al ⟨id,G,hb⟩
   by_cases H:0=id
   ·subst H;exact hb
   ·exact absurd (by rw[kK];simp[H,look]) G
  rcases hA with ⟨rfl,bp⟩ | ⟨b,off,arr,rfl,_,hh,an,hc,ac⟩
  ·have ah:l= []:=cP bp
   have ai:r= []:=cP (by omega);subst ah;subst ai;have Z:=aw rfl none c w;rw[T];refine Z.mono ?_
   rintro be w' ⟨rfl,rfl⟩
   exact⟨_,I,ρ,rfl,Chg.refl _ _,k7 _ _,λ_ _ h=>h,λb j hi=>⟨hI b j hi,.inl hi⟩,O,⟨[],rfl,Pw.nil⟩,λb hb=>by have:=ab b ρ hb;rw[T] at this;simp[blockOf] at this,λ_ _ _=>rfl⟩
  ·have hb:b<w.heap.size:=(cQ.1 hh).1
   rw[ak,gI] at an ac;have hH:Sort.Holds encV w b off l.toArray:=by
    intro j hj;have ao:j<l.length:=by simpa using hj
    refine⟨?_,by simp[World.frozen?,hh]⟩;rw[fb w b (off+j) arr e (0,0) hh];have:=hc j (encV (l[j])) (by rw[bu,dX,cO ao];rfl)
    rw[this];congr 2;simp[ao]
   rw[T];refine(ad b off c w hH hb).mono ?_
   rintro be w' ⟨rfl,q,os,rfl⟩
   have aj:Same I w (grow (putRow encV (Sort.ahead w q) b off r.toArray) os):=by
    intro Y j hi;by_cases e':Y=b
    ·subst e'
     have bw:j<off\/off+l.length<=j:=by
      rcases fK j off with h | h
      ·exact .inl h
      ·rcases fK j (off+l.length) with h2 | h2
       ·have:=ac j h h2 hi;omega
       ·exact .inr h2
     refine KeepB.ofCell hh ?_;rw[fb _ Y j _ e (0,0) (zV4 encV r.toArray hh),fb w Y j arr e (0,0) hh];simp only[putCells,iF,fW,hl];have:¬(off<=j/\j<off+l.length):=by omega
     simp[this]
    ·exact KeepB.of (zJL encV _ (hI Y j hi) e')
   have am:blockOf (ρ 0)=some b:=by rw[T];rfl
   refine⟨_,I,ρ,rfl,⟨rfl,rfl,rfl,by simp,λk hk G=>zJL encV _ hk (λe'=>G (by rw[own,am,e']))⟩,aj,λ_ _ h=>h,λY j hi=>⟨by have:=hI Y j hi;simp;omega,.inl hi⟩,⟨λid=>?_,λid az Y G bg bh=>?_⟩,⟨[],rfl,Pw.nil⟩,λY bj=>?_,λ_ _ _=>rfl⟩
   ·by_cases H:0=id
    ·subst H
     show BlkOk _ I ρ _ 0 (.win e en.size 0 (en.all r));refine⟨_,l.length,c,r.map encV,T,br,hp,by rw[jI,hl],?_,by simpa using λx _=>h1 x,.inr ⟨b,off,putCells encV off r.toArray arr,rfl,trivial,zV4 encV _ hh,?_,λj x hj=>?_,λj bn bo hi=>by rw[ak,gI] at bo;have:=ac j bn (by omega) hi;omega⟩⟩
     ·rw[K]
      refine⟨by simp,λj x d hx hd=>?_⟩;rw[dX] at hx hd;cases D:r[j]? with
      | none=>simp[D] at hx
      | some y=>simp[D] at hx hd;subst hx;subst hd;exact .v _
     ·rw[ak];simp[putCells];omega
     ·rw[dX] at hj
      cases D:r[j]? with
      | none=>simp[D] at hj
      | some y=>
       simp[D] at hj;subst hj;have ap:j<r.length:=(cX.1 D).1;simp only[putCells,iF,fW];have bq:off+j<arr.size:=by omega
       rw[fO bq];have bm:off<=off+j/\off+j<off+r.length:=by omega
       simp only[eZ,bm,iz,dG];have e3:off+j-off=j:=by omega
       rw[e3];congr 2;have:r[j]? =some r[j]:=cO ap;rw[this] at D;cases D;simp[ap]
    ·have:look Blk.none [(0,Blk.win e en.size 0 (en.all r))] id= .none:=by rw[kK];simp[H,look]
     rw[this];trivial
   ·exfalso
    by_cases H:0=id
    ·have:look Blk.none [(0,Blk.win e en.size 0 (en.all r))] az= .none:=by rw[kK];simp[show ¬0=az from λe1=>G (H.symm.trans e1),look]
     exact bh this
    ·have:look Blk.none [(0,Blk.win e en.size 0 (en.all r))] id= .none:=by rw[kK];simp[H,look]
     exact bg this
   ·have h2:=ab Y ρ bj
    refine⟨?_,.inr ((own Y).2 h2)⟩;rw[am] at h2;cases h2;simp;omega
end
open Go.RowKit Go.M
end Go.AV
namespace Go
section
variable {F:Fence} {n:Nat} {P:Program} {b:Frame} {a:Act} {k:List Item} {cs:List Frame} {w:World} {Q:Exit->Act->World->Prop}
theorem zFP {c:Code}:step P (lone (b.atR a (.code (.scope c)::k)) cs w)= .next (lone (b.atR a (.code c:: .inScope c::k)) cs w):=
 step_lone_go (by simp[stepG,stepG.exec,Frame.atR])
theorem zXM {c:Code}:step P (lone (b.atR a (.inScope c::k)) cs w)= .next (lone (b.atR a k) cs w):=
 step_lone_go (by simp[stepG,stepG.exec,Frame.atR])
def yTD (Q:Exit->Act->World->Prop):Exit->Act->World->Prop
 | .goto _,_,_=>False
 | e,a,w=>Q e a w
theorem z7A {c:Code} (h:c.wpIn F n P (yTD Q) a w):(Code.scope c).wpIn F n P Q a w:=by
 intro b k cs ac hb hr;have O:(lone (b.atR a (.code (.scope c)::k)) cs w).fenced P F:=fenced_calm hb hr rfl;obtain⟨e,G,H,T,D⟩:=h b (.inScope c::k) cs ac hb hr;cases e with
 | normal=>exact⟨.normal,G,H,T,.head O zFP (StepsIn.trans D (.one (fenced_calm hb hr rfl) zXM))⟩
 | exit K=>
  have hx:exitTo K (.inScope c::k)=exitTo K k:=by simp[exitTo]
  exact⟨.exit K,G,H,T,λk' Z=> .head O zFP (D.1 k' (by rw[hx];exact Z)),
   λab Z=>let ⟨Y,h1,h2⟩:=D.2 ab (by rw[hx];exact Z);⟨Y,h1,.head O zFP h2⟩⟩
 | goto l=>exact T.elim
 | ret=>exact⟨_,G,H,T,.of_steps (.one O zFP) D⟩
 | panic ch=>exact⟨_,G,H,T,.of_steps (.one O zFP) D⟩
 | outgrown=>exact⟨_,G,H,T,.of_steps (.one O zFP) D⟩
end
end Go
namespace Go.AV
section
variable {P:Program} {r:Option Nat} {E:Env} {S:AState} {K:Exit->AState->Prop}
def yOW (K:Exit->AState->Prop):Exit->AState->Prop
 | .goto _,_=>False
 | e,S=>K e S
theorem yCL {c:Code} (h:Avc P r E c (yOW K) S):Avc P r E (.scope c) K S:=λa w G=>
 z7A (g7 (h a w G) λe H w' ⟨S',D,k⟩=>by
  cases e with
  | goto l=>exact D
  | _=>exact⟨S',D,k⟩)
theorem yCM {l:Nat} (h:K .normal S):Avc P r E (.label l) K S:=λ_ _ k=>wpIn_label ⟨S,h,k⟩
end
end Go.AV
namespace Go.M
def zV5 {h:Type} (mk:Int->Int->h):List Int->List h
 | []=>[]
 | x::l=>l.map (mk x)
theorem z38 (l:List Int):(Lib.compact l++List.replicate (l.length-(Lib.compact l).length) 0).length=l.length:=by
 have:(Lib.compact l).length<=l.length:=by
  unfold Lib.compact Lib.compactUpTo;rw[e7];exact d8 (hU ..) (by simp)
 rw[cU,List.length_replicate];omega
def z9P (l:List Int):Option (List Int):=if l.length<=LIM then some (Lib.compact l) else none
end Go.M
namespace Go.AV
open Go.RowKit Go.M Go.Sort
section
variable {P:Program} {α:Type} [Inhabited α]
theorem z39 (w:World):grow w #[]=w:=by simp[grow]
theorem z7B {f:FuncId} {e:Nat} {en:En α} {encV: α->Value} (hv:∀x,en.dv x= .v (encV x)) (bt:en.size=1) (h1:∀x,(encV x).oneCell'=true) {l c pad:List α} (hl:(c++pad).length=l.length)
  (bn:∃fn,P.funcs[f]? =some fn/\(fn.name== "runtime.NumGoroutine")=false/\fn.body.isNone=false)
  (az:l= []->∀(A:Option Addr) (k:Nat) (w:World),Calls P f #[.slice A 0 k] w λen w'=>en= .returned (.slice A 0 k)/\w'=w)
  (ac:∀(blk off ab:Nat) (w:World),Sort.Holds encV w blk off l.toArray->l.length<=ab->Calls P f #[.slice (some ⟨blk,off,none⟩) l.length ab] w λen w'=>
   en= .returned (.slice (some ⟨blk,off,none⟩) c.length ab)/\∃q,w'=putRow encV (Sort.ahead w q) blk off (c++pad).toArray):
  GC P f [.row 0] [(0,.win e en.size 0 (en.all l))] [] [.d (zH en c)] []:=by
 have H:∀m:List α,en.all m=m.map λx=>DV.v (encV x):=λm=>by
  have:en.cells=λx=>[DV.v (encV x)]:=by funext x;simp[En.cells,hv,vG]
  simp only[En.all,this]
  induction m with
  | nil=>rfl
  | cons x m ih=>simp[ih]
 refine⟨bn,λw I ρ vs hI hG ah bb=>?_⟩;have aw:=bb.1
 match vs,aw with
 | [v0],_=>
  have bu:v0= ρ 0:=bb.2 0 v0 (.row 0) rfl rfl;subst bu;have hk:=ah.ok 0;have ay:look Blk.none [(0,Blk.win e en.size 0 (en.all l))] 0= .win e en.size 0 (en.all l):=rfl;rw[ay] at hk;obtain⟨A,n,cp,xs,ak,br,hp,ad,hr,ck,hA⟩:=hk;have hn:n=l.length:=by rw[jI] at ad;exact(Nat.eq_of_mul_eq_mul_right hp ad).symm
  subst hn;have bv:xs=l.map encV:=by
   have ci:xs.length=l.length:=by have:=hr.1;rw[H] at this;simpa using this
   apply fV;intro j;by_cases hj:j<xs.length
   ·have bc:xs[j]? =some xs[j]:=cO hj
    have ax:l[j]? =some (l[j]'(by omega)):=cO (by omega);have:=hr.2 j xs[j] (.v (encV (l[j]'(by omega)))) bc (by rw[H];simp[ax])
    rw[bc,dX,ax,zPK this];rfl
   ·rw[fG (by omega),fG (by simp;omega)]
  have own:∀b,blockOf (ρ 0)=some b->xM [(0,Blk.win e en.size 0 (en.all l))] ρ b:=λb hb=>⟨0,by rw[ay];simp,hb⟩
  have Z:∀b (bd:Nat->Value),¬xM [] bd b:=by rintro b bd ⟨id,T,_⟩;exact T rfl
  have an:∀(w:World) (I:Im) (ρ:Nat->Value),Frag w I ρ []:=λw I ρ=>⟨λ_=>trivial,λid _ _ _ h=>absurd rfl h⟩;rcases hA with ⟨rfl,bp⟩ | ⟨b,off,arr,rfl,_,hh,aq,hc,ao⟩
  ·have ai:l= []:=cP bp
   have ag:c= []:=cP (by rw[cU] at hl;omega)
   subst ai;subst ag;rw[ak];refine(az rfl none cp w).mono ?_
   rintro bj w' ⟨rfl,rfl⟩
   exact⟨_,I,ρ,rfl,Chg.refl _ _,k7 _ _,λ_ _ h=>h,λb j hi=>⟨hI b j hi,.inl hi⟩,an _ _ _,.nil _ _ _,λb hb=>absurd hb (Z b ρ),λ_ h=>by cases h⟩
  ·have hb:b<w.heap.size:=(cQ.1 hh).1
   rw[bt,gI] at aq ao;have hH:Sort.Holds encV w b off l.toArray:=by
    intro j hj;have ar:j<l.length:=by simpa using hj
    refine⟨?_,by simp[World.frozen?,hh]⟩;rw[fb w b (off+j) arr e (0,0) hh];have:=hc j (encV (l[j])) (by rw[bv,dX,cO ar];rfl)
    rw[this];congr 2;simp[ar]
   have ap:blockOf (ρ 0)=some b:=by rw[ak];rfl
   rw[ak];refine(ac b off cp w hH br).mono ?_
   rintro bj w' ⟨rfl,q,rfl⟩
   have K:∀k,k<w.heap.size->k≠b->(putRow encV (Sort.ahead w q) b off (c++pad).toArray).heap[k]? =w.heap[k]?:=λk hk T=>by
    have:=zJL (os:= #[]) (n:=q) (off:=off) encV (c++pad).toArray hk T
    rwa [z39] at this
   have Y:(putRow encV (Sort.ahead w q) b off (c++pad).toArray).heap[b]? =some (.cells (putCells encV off (c++pad).toArray arr) e (0,0)):=by
    have:=zV4 (os:= #[]) (n:=q) (off:=off) encV (c++pad).toArray hh
    rwa [z39] at this
   have G:(putRow encV (Sort.ahead w q) b off (c++pad).toArray).heap.size=w.heap.size:=by simp[putRow,mapBlock,Sort.ahead]
   have aj:Same I w (putRow encV (Sort.ahead w q) b off (c++pad).toArray):=by
    intro O j hi;by_cases e':O=b
    ·subst e'
     have bw:j<off\/off+l.length<=j:=by
      rcases fK j off with h | h
      ·exact .inl h
      ·rcases fK j (off+l.length) with h2 | h2
       ·have:=ao j h h2 hi;omega
       ·exact .inr h2
     refine KeepB.ofCell hh ?_;rw[fb _ O j _ e (0,0) Y,fb w O j arr e (0,0) hh];simp only[putCells,iF,fW,hl];have:¬(off<=j/\j<off+l.length):=by omega
     simp[this]
    ·exact KeepB.of (K O (hI O j hi) e')
   have ad:c.length<=l.length:=by rw[cU] at hl;omega
   refine⟨_,λO j=>I O j\/(O=b/\off<=j/\j<off+c.length),ρ,rfl,⟨rfl,rfl,rfl,by rw[G];exact dA _,λk hk T=>K k hk (λe'=>T (own k (by rw[ap,e'])))⟩,aj,λ_ _ h=> .inl h,λO j hi=>?_,an _ _ _,?_,λO bm=>absurd bm (Z O ρ),λ_ h=>by cases h⟩
   ·rcases hi with hi | ⟨rfl,_,_⟩
    ·exact⟨by rw[G];exact hI O j hi,.inl hi⟩
    ·exact⟨by rw[G];exact hb,.inr (.inr (own _ ap))⟩
   ·by_cases hz:c= []
    ·subst hz;exact .nil _ _ _
    have ba:0<c.length:=e9.2 hz;refine .sl b off c.length cp en.size (c.map encV) (en.all c) ba (by omega) (by rw[jI]) (by rw[H];simp) (λj x hj=>?_) (by simpa using λx _=>h1 x) (λj x d hx hd=>?_)
    ·rw[dX] at hj
     cases D:c[j]? with
     | none=>simp[D] at hj
     | some y=>
      simp[D] at hj;subst hj;have au:j<c.length:=(cX.1 D).1;refine⟨?_,.inr ⟨rfl,by omega,by omega⟩⟩;rw[fb _ b (off+j) _ e (0,0) Y];simp only[putCells,iF,fW];have bq:off+j<arr.size:=by omega
      rw[fO bq];have bo:off<=off+j/\off+j<off+(c++pad).length:=by rw[hl];omega
      simp only[eZ,bo,iz,dG];have e3:off+j-off=j:=by omega
      rw[e3];congr 2;have:c[j]? =some c[j]:=cO au;rw[this] at D;cases D;simp only[List.getElem!_toArray,List.getElem!_eq_getElem?_getD,dY au,this,gD]
    ·rw[H] at hd
     rw[dX] at hx hd;cases D:c[j]? with
     | none=>simp[D] at hx
     | some y=>simp[D] at hx hd;subst hx;subst hd;exact .v _
end
open Go.RowKit Go.M
end Go.AV
namespace Go.M
end Go.M
namespace Go.AV
open Go.RowKit Go.M
open Go.RowKit Go.Proofs Go.M
open Go.RowKit Go.M
def MapI {k:Type} (kv: k->Value) (w:World) (b:Nat) (mp:List (k×Int)):Prop:=
 ∃ents h,w.heap[b]? =some (.map ents h)/\Pw (λ(x:MapEntry) (p: k×Int)=>x.key=kv p.1/\x.val= .int .i64 p.2) ents.toList mp
theorem MapI.keep {D:Type} {kv: D->Value} {w w':World} {b:Nat} {mp:List (D×Int)} (h:MapI kv w b mp) (hb:w'.heap[b]? =w.heap[b]?):MapI kv w' b mp:=
 let ⟨ents,k,G,H⟩:=h
 ⟨ents,k,hb.trans G,H⟩
theorem MapI.lt {k:Type} {kv: k->Value} {w:World} {b:Nat} {mp:List (k×Int)} (h:MapI kv w b mp):b<w.heap.size:=
 let ⟨_,_,D,_⟩:=h
 (cQ.1 D).1
theorem z7C {w:World} {B O e K s s' n m:Nat} {v u:Value} {xs ys:List Value} (h:w.ownsRow B e s v n xs) (k:w.ownsRow O K s' u m ys) (Z:e≠K):v.ownBlock=none\/v.ownBlock≠u.ownBlock:=by rcases h.2 with ⟨rfl,_⟩ | ⟨g,T,Y,rfl,_,hh,_⟩;exact .inl rfl;refine .inr λhb=>?_;rcases k.2 with ⟨rfl,_⟩ | ⟨g',G,H,rfl,_,D,_⟩;cases hb;cases hb;rw[hh] at D;cases D;exact Z rfl
theorem z9Q {H:Type} {kv: H->Value} {w:World} {B e s n b:Nat} {v:Value} {xs:List Value} {mp:List (H×Int)} (h:w.ownsRow B e s v n xs) (k:MapI kv w b mp):v.ownBlock≠some b:=by
 intro hb;obtain⟨ents,D,G,_⟩:=k;rcases h.2 with ⟨rfl,_⟩ | ⟨g,K,O,rfl,_,T,_⟩
 cases hb;cases hb;rw[T] at G;cases G
structure GIx (w:World) (B ts ti:Nat) (tA:Value) (vs:List Value) (gs:List (List Int)):Prop where
 row:w.ownsRow B ts 1 tA vs.length vs
 rows:Pw (λv (g:List Int)=>w.ownsRow B ti 1 v g.length (g.map (Value.int .i64))) vs gs
 dist:∀(i j:Nat) (v u:Value) (b:Nat),i≠j->vs[i]? =some v->vs[j]? =some u->v.ownBlock=some b->u.ownBlock≠some b
section
variable {w w':World} {B ts ti:Nat} {tA:Value} {vs:List Value} {gs:List (List Int)}
theorem GIx.nil (w:World) (B ts ti:Nat):GIx w B ts ti (.slice none 0 0) [] []:=⟨ia _ _ _ _,Pw.nil,λi j v u b _ h=>by simp at h⟩
theorem GIx.keep (h:GIx w B ts ti tA vs gs) {row:Option Nat} (k:w.grownBy w' row) (G:tA.ownBlock=none\/tA.ownBlock≠row) (H:∀v∈vs,v.ownBlock=none\/v.ownBlock≠row):GIx w' B ts ti tA vs gs:=
 ⟨h.row.kept k G,⟨h.rows.1,λj x y D K=>(h.rows.2 j x y D K).kept k (H x (eN D))⟩,h.dist⟩
theorem GIx.inner (h:GIx w B ts ti tA vs gs) {v:Value} (G:v∈vs):∃g,w.ownsRow B ti 1 v g.length (List.map (Value.int .i64) g):=by obtain⟨j,D,rfl⟩:=List.mem_iff_getElem.1 G;have k:j<gs.length:=h.rows.1▸D;exact⟨gs[j],h.rows.2 j _ _ (cO D) (cO k)⟩
theorem GIx.map {D:Type} {kv: D->Value} {b:Nat} {mp:List (D×Int)} (h:GIx w B ts ti tA vs gs) (k:MapI kv w b mp) (G:w.grownBy w' (some b)):GIx w' B ts ti tA vs gs:=
 h.keep G (.inr (z9Q h.row k)) λv H=> .inr (let ⟨_,q⟩:=h.inner H;z9Q q k)
theorem GIx.push (h:GIx w B ts ti tA vs gs) (K:ts≠ti) {k:Value} (Y:w.grownBy w' tA.ownBlock) (Z:w'.ownsRow B ts 1 k (vs.length+1) (vs++ [.slice none 0 0])):GIx w' B ts ti k (vs++ [.slice none 0 0]) (gs++ [[]]):=by
 refine⟨by simpa using Z,Pw.append ⟨h.rows.1,λj x y O T=>(h.rows.2 j x y O T).kept Y ?_⟩ (Pw.cons (ia _ _ _ _) Pw.nil),?_⟩
 ·rcases z7C (h.rows.2 j x y O T) h.row (Ne.symm K) with q | q
  ·exact .inl q
  ·exact .inr q
 ·intro i j v u b H G D hb
  rw[List.getElem?_append] at G D;split at G
  ·split at D
   ·exact h.dist i j v u b H G D hb
   ·have:u= .slice none 0 0:=by
     have:=eN D;simpa using this
    subst this;intro e;cases e
  ·have:v= .slice none 0 0:=by
    have:=eN G;simpa using this
   subst this;cases hb
theorem GIx.put (h:GIx w B ts ti tA vs gs) (T:ts≠ti) {w1 w2:World} {k:Nat} {v Z:Value} {g:List Int} {x:Int} (K:vs[k]? =some v) (O:gs[k]? =some g)
  (hg:w.grownBy w1 v.ownBlock) (hr:w1.ownsRow B ti 1 Z (g.length+1) (g.map (Value.int .i64)++ [.int .i64 x])) (hl:Z.ownBlock=v.ownBlock\/Z.ownBlock=some w.heap.size)
  (ag:w1.grownBy w2 tA.ownBlock) (ah:w2.ownsRow B ts 1 tA vs.length (vs.set k Z)):GIx w2 B ts ti tA (vs.set k Z) (gs.set k (g++ [x])):=by
 have ad:w1.ownsRow B ts 1 tA vs.length vs:=h.row.kept hg (z7C h.row (h.rows.2 k v g K O) T);have k2:∀{u:Value} {m:Nat} {ys:List Value},w1.ownsRow B ti 1 u m ys->w2.ownsRow B ti 1 u m ys:=λq=>q.kept ag (z7C q ad (Ne.symm T));refine⟨by simpa using ah,⟨by simp[h.rows.1],λj u y D Y=>?_⟩,?_⟩
 ·rw[iB] at D Y
  by_cases e:k=j
  ·subst e
   have l1:=(cX.1 K).1;have l2:=(cX.1 O).1;simp[l1] at D;simp[l2] at Y;subst D;subst Y;have:=k2 hr;simpa using this
  ·simp only[e,cV] at D Y
   refine k2 ((h.rows.2 j u y D Y).kept hg ?_);cases hb:u.ownBlock with
   | none=>exact .inl rfl
   | some b=>exact .inr λe2=>h.dist j k u v b (Ne.symm e) D K hb e2.symm
 ·have lt:∀(i:Nat) (u:Value) (b:Nat),vs[i]? =some u->u.ownBlock=some b->b<w.heap.size:=λi u b D hb=>by
   obtain⟨_,q⟩:=h.inner (eN D);exact(q.lt b hb).2
  intro i j p u b G H D hb;rw[iB] at H D;have l1:=(cX.1 K).1;by_cases e:k=i
  ·subst e
   simp[l1] at H;subst H;simp only[G,cV] at D;rcases hl with hl | hl
   ·exact h.dist k j v u b G K D (hl▸hb)
   ·intro e3
    have:=lt j u b D e3;rw[hl] at hb;cases hb;omega
  ·simp only[e,cV] at H
   by_cases e2:k=j
   ·subst e2
    simp[l1] at D;subst D;rcases hl with hl | hl
    ·rw[hl]
     exact h.dist i k p v b G H K hb
    ·rw[hl]
     intro e3;cases e3;have:=lt i p _ H hb;omega
   ·simp only[e2,cV] at D
    exact h.dist i j p u b G H D hb
end
def yKH (s:List (Str×Int)×List (List Int)) (key:Str) (i:Nat):List (Str×Int)×List (List Int):=
 match mget s.1 key with
 | some g=>(s.1,s.2.set g.toNat (s.2.getD g.toNat []++ [(i:Int)]))
 | none=>(wX s.1 key (s.2.length:Int),s.2++ [[(i:Int)]])
def yRH (h:List Str):Nat->List (Str×Int)×List (List Int)
 | 0=>([],[])
 | k+1=>yKH (yRH h k) (h.getD k []) k
def yTE (l:List Int):Bool:=decide (1<l.length)
def grpE (h:List Str):List (List Int):=(yRH h h.length).2.filter yTE
structure GOk (s:List (Str×Int)×List (List Int)) (k:Nat):Prop where
 val:∀p∈s.1,0<=p.2/\p.2.toNat<s.2.length
 len:s.2.length<=k
 each:∀g∈s.2,g.length<=k
open Go.RowKit Go.M
def yRI {h:Type} (e:En h):Option h->DV
 | none=> .v (.pointer none)
 | some x=> .pt (e.cells x)
theorem yFW {h:Type} (e:En h) (o:Option h):(AV.d (yRI e o)).one=true:=by cases o<;>rfl
theorem oN {D k:Type} {a:Option k} {f: D->Option k} {r: k} (h:Option.elim (none:Option D) a f=some r):a=some r:=h
theorem oS {D k:Type} {x: D} {a:Option k} {f: D->Option k} {r: k} (h:Option.elim (some x) a f=some r):f x=some r:=h
theorem z4A {w:World} {B e s n:Nat} {v:Value} {xs:List Value} (h:w.ownsRow B e s v n xs):blockOf v=v.ownBlock:=by rcases h.2 with ⟨rfl,_⟩ | ⟨g,k,D,rfl,_⟩<;>rfl
theorem yOX {P:Program} {f:FuncId} {args:List Cap} {e size:Nat} (hp:0<size) (ah:∃fn,P.funcs[f]? =some fn/\(fn.name== "runtime.NumGoroutine")=false/\fn.body.isNone=false)
  (G:∀(w:World) (I:Im) (ρ:Nat->Value) (vs:List Value),Pw (HoldsC w I ρ) vs args->Calls P f vs.toArray w λen w'=> ∃v,en= .returned v/\w'.ownsRow w.heap.size e size v 0 []/\Below w.heap.size w w'):
  GC P f args [] [] [.row 0] [(0,.row e size false [])]:=by
 refine⟨ah,λw I ρ vs hI hG ai aj=>?_⟩;refine(G w I ρ vs aj).mono ?_
 rintro en w' ⟨v,rfl,D,hb⟩
 have H:∀id,id≠0->look Blk.none [(0,Blk.row e size false [])] id= .none:=λid h=>by
  rw[kK,dK (Ne.symm h)];rfl
 have h0:look Blk.none [(0,Blk.row e size false [])] 0= .row e size false []:=rfl;refine⟨v,I,λ_=>v,rfl,⟨hb.os,hb.tape,hb.output,hb.size,λk hk _=>hb.block k hk⟩,λb j hi=>KeepB.of (hb.block b (hI b j hi)),λ_ _ h=>h,λb j hi=>⟨eU (hI b j hi) hb.size,.inl hi⟩,⟨λid=>?_,λid Y b T Z K _ _=>?_⟩,rfl,λb ag=>?_,λid h _=>by cases h⟩
 ·by_cases O:id=0
  ·subst O
   rw[h0];refine⟨⟨hp,λ_ _=>trivial⟩,0,[],by simp,⟨D.1,?_⟩,(λx hx=>by cases hx),Pw.nil,λg j hg hi=>?_⟩
   ·rcases D.2 with h | ⟨g,aa,ab,Z,K,h3⟩
    ·exact .inl h
    ·exact .inr ⟨g,aa,ab,Z,gH _,h3⟩
   ·have:=(D.lt g hg).1
    have:=hI g j hi;omega
  ·rw[H id O]
   trivial
 ·have e1:id=0:=Classical.byContradiction λq=>Z (H id q)
  have e2:Y=0:=Classical.byContradiction λq=>K (H Y q);exact absurd (e1.trans e2.symm) T
 ·obtain⟨id,Z,K⟩:=ag
  rw[z4A D] at K;have:=D.lt b K;exact⟨this.2,.inl this.1⟩
theorem yKI {P:Program} {f:FuncId} {e size bytes:Nat} {z:Value} {i0:TypeInfo} {n:Nat} (hz:z.cells.size=size) (hi:i0.size=size) (H:i0.bytes=bytes) (Z:0<size) (K:∃G,P.funcs[f]? =some G/\(G.name== "runtime.NumGoroutine")=false/\G.body.isNone=false)
  (Y:n*bytes<=140737488355328) (O:n<=4611686018427387904)
  (k:∀(w:World),Calls P f #[.slice none 0 0,.int .i64 ((0:Nat):Int)] w λe w'=>e= .returned (.slice none 0 0)/\w'=w)
  (h:∀(w:World),0<0+n->(0+n)*i0.bytes<=140737488355328->0+n<=4611686018427387904->Calls P f #[.slice none 0 0,.int .i64 (n:Int)] w λen w'=>
   en= .returned (.slice (some ⟨w.heap.size,0,none⟩) 0 (grownCap w (0+n) 0 e))/\
   w'=w.drew.alloc (.cells (([]:List Value).toArray++Builtin.zeroCells z.cells (0+n-0)++Builtin.zeroCells z.cells (grownCap w (0+n) 0 e-(0+n))) e)):
  GC P f [.d (.v (.slice none 0 0)),.d (di (n:Int))] [] [] [.row 0] [(0,.row e size false [])]:=by
 refine yOX Z K λw I ρ vs D=>?_;obtain⟨u,v,rfl⟩:∃u v,vs= [u,v]:=by
  have:=D.1
  match vs,this with
  | [u,v],_=>exact⟨u,v,rfl⟩
 have hu:Rep w I u (.v (.slice none 0 0)):=D.2 0 u _ rfl rfl;have hv:Rep w I v (.v (.int .i64 (n:Int))):=D.2 1 v _ rfl rfl;cases hu;cases hv;rcases Nat.eq_zero_or_pos n with rfl | hpos
 ·refine(k w).mono ?_
  rintro en w' ⟨rfl,rfl⟩
  exact⟨_,rfl,ia _ _ _ _,Below.refl _ _⟩
 ·refine(h w (by omega) (by rw[H,eE];exact Y) (by omega)).mono ?_
  rintro en w' ⟨rfl,rfl⟩
  have hg:=grownCap_ge w (0+n) 0 e;have T:=grownCap_le_maxLen w (0+n) 0 e (by unfold maxLen;omega)
  refine⟨_,rfl,⟨by simp,.inr ⟨w.heap.size,_,_,rfl,dA _,gV w.drew _,gH _,T,?_,by simp⟩⟩,(Below.refl _ _).drew.alloc (dA _) _⟩;rw[Array.size_append,Array.size_append,size_zeroCells,size_zeroCells,hz];have:grownCap w (0+n) 0 e*size=n*size+(grownCap w (0+n) 0 e-(0+n))*size:=by rw[<-eG];congr 1;omega
  rw[this];simp
def z4B (n:Int):Option Unit:=if 0<=n/\n<=1000000 then some () else none
end Go.AV


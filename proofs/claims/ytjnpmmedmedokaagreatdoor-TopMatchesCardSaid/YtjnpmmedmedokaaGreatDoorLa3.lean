/- The layer of abstract values: what a temporary holds, said once; every rule of it is proved from the model. Conditions: none. -/
import Derived.Test.YtjnpmmedmedokaaGreatDoorLa2
import Derived.Maps.RangeRun
import Derived.Sort.Grow
import Derived.Sort.EncStr
import Derived.Lib.SlicesCompact
import Derived.Lib.ItoaLen
set_option linter.unusedSimpArgs false
set_option linter.unusedVariables false
set_option linter.unnecessarySimpa false
namespace Go.AV
open Go.RowKit Go.M
section
variable {P:Program} {r:Option Nat} {E:Env} {S:AState} {d:Nat} {ty:TypeId} {pos:String} {af:Array Edge} {g:Option (Nat×Bool)}
theorem zY6 {t e:TypeId} {n es id:Nat} {zs:List Value} {x:Operand} {z:IntKind} (k:Nat) (H:d<E.n) (G:ArTy P t n es e zs) (hx:S.ev x= .ptr id 0) (hk:k<n):
  AOp P r E S ⟨some d,.slice t x (some (.const (.int z k))) none none,ty,pos,af,g⟩ d (.rs id (k*es) (n-k)):=
 ⟨rfl,H,λS' T=>zQ rfl H (by simp) λA w I ρ C Z=>by
  have h:=Z.ev x;rw[(T.ev (x:=x) (by simp[Op.operands])).trans hx] at h;obtain⟨b,K,O⟩:=h;refine⟨_,?_,some ⟨b,k*es,none⟩,n-k,rfl,dF _,λ_=>⟨b,K,rfl⟩⟩;have D:n≠k:=by omega
  have hb:(Instr.sliceBounds false n n (some (.int z k)) none none).run P w= .ok (k,n,n) w:=by
   simp[Instr.sliceBounds,xF (P:=P) w z k n _ (by omega)]
  have Y:A.eval (.const (.int z k))= .int z k:=rfl;simp only[execOp,Instr.sliceAt,cW,dL G.und,cX,O,eX,gu,Y,Instr.sureAddr,dU,hb,G.size,D,cY,vU,eD]⟩
def yC6 (cells:List AV) (off:Nat) (news:List AV):List AV:=cells.take off++news++cells.drop (off+news.length)
theorem z1B {t e bytes:Nat} {z:Value} {x y:Operand} {id eb off H m:Nat} {cells:List AV} {news:List DV} (hn:d<E.n) (hT:SlTy P t e 1 bytes z) (hx:S.ev x= .rs id off H) (hb:S.blk id= .box eb cells) (bh:off+H<=cells.length) (hp:0<H)
  (hy:S.ev y= .d (.sl 1 news)) (ah:news.length=m) (hE:E.wrB=true):
  jA P r E ⟨some d,.call {callee:= .builtin .copy,args:= #[x,y],argTypes:= #[t,t]},ty,pos,af,g⟩ S ((S.setBlk id (.box eb (yC6 cells off ((news.take (min m H)).map AV.d)))).put d (.d (.v (.int .i64 (min m H:Nat))))):=
 uE (by simp) λA w I ρ C hs=>by
  have h1:=hs.ev x;rw[hx] at h1;obtain⟨D,c1,hv,_,ad⟩:=h1;obtain⟨b,aa,rfl⟩:=ad hp;have h2:=hs.ev y;rw[hy] at h2;obtain⟨B,G,c2,ys,bb,_,ai,ak,aw,az⟩:=Rep.sl_inv h2;have ba:G=m:=by rw[<-ah,ai];omega
  subst ba;have ag:=hs.blks id;rw[hb] at ag;obtain⟨K,arr,T,hB,hh,ac,aj,hI⟩:=ag;have ax:K=b:=by rw[T] at aa;simpa[blockOf] using aa
  subst ax;have bn:arr.size=cells.length:=by rw[<-eK,aj.1]
  have bc:ys.length=G:=by rw[ak.1,ah]
  have k:=λ(ab:Array Value)=>wO (w:=w) (I:=I) (b:=K) (arr:=ab) hI
  let zs:=ys.take (min G H)
  have ap:zs.length=min G H:=by simp only[zs,d9,bc];omega
  have ao:∀u∈zs,u.oneCell'=true:=λu hu=>aw u (eF hu);have an:=run_storeCells_at P K off eb zs 0 arr w hh (by omega) ao;simp only[fH] at an;have am:=hs.modify (zAV w K (arr.toList.take off++zs++arr.toList.drop (off+zs.length)).toArray) (by rw[hb];simp) aa (k _) (x:= .box eb (yC6 cells off ((news.take (min G H)).map AV.d)))
   ⟨K,_,T,hB,ic w K arr _ eb _ hh,by
    intro v hv';simp only[eN] at hv';rcases hv' with (hv' | hv') | hv'
    ·exact ac v (eF hv')
    ·exact ao v hv'
    ·exact ac v (eU hv'),by
    have O:=aj.imp λ_ _ h=>Holds.mono h (k (arr.toList.take off++zs++arr.toList.drop (off+zs.length)).toArray) (λ_ _ h=>h);have al:Pw (Holds (w.setRow K (arr.toList.take off++zs++arr.toList.drop (off+zs.length)).toArray) I ρ) zs ((news.take (min G H)).map AV.d):=
     yHK (Reps.mono (ak.take _) (k _) (λ_ _ h=>h))
    unfold yC6;rw[<-al.1];exact Pw.append (Pw.append (O.take off) al) (O.drop _),hI⟩ hE
  have Z:(Builtin.firstCells 1 (min G H) (.slice B G c2)).run P w= .ok zs.toArray w:=by
   by_cases h0:G=0
   ·subst h0
    have hz:zs= []:=cS (by rw[ap];omega)
    rw[hz,Nat.zero_min];cases B<;>simp[Builtin.firstCells,loadCells,loadCellsFrom]
   ·obtain⟨b2,o2,rfl,ay⟩:=az (by omega)
    refine run_firstCells_some w 1 (min G H) ⟨b2,o2,none⟩ G c2 zs (by rw[ap];omega) λj v hj=>?_
    rw[vU];simp only[zs,d8] at hj;split at hj
    ·exact(ay j v hj).1
    ·cases hj
  have Y:=zI7 (P:=P) (ty:=ty) hT.und w _ (hT.size w) (some ⟨K,off,none⟩) B H c1 G c2 zs Z an;refine⟨_,_,?_,I,ρ,C,am.put hn (.v _)⟩;simp only[execOp,resolve,invoke,builtin,cW,dU,cX,eH,ey,fF,hv,bb,Y]
def cpA (l:List Int) (i:Nat) (x:Int):Int:=(l[i]?).getD x
theorem yM5 (l:List Int) (y x0 x1 x2 x3 x4 x5 x6 x7:Int):yC6 ([y,x0,x1,x2,x3,x4,x5,x6,x7].map λv=>AV.d (di v)) 1 (((eI.all l).take (min l.length 8)).map AV.d)=
  [y,cpA l 0 x0,cpA l 1 x1,cpA l 2 x2,cpA l 3 x3,cpA l 4 x4,cpA l 5 x5,cpA l 6 x6,cpA l 7 x7].map λv=>AV.d (di v):=by
 match l with
 | []=>rfl
 | [_]=>rfl
 | [_,_]=>rfl
 | [_,_,_]=>rfl
 | [_,_,_,_]=>rfl
 | [_,_,_,_,_]=>rfl
 | [_,_,_,_,_,_]=>rfl
 | [_,_,_,_,_,_,_]=>rfl
 | a::b::c::dd::e::f::k::h::rest=>
  have:min (a::b::c::dd::e::f::k::h::rest).length 8=8:=by simp only[dP];omega
  rw[this];rfl
section win
variable {t e size bytes k n:Nat} {z:Value} {x:Operand} {id:Nat} {cells:List DV}
theorem zY7 {T:Operand} {kk:IntKind} {i:Int} {j:Nat} (hn:d<E.n) (Z:SlTy P t e size bytes z) (hx:S.ev x= .row id) (hb:S.blk id= .win e size k cells) (hi:S.ev T= .d (.v (.int kk i))) (hj:i=(j:Int)) (hl:cells.length=n*size) (K:j<n):
  AOp P r E S ⟨some d,.indexAddr t x T,ty,pos,af,g⟩ d (.wp id (j*size)):=
 ⟨rfl,hn,λS' G=>zQ rfl hn (by simp) λA w I ρ C O=>by
  subst hj;have Y:=O.ev x;rw[(G.ev (x:=x) (by simp[Op.operands])).trans hx] at Y;have hv:A.eval x= ρ id:=Y;have hk:=O.blks id;rw[(G.blk id).trans hb] at hk;obtain⟨_,A',c,xs,D,aa,_,_,h⟩:=zHM hk hl;obtain⟨b,off,arr,rfl,_⟩:=h (by omega);have H:=O.val ((G.ev (x:=T) (by simp[Op.operands])).trans hi);refine⟨_,?_,b,off,n,c,D,rfl⟩;simp only[execOp,hv,D,H,cW,zHE w Z.und (Z.size w) b off n c kk j K];rfl⟩
theorem z5G {tt:TypeId} {off:Nat} {y:DV} (hn:d<E.n) (hT:OneTy P tt) (hx:S.ev x= .wp id off) (hb:S.blk id= .win e size k cells) (hc:cells[off]? =some y):
  AOp P r E S ⟨some d,.load tt x,ty,pos,af,g⟩ d (.d y):=
 ⟨rfl,hn,λS' Z=>zQ rfl hn (by simp) λA w I ρ C hs=>by
  have Y:=hs.ev x;rw[(Z.ev (x:=x) (by simp[Op.operands])).trans hx] at Y;obtain⟨b,o,n0,c0,T,hv⟩:=Y;have hk:=hs.blks id;rw[(Z.blk id).trans hb] at hk;obtain⟨A',n',c,xs,h,am,hp,al,hr,ai,G⟩:=hk;rw[T] at h;cases h;have O:off<xs.length:=by rw[hr.1];exact(c9.1 hc).1
  have H:=cV O;rcases G with ⟨G,_⟩ | ⟨b',ah,arr,G,hM,hh,hf,K,hI⟩
  ·cases G
  ·cases G
   refine⟨xs[off],?_,hr.2 off _ y H hc⟩;have D:w.cell? ⟨b,o+off,none⟩=some xs[off]:=by rw[e7 w b (o+off) arr e (0,0) hh];exact K off _ H
   simp only[execOp,hv,cW,zFG w hT b _ _ D];rfl⟩
theorem SatAt.spliceW {A:Act} {w:World} {I:Im} {ρ:Nat->Value} {C:Nat->Prop} (hs:SatAt E S A w I ρ C) {off b o:Nat} {news:List DV} {ys:List Value} {n0 c0:Nat} (hb:S.blk id= .win e size k cells) (ai: ρ id= .slice (some ⟨b,o,none⟩) n0 c0)
  (hk:k*size<=off) (ar:off+news.length<=cells.length) (au:0<news.length) (ab:Reps w I ys news) (O:∀u∈ys,u.oneCell'=true) (hE:E.wrB=true):
  ∃w',(storeCells ⟨b,o+off,none⟩ ys).run P w= .ok () w'/\SatAt E (S.setBlk id (.win e size k (spl cells off news))) A w' I ρ C:=by
 have Y:=hs.blks id;rw[hb] at Y;obtain⟨A',n',c,xs,H,an,hp,am,hr,K,T⟩:=Y;have aj:=H;rw[ai] at H;cases H;have ao:ys.length=news.length:=ab.1;rcases T with ⟨T,h0⟩ | ⟨b',ay,arr,T,hM,hh,hf,Z,hI⟩
 ·cases T
 ·cases T
  have ah:=run_storeCells_at P b (o+off) e ys 0 arr w hh (by omega) O;simp only[fH] at ah;have D:Same I w (w.setRow b (arr.toList.take (o+off)++ys++arr.toList.drop (o+off+ys.length)).toArray):=by
   intro b2 j hi;by_cases e':b2=b
   ·subst e'
    refine KeepB.ofCell hh (zQB hh _ ?_);have aa:j<o+off\/o+off+ys.length<=j:=by
     rcases fI j o with h | h
     ·left;omega
     ·rcases fI j (o+n0*size) with h2 | h2
      ·have:=hI j h h2 hi;left;omega
      ·right;omega
    have bb:o+off+ys.length<=arr.size:=by omega
    simp only[eW,dB];rcases aa with h | h
    ·rw[d5 (by simp;omega),d8,dK h];simp
    ·rw[dW (by simp;omega),dW (by simp;omega),eO]
     simp only[d9,eK];rw[show o+off+ys.length+(j-min (o+off) arr.size-ys.length)=j by omega];simp
   ·exact KeepB.of (setRow_other w b b2 _ e')
  have ag:(spl cells off news).length=cells.length:=by simp[spl];omega
  refine⟨_,ah,hs.modify (zAV w b _) (by rw[hb];simp) (by rw[ai];rfl) D ⟨_,n0,c0,xs.take off++ys++xs.drop (off+ys.length),aj,an,hp,by rw[ag,am],?_,?_,.inr ⟨b,o,_,rfl,hM,ic w b arr _ e _ hh,?_,?_,hI⟩⟩ hE⟩
  ·have ad:=hr.mono D (λ_ _ h=>h)
   have ac:=ab.mono D (λ_ _ h=>h);unfold spl;rw[<-ao];exact Pw.append (Pw.append (ad.take off) ac) (ad.drop (off+ys.length))
  ·intro v hv'
   simp only[eN] at hv';rcases hv' with (hv' | hv') | hv'
   ·exact K v (eF hv')
   ·exact O v hv'
   ·exact K v (eU hv')
  ·simp;omega
  ·intro j u G
   have bd:xs.length=cells.length:=hr.1;have al:j<(xs.take off++ys++xs.drop (off+ys.length)).length:=(c9.1 G).1;simp only[cZ,d9,eM] at al;simp only[eW,dB] at G ⊢;rcases fI j off with h | h
   ·rw[d5 (by simp;omega),d8,dK h] at G
    rw[d5 (by simp;omega),d8,dK (by omega)]
    have:=Z j u G;simpa using this
   ·rcases fI j (off+ys.length) with h2 | h2
    ·rw[dW (by simp;omega),d5 (by simp;omega)] at G
     rw[dW (by simp;omega),d5 (by simp;omega)]
     simp only[d9,eK] at G ⊢;rw[show o+j-min (o+off) arr.size=j-min off xs.length by omega];exact G
    ·rw[dW (by simp;omega),dW (by simp;omega),eO] at G
     rw[dW (by simp;omega),dW (by simp;omega),eO]
     simp only[d9,eK] at G ⊢;rw[show off+ys.length+(j-min off xs.length-ys.length)=j by omega] at G;have:=Z j u G;rw[show o+off+ys.length+(o+j-min (o+off) arr.size-ys.length)=o+j by omega];simpa using this
theorem z1C {tt:TypeId} {y:Operand} {off:Nat} {u:DV} (Z:OneTy P tt) (hx:S.ev x= .wp id off) (hb:S.blk id= .win e size k cells) (hk:k*size<=off) (O:off<cells.length) (hy:S.ev y= .d u) (h1:(AV.d u).one=true) (hE:E.wrB=true):
  jA P r E ⟨none,.store tt x y,ty,pos,af,g⟩ S (S.setBlk id (.win e size k (cells.set off u))):=
 zER rfl (by simp) λA w I ρ C K=>by
  have h:=K.ev x;rw[hx] at h;obtain⟨b,o,n0,c0,Y,hv⟩:=h;have H:=K.ev y;rw[hy] at H;have D:=zMU K.blks H h1 (by intro _ e;cases e)
  obtain⟨w',T,G⟩:=K.spliceW (P:=P) (off:=off) (news:=[u]) (ys:=[A.eval y]) hb Y hk (by simp only[dP,d6];omega) (by simp) (Pw.cons H Pw.nil) (by simpa using D) hE
  refine⟨w',?_,I,ρ,C,?_⟩
  ·simp only[execOp,hv,Instr.storeAt,Instr.sureAddr,storeVar,cW,dU,cX,Z.agg,Z.size,zIK D]
   simp[T]
  ·have e1:spl cells off [u]=cells.set off u:=by
    unfold spl;rw[gx,dK O];simp
   rw[e1] at G;exact G
theorem z5H {y:Operand} {h m off G:Nat} {t1 t2:Bool} (hn:d<E.n) (hT:SlTy P t e size bytes z) (hx:S.ev x= .ws id (off*size) h t1) (hb:S.blk id= .win e size k cells) (hl:cells.length=n*size)
  (hy:S.ev y= .ws id (G*size) m t2) (hk:k<=off) (ar:off+h<=n) (au:G+m<=n) (hE:E.wrB=true):
  jA P r E ⟨some d,.call {callee:= .builtin .copy,args:= #[x,y],argTypes:= #[t,t]},ty,pos,af,g⟩ S
   ((S.setBlk id (.win e size k (spl cells (off*size) (((cells.drop (G*size)).take (m*size)).take (min m h*size))))).put d (.d (.v (.int .i64 (min m h:Nat))))):=
 uE (by simp) λA w I ρ C hs=>by
  have h1:=hs.ev x;rw[hx] at h1;obtain⟨D,c1,hv,_,_,aa⟩:=h1;have h2:=hs.ev y;rw[hy] at h2;obtain⟨B,c2,aj,_,_,O⟩:=h2;have ac:Nat.min m h=min m h:=rfl;by_cases h0:min m h=0
  ·have aq:SatAt E (S.setBlk id (.win e size k (spl cells (off*size) (((cells.drop (G*size)).take (m*size)).take (min m h*size))))) A w I ρ C:=by
    refine hs.congr' (λ_=>rfl) (λi=>?_);rw[yB];by_cases e':id=i
    ·subst e'
     rw[hb,h0];simp[spl]
    ·simp[e']
   refine⟨.int .i64 (min m h:Nat),w,?_,I,ρ,C,aq.put hn (.v _)⟩;have:=zI7 (P:=P) (ty:=ty) hT.und w w (hT.size w) D B h c1 m c2 [] (by rw[ac,h0];cases B<;>simp[Builtin.firstCells,loadCells,loadCellsFrom]) (by cases D<;>simp[storeCells])
   simp only[execOp,resolve,invoke,builtin,cW,dU,cX,eH,ey,fF,hv,aj,this]
  ·obtain⟨b,o,n0,c0,Y,rfl⟩:=aa (by omega)
   obtain⟨b2,o3,n3,c3,K,rfl⟩:=O (by omega);rw[Y] at K;cases K;have ab:=hs.blks id;rw[hb] at ab;obtain⟨hp,A',c,xs,H,bf,hr,an,hA⟩:=zHM ab hl;rw[Y] at H;cases H;obtain⟨b',bj,arr,ao,hM,hh,hf,ap,hI⟩:=hA (by omega);cases ao;have az:xs.length=n*size:=by rw[hr.1,hl]
   have bq:G*size+m*size<=n*size:=by rw[<-eG];exact dY _ au
   have br:off*size+h*size<=n*size:=by rw[<-eG];exact dY _ ar
   have bo:min m h*size<=m*size:=dY _ (by omega);have bp:min m h*size<=h*size:=dY _ (by omega);have aw:0<min m h*size:=Nat.mul_pos (by omega) hp
   let zs:=((xs.drop (G*size)).take (m*size)).take (min m h*size)
   have ag:Reps w I zs (((cells.drop (G*size)).take (m*size)).take (min m h*size)):=((hr.drop _).take _).take _;have ak:zs.length=min m h*size:=by simp only[zs,d9,eM,az];omega
   have ad:(((cells.drop (G*size)).take (m*size)).take (min m h*size)).length=min m h*size:=by rw[<-ag.1,ak]
   obtain⟨w',ay,ai⟩:=hs.spliceW (P:=P) (off:=off*size) (ys:=zs) hb Y (dY _ hk) (by rw[ad,hl];omega) (by rw[ad];exact aw) ag (λu hu=>an u (eU (eF (eF hu)))) hE
   have T:(Builtin.firstCells size (min m h) (.slice (some ⟨b,o+G*size,none⟩) m c2)).run P w= .ok zs.toArray w:=by
    refine run_firstCells_some w size (min m h) ⟨b,o+G*size,none⟩ m c2 zs ak λj v Z=>?_;rw[vU,e7 w b (o+G*size+j) arr e (0,0) hh];simp only[zs,d8,eO] at Z;split at Z
    ·split at Z
     ·rw[gv];exact ap _ v Z
     ·cases Z
    ·cases Z
   have:=zI7 (P:=P) (ty:=ty) hT.und w w' (hT.size w) (some ⟨b,o+off*size,none⟩) (some ⟨b,o+G*size,none⟩) h c1 m c2 zs T ay;refine⟨_,w',?_,I,ρ,C,ai.put hn (.v _)⟩;simp only[execOp,resolve,invoke,builtin,cW,dU,cX,eH,ey,fF,hv,aj,this]
end win
end
open Go.RowKit Go.M
section
variable {P:Program} {r:Option Nat} {E:Env} {S:AState} {d:Nat} {ty:TypeId} {pos:String} {af:Array Edge} {g:Option (Nat×Bool)}
section win
variable {t e size bytes k n:Nat} {z:Value} {x:Operand} {id:Nat} {cells:List DV}
theorem zWH {Z xm:Operand} {k2 k3:IntKind} {Y:Int} {h:Nat} (hn:d<E.n) (hT:SlTy P t e size bytes z) (hx:S.ev x= .row id) (T:S.blk id= .win e size k cells) (hl:cells.length=n*size)
    (h2:S.ev Z= .d (.v (.int k2 Y))) (h3:S.ev xm= .d (.v (.int k3 Y))) (e2:Y=(h:Int)) (am:h<=n):
    AOp P r E S ⟨some d,.slice t x none (some Z) (some xm),ty,pos,af,g⟩ d (.ws id 0 h true):=
  ⟨rfl,hn,λS' H=>zQ rfl hn (by simp) λA w I ρ C K=>by
    subst e2;have h1:=K.ev x;rw[(H.ev (x:=x) (by simp[Op.operands])).trans hx] at h1;have hv:A.eval x= ρ id:=h1;have hk:=K.blks id;rw[(H.blk id).trans T] at hk;obtain⟨_,O,c,xs,G,ac,_,_,D⟩:=zHM hk hl;have v2:=K.val ((H.ev (x:=Z) (by simp[Op.operands])).trans h2);have v3:=K.val ((H.ev (x:=xm) (by simp[Op.operands])).trans h3);refine⟨_,?_,(if h=0 then O else O.map (·.add (0*size))),h-0,rfl,by omega,(by simp),λh0=>?_⟩
    · simp only[execOp,hv,G,cW,gu,eX,v2,v3,z09 w hT.und (hT.size w) O n c 0 h h none k2 k3 (.inl ⟨rfl,rfl⟩) (by omega) (by omega) (by omega)]
      rfl
    · obtain⟨b,off,arr,rfl,_⟩:=D (by omega)
      refine⟨b,off,n,c,G,?_⟩;rw[dQ (by omega)];simp[vU]⟩
theorem zY8 {s:Operand} {off m:Nat} {news:List DV} {h:Nat} (hn:d<E.n) (hT:SlTy P t e size bytes z) (bg:S.ev s= .ws id (off*size) h true) (hb:S.blk id= .win e size k cells) (hl:cells.length=n*size) (am:off+h<=n)
  (hx:S.ev x= .d (.sl size news)) (aa:news.length=m*size) (hm:0<m) (ai:h+m<=maxLen) (H:(h+m)*bytes<=140737488355328) (bf:E.nm d=none):
  jA P r E ⟨some d,.call {callee:= .builtin .append,args:= #[s,x],argTypes:= #[t,t]},ty,pos,af,g⟩ S (((S.kill d).setBlk d (.row e size false (((cells.drop (off*size)).take (h*size))++news))).put d (.row d)):=
 uE (by simp) λA w I ρ C hs=>by
  obtain⟨i,hi,hz,rfl,rfl⟩:=hT.info;have h1:=hs.ev s;rw[bg] at h1;obtain⟨B,c,hv,_,bi,aj⟩:=h1;have bb:=bi rfl;subst bb;have h2:=hs.ev x;rw[hx] at h2;obtain⟨B2,G,c2,ys,bj,_,an,ah,ax,bc⟩:=Rep.sl_inv h2;obtain rfl:=zFW an aa hT.pos;obtain⟨b2,o2,rfl,al⟩:=bc (by omega);have ak:=hs.blks id;rw[hb] at ak;obtain⟨hp,A',c3,xs,bm,bq,hr,aw,hA⟩:=zHM ak hl;have ca:off*i.size+c*i.size<=n*i.size:=by rw[<-eG];exact dY _ am
  have bk:xs.length=n*i.size:=by rw[hr.1,hl]
  let D:=(xs.drop (off*i.size)).take (c*i.size)
  have ag:D.length=c*i.size:=by simp only[D,d9,eM,bk];omega
  have ap:Reps w I D ((cells.drop (off*i.size)).take (c*i.size)):=(hr.drop _).take _;have bp:((c+G:Nat):Int)<=9223372036854775807:=by simp only[maxLen] at ai;omega
  have O:∃K,(Builtin.append_ #[t,t] ty #[.slice B c c,.slice (some ⟨b2,o2,none⟩) G c2]).run P w= .ok (.slice (some ⟨w.heap.size,0,none⟩) (c+G) (grownCap w (c+G) K e))
    (w.drew.alloc (.cells ((D++ys).toArray++Builtin.zeroCells z.cells (grownCap w (c+G) K e-(c+G))) e)):=by
   have Y:∀(j:Nat) u,ys[j]? =some u->w.cell? ((⟨b2,o2,none⟩:Addr).add j)=some u:=λj u Z=>by rw[vU];exact(al j u Z).1
   have ab:ys.length=G*i.size:=by rw[ah.1,aa]
   by_cases h0:c=0
   ·subst h0
    have ho:D= []:=cS (by rw[ag];omega)
    rw[ho];cases B with
    | none=>
     have:=run_append_nil (P:=P) w t ty e i z hT.und hi hz ⟨b2,o2,none⟩ G c2 ys ab Y (by omega) (by omega) (by simp only[eD] at H;omega)
     exact⟨0,by simpa using this⟩
    | some a=>
     have:=run_append_grow (P:=P) w t ty e i z hT.und hi hz a 0 0 [] (by simp) (λj u Z=>by simp at Z) ⟨b2,o2,none⟩ G c2 ys ab Y (by omega) (by omega) (growslice_fits (by omega) H);exact⟨0,by simpa using this⟩
   ·obtain⟨b,o,n0,c0,ac,rfl⟩:=aj (by omega)
    rw[bm] at ac;cases ac;obtain⟨b',bu,arr,ay,hM,hh,hf,az,hI⟩:=hA (by omega);cases ay;have:=run_append_grow (P:=P) w t ty e i z hT.und hi hz ⟨b,o+off*i.size,none⟩ c c D ag (λj u Z=>by
     rw[vU,e7 w b _ arr e (0,0) hh];simp only[D,d8,eO] at Z;split at Z
     ·rw[gv];exact az _ u Z
     ·cases Z) ⟨b2,o2,none⟩ G c2 ys ab Y (by omega) (by omega) (growslice_fits (by omega) H)
    exact⟨c,by simpa using this⟩
  obtain⟨K,O⟩:=O;have be:=grownCap_ge w (c+G) K e;have ba:grownCap w (c+G) K e<=maxLen:=grownCap_le_maxLen w (c+G) K e ai;have bx:∀b j,I b j->b<w.heap.size:=λb j h=>(hs.old b j h).1;have bd:Below w.heap.size w w.drew:=⟨rfl,rfl,rfl,dF _,λ_ _=>rfl⟩;have bh:=hs.grow bd;have ab:ys.length=G*i.size:=by rw[ah.1,aa]
  have ao:=bh.newRow (id:=d) (e:=e) (size:=i.size) (n:=c+G) (c:=grownCap w (c+G) K e) (xs:=D++ys) (rest:=(Builtin.zeroCells z.cells (grownCap w (c+G) K e-(c+G))).toList) (cells:=((cells.drop (off*i.size)).take (c*i.size))++news)
   hT.pos (by rw[cZ,<-ap.1,ag,aa,eG]) be ba (by rw[eK,size_zeroCells,hT.zs]) (by
    have T:Same I w w.drew:=λ_ _ _=>KeepB.of rfl;exact Pw.append (Reps.mono ap T λ_ _ h=>h) (ah.mono T λ_ _ h=>h)) (by
    intro u Z;rcases eN.1 Z with h | h
    ·exact aw u (eU (eF h))
    ·exact ax u h) bf
  refine⟨_,_,?_,I,_,C,ao.put hn (show Holds _ _ _ (.slice (some ⟨w.heap.size,0,none⟩) (c+G) (grownCap w (c+G) K e)) (AV.row d) from by simp[Holds,upd])⟩;simp only[execOp,resolve,invoke,builtin,cW,dU,cX,eH,ey,fF,hv,bj,O];congr 2;congr 1;simp
end win
inductive View (S:AState):AV->DV->Prop
 | d (x:DV):View S (.d x) x
 | win {id e size k:Nat} {cells:List DV} (h:S.blk id= .win e size k cells):View S (.row id) (.sl size cells)
 | ws {id e size k off n N:Nat} {tt:Bool} {cells:List DV} (h:S.blk id= .win e size k cells) (hl:cells.length=N*size) (hf:off+n<=N):View S (.ws id (off*size) n tt) (.sl size ((cells.drop (off*size)).take (n*size)))
def ViewL (S:AState):List AV->List DV->Prop
 | [],ds=>ds= []
 | x::xs,ds=> ∃y ys,ds=y::ys/\View S x y/\ViewL S xs ys
theorem View.rep {a:Act} {w:World} {I:Im} {ρ:Nat->Value} {C:Nat->Prop} (hs:SatAt E S a w I ρ C) {v:Value} {x:AV} {y:DV} (h:View S x y) (hv:Holds w I ρ v x):Rep w (λb _=>b<w.heap.size) v y:=by
 have z:∀b j,I b j->(λb (_:Nat)=>b<w.heap.size) b j:=λb j hi=>(hs.old b j hi).1;cases h with
 | d=>exact Rep.mono hv (kM I w) z
 | win hb=>
  rename_i id e size k cells;have hk:=hs.blks id;rw[hb] at hk;obtain⟨A,n,c,xs,T,K,hp,hl,hr,h1,hA⟩:=hk;have O:v= .slice A n c:=Eq.trans hv T;subst O;by_cases h0:n=0;subst h0;have:cells= []:=cS (by omega);subst this;exact .nil _ _ _;rcases hA with ⟨_,h⟩ | ⟨b,off,arr,rfl,hM,hh,hf,hc,hI⟩
  omega;have H:b<w.heap.size:=(cU.1 hh).1;have D:=hr.mono (kM I w) z;refine .sl b off n c size xs cells (by omega) K hl hr.1 (λj x Y=>⟨?_,H⟩) h1 D.2;rw[e7 w b (off+j) arr e (0,0) hh];exact hc j x Y
 | ws hb hl hf=>
  rename_i id e size k off n N tt cells;have hk:=hs.blks id;rw[hb] at hk;obtain⟨hp,A',c3,xs,T,an,hr,ah,hA⟩:=zHM hk hl;obtain⟨B,c,O,K,_,Z⟩:=hv;subst O;have ay:off*size+n*size<=N*size:=by rw[<-eG];exact dY _ hf
  by_cases h0:n=0;subst h0;simp only[gz,ik];exact .nil _ _ _;obtain⟨b,o,n0,c0,G,rfl⟩:=Z (by omega);rw[T] at G;cases G;obtain⟨b',ap,arr,aj,hM,hh,ax,ak,hI⟩:=hA (by omega);cases aj;have H:b<w.heap.size:=(cU.1 hh).1;have D:=Reps.mono ((hr.drop (off*size)).take (n*size)) (kM I w) z;refine .sl b (o+off*size) n c size ((xs.drop (off*size)).take (n*size)) _ (by omega) K (by rw[d9,eM,hl];omega) D.1 (λj x Y=>⟨?_,H⟩) (λu hu=>ah u (eU (eF hu))) D.2
  rw[e7 w b _ arr e (0,0) hh];simp only[d8,eO] at Y;split at Y;rw[gv];exact ak _ x Y;cases Y
theorem ViewL.reps {a:Act} {w:World} {I:Im} {ρ:Nat->Value} {C:Nat->Prop} (z:SatAt E S a w I ρ C):∀{vs:List Value} {xs:List AV} {ys:List DV},ViewL S xs ys->Pw (Holds w I ρ) vs xs->Reps w (λb _=>b<w.heap.size) vs ys
 | [],[],ys,h,_=>by cases h;exact Pw.nil
 | [],x::xs,ys,_,k=>by have:=k.1;simp at this
 | v::vs,[],ys,_,k=>by have:=k.1;simp at this
 | v::vs,x::xs,ys,⟨y,zs,e,D,G⟩,k=>by
  subst e;obtain⟨q1,q2⟩:=zF7 k;exact Pw.cons (D.rep z q1) (ViewL.reps z G q2)
theorem yC7 {f:FuncId} {xs:List Operand} {ats:Array TypeId} {ds rs:List DV} (hn:d<E.n) (hv:ViewL S (xs.map S.ev) ds) (hc:zH P f ds rs) (hG:E.gdt=zAU P:=by rfl):
  jA P r E ⟨some d,.call {callee:= .value (.func f),args:=xs.toArray,argTypes:=ats},ty,pos,af,g⟩ S (S.put d (yF7 rs)):=by
 rintro A w K Q ⟨I,ρ,C,H⟩ hk
 obtain⟨⟨Z,hf,z,h⟩,k⟩:=hc;have h3:=hv.reps H (uB H xs);have O:=k w (λb _=>b<w.heap.size) (xs.map A.eval) (λb j hi=>hi) ((hG▸H.gl).sub λb j hi=>(H.old b j hi).1) h3;refine⟨λf _=>trivial,?_⟩;rw[Oper.semAt_eq _ _ _ (by simp)];have G:(execOp A.eval ⟨some d,.call {callee:= .value (.func f),args:=xs.toArray,argTypes:=ats},ty,pos,af,g⟩).run P w= .ok (.enter f (xs.map A.eval).toArray) w:=by
  simp only[execOp,resolve,Act.eval,Deferred.ofValue];have T:¬Z.name= "runtime.NumGoroutine" :=by simpa using z
  have Y:¬Z.body=none:=by intro e;simp[e] at h
  simp[invoke,callFunc,hf,T,Y,eH]
 rw[G];refine⟨by simp[fen,Fence.wide],?_⟩;show CallsIn Fence.wide 0 P f _ w _;refine gy.2 (O.mono ?_)
 rintro e w' ⟨v,I',rfl,hb,ab,aa,D⟩
 exact hk _ _ ⟨I,ρ,C,SatAt.put (H.grow hb) hn (zY5 D)⟩
theorem zMK {t e:TypeId} (h:P.underlying t=some (.slice e)) (B:Option Addr) (n c:Nat) (w:World):(Op.equal t (.slice B n c) (.slice none 0 0)).run P w= .ok B.isNone w:=by show (Op.equalIn (9999+1) t (.slice B n c) (.slice none 0 0)).run P w=_;rw[Op.equalIn];cases B<;>simp[dL h]
theorem yC8 {t e:TypeId} {x:Operand} {size:Nat} {cells:List DV} {tz:TypeId} (H:d<E.n) (Z:P.underlying t=some (.slice e)) (hx:S.ev x= .d (.sl size cells)) (D:cells≠[]):
  AOp P r E S ⟨some d,.binOp .eql t x (.const (.slice none 0 0)) tz,ty,pos,af,g⟩ d (.d (.v (.bool false))):=
 ⟨rfl,H,λS' K=>k9 rfl H (by simp) λA w I ρ C Y=>by
  have G:=Y.ev x;rw[(K.ev (x:=x) (by simp[Op.operands])).trans hx] at G;obtain⟨B,n,c,xs,hv,_,hl,_,_,k⟩:=Rep.sl_inv G;have z:0<n:=by
   rcases Nat.eq_zero_or_pos n with h | h
   ·subst h;exact absurd (cS (by omega)) D
   ·exact h
  obtain⟨b,off,rfl,_⟩:=k z;have O:A.eval (.const (.slice none 0 0))= .slice none 0 0:=rfl;have hb:binOp .eql t (.slice (some ⟨b,off,none⟩) n c) (.slice none 0 0)=(do pure (.bool (<-Op.equal t (.slice (some ⟨b,off,none⟩) n c) (.slice none 0 0)))):=rfl;have T:eqGuard .eql t x (.const (.slice none 0 0)) (.slice (some ⟨b,off,none⟩) n c) (.slice none 0 0)=pure ():=rfl;simp only[execOp,hv,O,hb,T,cW,dU,cX,zMK Z];rfl⟩
theorem z5I {t e:TypeId} {x:Operand} {B:Option Addr} {n c:Nat} {tz:TypeId} (h:d<E.n) (H:P.underlying t=some (.slice e)) (O:S.ev x= .d (.v (.slice B n c))):
  AOp P r E S ⟨some d,.binOp .eql t x (.const (.slice none 0 0)) tz,ty,pos,af,g⟩ d (.d (.v (.bool B.isNone))):=
 ⟨rfl,h,λS' k=>k9 rfl h (by simp) λA w I ρ C G=>by
  have K:=G.val ((k.ev (x:=x) (by simp[Op.operands])).trans O);have z:A.eval (.const (.slice none 0 0))= .slice none 0 0:=rfl;have hb:binOp .eql t (.slice B n c) (.slice none 0 0)=(do pure (.bool (<-Op.equal t (.slice B n c) (.slice none 0 0)))):=rfl;have D:eqGuard .eql t x (.const (.slice none 0 0)) (.slice B n c) (.slice none 0 0)=pure ():=rfl;simp only[execOp,K,z,hb,D,cW,dU,cX,zMK H]⟩
theorem zWI {t:Nat} {B:Option Addr} {c:Nat} (size:Nat) (z:t<E.n) (D:S.get t= .d (.v (.slice B 0 c))):zES E S (S.put t (.d (.sl size []))):=by
 rintro a w ⟨I,ρ,C,h⟩
 refine⟨I,ρ,C,⟨λu=>?_,h.blks,h.dist,by rw[zBX _ _ z];exact h.frame,h.sub,h.old,h.size,h.defers,h.cI,h.cB,h.nm⟩⟩
 rw[zAE];by_cases e:t=u;subst e;simp only[dH];have:=h.tmps t;rw[D] at this;generalize a.tmps.getD t undef=v at this ⊢;have k:Rep w I v (.v (.slice B 0 c)):=this;cases k;exact .nil _ _ _;simp only[e,cY];exact h.tmps u
end
theorem z8F {P:Program} {f:FuncId} {size:Nat} {T z:List (Nat×Blk)} {keep:List Nat} {k:List Cap} (Z:0<size) (h:∀B c,GC P f [.d (.v (.slice B 0 c))] T keep k z):GC P f [.d (.sl size [])] T keep k z:=by
 refine⟨(h none 0).1,λw I ρ vs H hG K G=>?_⟩
 match vs,G.1 with
 | [v],_=>
  have hr:Rep w I v (.sl size []):=G.2 0 v (.d (.sl size [])) rfl rfl;cases hr with
  | nil A c=>exact(h A c).2 w I ρ _ H hG K (Pw.cons (show HoldsC w I ρ _ (.d (.v _)) from .v _) Pw.nil)
  | sl b off n c size xs cells Y D O=>exact absurd O (by have:=Nat.mul_pos Y Z;simp only[d6];omega)
open Go.RowKit Go.M
section
variable {P:Program} {r:Option Nat} {E:Env} {S:AState} {d:Nat} {ty:TypeId} {pos:String} {af:Array Edge} {g:Option (Nat×Bool)}
section win
variable {t e size bytes k n:Nat} {z:Value} {x:Operand} {id:Nat} {cells:List DV}
theorem z5J {tm h:Nat} {tt:Bool} (k':Nat) (hn:tm<E.n) (ht:S.get tm= .ws id 0 h tt) (hb:S.blk id= .win e size k cells) (hl:cells.length=n*size) (hh:h<=n) (az:k<=k') (ba:h<=k'):
  zES E S ((S.setBlk id (.win e size k' cells)).put tm (.d (.sl size (cells.take (h*size))))):=by
 rintro a w ⟨I,ρ,C,K⟩
 have ah:=K.blks id;rw[hb] at ah;obtain⟨hp,A,c,xs,ab,bc,hr,h1,hA⟩:=zHM ah hl;have aa:S.blk id≠ .none:=by rw[hb];simp
 let I':Im:=λb j=>I b j\/(∃off,A=some ⟨b,off,none⟩/\off<=j/\j<off+h*size)
 have H:∀b j,I b j->I' b j:=λb j hi=> .inl hi;have key:∀i,((S.setBlk id (.win e size k' cells)).put tm (.d (.sl size (cells.take (h*size))))).blk i≠ .none->S.blk i≠ .none:=by
  intro i hi;rw[yCO,yB] at hi;by_cases T:id=i
  ·subst T;exact aa
  ·simp only[T,cY] at hi;exact hi
 have ag:∀b off,A=some ⟨b,off,none⟩->blockOf (ρ id)=some b:=λb off e=>by rw[ab,e];rfl
 have bn:h*size<=n*size:=dY _ hh;have bf:xs.length=n*size:=by rw[hr.1,hl]
 refine⟨I',ρ,C,⟨λu=>?_,λi=>?_,λi i' b bb hi ax=>K.dist i i' b bb (key i hi) (key i' ax),by rw[zBX _ _ hn];exact K.frame,λb j hi=>H b j (K.sub b j hi),λb j hi=>?_,K.size,K.defers,λb j hi=>?_,λi b hi=>K.cB i b (key i hi),λi v hv hi=>K.nm i v hv (key i hi)⟩⟩
 ·rw[zAE]
  by_cases T:tm=u
  ·subst T
   simp only[dH];have hv:=K.tmps tm;rw[ht] at hv;obtain⟨B,c',be,ak,_,aj⟩:=hv;rw[be];by_cases h0:h=0
   ·subst h0
    simp only[gz,ik];exact .nil _ _ _
   ·obtain⟨b,o,n0,c0,ac,rfl⟩:=aj (by omega)
    rw[ab] at ac;cases ac;obtain⟨b',bj,arr,D,hM,O,Z,Y,hI⟩:=hA (by omega);cases D;have am:=Reps.mono (hr.take (h*size)) (kM I w) H;refine .sl b (o+0) h c' size (xs.take (h*size)) _ (by omega) ak (by rw[d9,hl];omega) am.1 (λj x hj=>?_) (λu hu=>h1 u (eF hu)) am.2
    have ay:=(c9.1 hj).1;rw[d9] at ay;rw[d8,dK (by omega)] at hj;rw[fH];exact⟨by rw[e7 w b (o+j) arr e (0,0) O];exact Y j x hj,.inr ⟨o,rfl,by omega,by omega⟩⟩
  ·simp only[T,cY]
   exact(K.tmps u).mono (kM I w) H
 ·show BlkOk w I' ρ E.mine i ((S.setBlk id (.win e size k' cells)).blk i)
  rw[yB];by_cases T:id=i
  ·subst T
   simp only[dH];refine⟨A,n,c,xs,ab,bc,hp,hl,hr.mono (kM I w) H,h1,?_⟩;by_cases h0:n=0
   ·obtain⟨A2,n2,c2,bv,ad,_,_,bo,_,_,G⟩:=ah
    rw[ab] at ad;cases ad;rcases G with G | ⟨b,off,arr,G,hM,O,Z,Y,hI⟩
    ·exact .inl G
    ·refine .inr ⟨b,off,arr,G,hM,O,Z,λj x hj=>?_,λj q1 q2 _=>?_⟩
     ·have:=(c9.1 hj).1;rw[bf,h0] at this;omega
     ·rw[h0] at q2;omega
   ·obtain⟨b,off,arr,D,hM,O,Z,Y,hI⟩:=hA (by omega)
    refine .inr ⟨b,off,arr,D,hM,O,Z,Y,λj q1 q2 hi=>?_⟩;have m1:k*size<=k'*size:=dY _ az;have m2:h*size<=k'*size:=dY _ ba;rcases hi with hi | ⟨bk,G,q3,q4⟩
    ·have:=hI j q1 q2 hi;omega
    ·rw[D] at G;cases G;omega
  ·simp only[T,cY]
   refine(K.blks i).widenI H λb j hx aw hi=>?_;rcases hi with hi | ⟨off,D,_⟩
   ·exact hi
   ·exact absurd aw (K.dist id i b T aa hx (ag b off D))
 ·rcases hi with hi | ⟨off,D,_⟩
  ·exact K.old b j hi
  ·have:=K.blt id b aa (ag b off D);exact⟨this.2,.inr this.1⟩
 ·rcases hi with hi | ⟨off,D,_⟩
  ·exact K.cI b j hi
  ·exact K.cB id b aa (ag b off D)
theorem z1D (Z:Nat) (hb:S.blk id= .win e size k cells) (hk:k<=Z):zES E S (S.setBlk id (.win e size Z cells)):=by
 rintro a w ⟨I,ρ,C,h⟩
 have H:=h.blks id;rw[hb] at H;have T:S.blk id≠ .none:=by rw[hb];simp
 have key:∀i,(S.setBlk id (.win e size Z cells)).blk i≠ .none->S.blk i≠ .none:=by
  intro i hi;rw[yB] at hi;by_cases D:id=i;subst D;exact T;simpa[D] using hi
 refine⟨I,ρ,C,⟨h.tmps,λi=>?_,λi i' b hn hi K=>h.dist i i' b hn (key i hi) (key i' K),h.frame,h.sub,h.old,h.size,h.defers,h.cI,λi b hi=>h.cB i b (key i hi),λi v hv hi=>h.nm i v hv (key i hi)⟩⟩;rw[yB];by_cases D:id=i;subst D;simp only[dH];obtain⟨A,n,c,xs,Y,O,hp,hl,hr,h1,G⟩:=H;refine⟨A,n,c,xs,Y,O,hp,hl,hr,h1,?_⟩;rcases G with G | ⟨b,off,arr,G,hM,hh,hf,hc,hI⟩
 exact .inl G;exact .inr ⟨b,off,arr,G,hM,hh,hf,hc,λj q1 q2 hi=>eP (hI j q1 q2 hi) (Nat.add_le_add_left (dY _ hk) _)⟩;simp only[D,cY];exact h.blks i
theorem z8G {xl:Operand} {kk:IntKind} {il:Int} {l:Nat} (hn:d<E.n) (hT:SlTy P t e size bytes z) (hx:S.ev x= .row id) (hb:S.blk id= .win e size k cells) (hl:cells.length=n*size) (aj:S.ev xl= .d (.v (.int kk il))) (el:il=(l:Int)) (ah:k<=l) (ai:l<=n) (al:E.nm id=none):
    jA P r E ⟨some d,.slice t x (some xl) none none,ty,pos,af,g⟩ S (((S.kill id).setBlk id (.win e size 0 (cells.drop (l*size)))).put d (.row id)):=
  uE (by simp) λA w I ρ C hs=>by
    subst el;have h1:=hs.ev x;rw[hx] at h1;have hv:A.eval x= ρ id:=h1;have an:=hs.val aj;have hk:=hs.blks id;rw[hb] at hk;obtain⟨D,G,c,xs,Z,ak,hp,H,hr,ac,hA⟩:=hk;obtain rfl:=zFW H hl hp;have T:G*size=(G - l)*size+l*size:=by rw[<-eG];congr 1;omega
    have Y:(Instr.sliceAt t (.slice D G c) (some (.int kk l)) none none).run P w= .ok (.slice (if c=l then D else D.map (·.add (l*size))) (G - l) (c-l)) w:=
      zLR w hT.und (hT.size w) D G c l G _ _ (.inr ⟨kk,rfl⟩) (.inl ⟨rfl,rfl⟩) ai (dF _) ak
    have ag:∀b,blockOf (.slice (if c=l then D else D.map (·.add (l*size))) (G - l) (c-l))=some b->blockOf (ρ id)=some b:=by
      intro b h;rw[Z];cases D with
      | none=>split at h<;>simp[blockOf] at h
      | some ad=>
        split at h
        · exact h
        · have e3:(ad.add (l*size)).block=ad.block:=by unfold Addr.add;split<;>rfl
          simpa[blockOf,e3] using h
    have am:=hs.update (hZ w none) (id:=id) (u:= .slice (if c=l then D else D.map (·.add (l*size))) (G - l) (c-l)) (x:= .win e size 0 (cells.drop (l*size))) (by simp) (kM I w)
      (λb h=> .inr ⟨by rw[hb];simp,ag b h⟩) (by
        refine⟨(if c=l then D else D.map (·.add (l*size))),G - l,c-l,xs.drop (l*size),by simp[upd],by omega,hp,by rw[eM,H];omega,hr.drop _,λu hu=>ac u (eU hu),?_⟩
        rcases hA with ⟨rfl,h0⟩ | ⟨b,off,arr,rfl,hM,hh,hf,hc,hI⟩
        · left;constructor
          · split<;>rfl
          · omega
        · right
          by_cases O:c=l
          · have K:G - l=0:=by omega
            refine⟨b,off,arr,by rw[dK O],hM,hh,by rw[K];omega,λj u hj=>?_,λj q1 q2 _=>by rw[K] at q2;omega⟩
            have:=(c9.1 hj).1;rw[eM,hr.1,H,T,K] at this;omega
          · refine⟨b,off+l*size,arr,by rw[dQ O];simp[vU],hM,hh,by omega,λj u hj=>?_,λj q1 q2 hi=>?_⟩
            · rw[eO] at hj
              rw[gv];exact hc _ u hj
            · have:=hI j (by omega) (by omega) hi
              have m1:k*size<=l*size:=dY _ ah;omega) (.inl rfl) al
    refine⟨_,w,?_,I,_,C,am.put hn (show Holds _ _ _ _ (AV.row id) from by simp[Holds,upd];rfl)⟩
    simp only[execOp,hv,Z,cW,eX,gu,an,Y];rfl
end win
section lists
variable {α:Type} {en:En α} {l l':List α} {t e bytes k:Nat} {z:Value} {x:Operand} {id:Nat}
theorem yHV (D:d<E.n) (h:SlTy P t e en.size bytes z) (G:S.ev x= .row id) (hb:S.blk id= .win e en.size k (en.all l)):
  AOp P r E S ⟨some d,.call {callee:= .builtin .len,args:= #[x],argTypes:= #[t]},ty,pos,af,g⟩ d (.d (.v (.int .i64 l.length))):=z5E D h G hb (kZ en l)
theorem zFI {D:Operand} {O:IntKind} {i:Int} {v: α} (H:d<E.n) (G:SlTy P t e en.size bytes z) (K:S.ev x= .row id) (hb:S.blk id= .win e en.size k (en.all l)) (hi:S.ev D= .d (.v (.int O i))) (h:zV l i=some v):
  AOp P r E S ⟨some d,.indexAddr t x D,ty,pos,af,g⟩ d (.wp id (i.toNat*en.size)):=
 zY7 H G K hb hi (vM h).2.1 (kZ en l) (vM h).2.2.1
theorem zJC {tt:TypeId} {i:Int} {v: α} {y:DV} (G:d<E.n) (D:OneTy P tt) (K:S.ev x= .wp id (i.toNat*en.size)) (hb:S.blk id= .win e en.size k (en.all l)) (H:zV l i=some v) (h:(en.cells v)[0]? =some y):
  AOp P r E S ⟨some d,.load tt x,ty,pos,af,g⟩ d (.d y):=
 z5G G D K hb (by have:=zRC en (vM H).2.2.2 0 (by rw[<-en.len v];exact(c9.1 h).1);rw[fH] at this;rw[this];exact h)
theorem zU6 {hi:Operand} {G:IntKind} {b:Int} (O:d<E.n) (K:SlTy P t e en.size bytes z) (T:S.ev x= .row id) (hb:S.blk id= .win e en.size k (en.all l)) (D:S.ev hi= .d (.v (.int G b))) (h:slc l 0 b=some l'):
  AOp P r E S ⟨some d,.slice t x none (some hi) none,ty,pos,af,g⟩ d (.ws id 0 b.toNat false):=by
 obtain⟨rfl,Y,Z,H⟩:=zAX h;have:=zQH (P:=P) (r:=r) (ty:=ty) (pos:=pos) (af:=af) (g:=g) O K T hb (kZ en l) (lo:=none) (hi:=some hi) (l:=0) (h:=b.toNat) ⟨rfl,⟨G,b,D,by omega⟩,by omega,H⟩;simpa only[gz,Nat.sub_zero] using this
theorem zY9 {lo hi:Operand} {H K:IntKind} {a b:Int} (Y:d<E.n) (T:SlTy P t e en.size bytes z) (Z:S.ev x= .row id) (hb:S.blk id= .win e en.size k (en.all l)) (G:S.ev lo= .d (.v (.int H a))) (D:S.ev hi= .d (.v (.int K b))) (h:slc l a b=some l'):
  AOp P r E S ⟨some d,.slice t x (some lo) (some hi) none,ty,pos,af,g⟩ d (.ws id (a.toNat*en.size) (b.toNat-a.toNat) false):=by
 obtain⟨rfl,h1,h2,O⟩:=zAX h;exact zQH Y T Z hb (kZ en l) (lo:=some lo) (hi:=some hi) (l:=a.toNat) (h:=b.toNat) ⟨⟨H,a,G,by omega⟩,⟨K,b,D,by omega⟩,by omega,O⟩
theorem z5K {hi H:Operand} {Z k3:IntKind} {b:Int} (T:d<E.n) (O:SlTy P t e en.size bytes z) (Y:S.ev x= .row id) (hb:S.blk id= .win e en.size k (en.all l)) (D:S.ev hi= .d (.v (.int Z b))) (G:S.ev H= .d (.v (.int k3 b))) (h:slc l 0 b=some l'):
  AOp P r E S ⟨some d,.slice t x none (some hi) (some H),ty,pos,af,g⟩ d (.ws id 0 b.toNat true):=by
 obtain⟨rfl,h1,h2,K⟩:=zAX h;exact zWH T O Y hb (kZ en l) D G (by omega) K
theorem View.front {b:Int} {tt:Bool} (hb:S.blk id= .win e en.size k (en.all l)) (h:slc l 0 b=some l'):View S (.ws id 0 b.toNat tt) (zN en l'):=by
 obtain⟨rfl,G,H,K⟩:=zAX h;have:=View.ws (off:=0) (n:=b.toNat) (tt:=tt) hb (kZ en l) (by omega);simp only[gz,et] at this;have D:en.all ((l.take b.toNat).drop (0:Int).toNat)=(en.all l).take (b.toNat*en.size):=by simp[zBR]
 unfold zN;rw[D];exact this
theorem zZA {tt:TypeId} {y:Operand} {i:Int} {v: α} {u:DV} {w0: α} (hT:OneTy P tt) (O:S.ev x= .wp id (i.toNat*en.size)) (hb:S.blk id= .win e en.size 0 (en.all l)) (h:en.size=1) (hi:zV l i=some w0) (K:uV l i v=some l') (hy:S.ev y= .d u) (hu:en.cells v= [u]) (Y:(AV.d u).one=true) (hE:E.wrB=true):
  jA P r E ⟨none,.store tt x y,ty,pos,af,g⟩ S (S.setBlk id (.win e en.size 0 (en.all l'))):=by
 obtain⟨rfl,Z,h3⟩:=zLT K;have H:=kZ en l;rw[h,gC] at H;have G:S.ev x= .wp id i.toNat:=by rw[O,h,gC]
 have:=z1C (P:=P) (r:=r) (ty:=ty) (pos:=pos) (af:=af) (g:=g) hT G hb (by omega) (by omega) hy Y hE;have T:en.all (l.set i.toNat v)=(en.all l).set i.toNat u:=by
  unfold En.all;clear hi O G H hb K this Z h3
  induction l generalizing i with
  | nil=>rfl
  | cons a l ih=>
   have ha:(en.cells a).length=1:=by rw[en.len,h]
   match D:en.cells a,ha with
   | [q],_=>
    cases hi:i.toNat with
    | zero=>simp[D,hu]
    | succ j=>
     have:=ih (i:=(j:Int));simp only[Int.toNat_natCast] at this;simp only[List.set_cons_succ,ek,D,this,im,List.set_cons_succ]
 rw[T];exact this
def cpM (l:List α) (a1 b1 a2 b2:Int):List α:=l.take a1.toNat++((l.drop a2.toNat).take (b2.toNat-a2.toNat)).take (min (b2.toNat-a2.toNat) (b1.toNat-a1.toNat))++l.drop (a1.toNat+(((l.drop a2.toNat).take (b2.toNat-a2.toNat)).take (min (b2.toNat-a2.toNat) (b1.toNat-a1.toNat))).length)
theorem yC9 {y:Operand} {a1 b1 a2 b2:Int} {l1 l2:List α} {t1 t2:Bool} (G:d<E.n) (hT:SlTy P t e en.size bytes z) (hx:S.ev x= .ws id (a1.toNat*en.size) (b1.toNat-a1.toNat) t1) (hb:S.blk id= .win e en.size 0 (en.all l)) (hy:S.ev y= .ws id (a2.toNat*en.size) (b2.toNat-a2.toNat) t2)
  (T:slc l a1 b1=some l1) (Y:slc l a2 b2=some l2) (Z:E.wrB=true):
  jA P r E ⟨some d,.call {callee:= .builtin .copy,args:= #[x,y],argTypes:= #[t,t]},ty,pos,af,g⟩ S ((S.setBlk id (.win e en.size 0 (en.all (cpM l a1 b1 a2 b2)))).put d .top):=by
 obtain⟨rfl,p1,p2,p3⟩:=zAX T;obtain⟨rfl,q1,q2,q3⟩:=zAX Y;have:=z5H (P:=P) (r:=r) (ty:=ty) (pos:=pos) (af:=af) (g:=g) G hT hx hb (kZ en l) hy (g7 _) (by omega) (by omega) Z;have O:spl (en.all l) (a1.toNat*en.size) ((((en.all l).drop (a2.toNat*en.size)).take ((b2.toNat-a2.toNat)*en.size)).take (min (b2.toNat-a2.toNat) (b1.toNat-a1.toNat)*en.size))=en.all (cpM l a1 b1 a2 b2):=by
  rw[zD1,zBR,zBR];unfold spl cpM;rw[kZ,zBR,<-eG,zD1,<-zJA,<-zJA]
 rw[O] at this;intro a w K Q hs hk;refine this a w K Q hs λH w' ⟨I,ρ,C,h⟩=>hk H w' ⟨I,ρ,C,⟨λu=>?_,h.blks,h.dist,by have:=h.frame;rw[zBX _ _ G] at this ⊢;exact this,h.sub,h.old,h.size,h.defers,h.cI,h.cB,h.nm⟩⟩
 have q:=h.tmps u;rw[zAE] at q ⊢;by_cases D:d=u
 ·simp only[D,dH];trivial
 ·simp only[D,cY] at q ⊢;exact q
theorem z5L {s:Operand} {b:Int} {T m:List α} (hn:d<E.n) (Z:SlTy P t e en.size bytes z) (hs:S.ev s= .ws id 0 b.toNat true) (hb:S.blk id= .win e en.size k (en.all l)) (O:slc l 0 b=some T) (hx:S.ev x= .d (zN en m)) (hm:m.length≠0) (ha:app T m=some l') (G:bytes<=32768) (K:E.nm d=none):
  jA P r E ⟨some d,.call {callee:= .builtin .append,args:= #[s,x],argTypes:= #[t,t]},ty,pos,af,g⟩ S (((S.kill d).setBlk d (.row e en.size false (en.all l'))).put d (.row d)):=by
 obtain⟨rfl,p1,p2,p3⟩:=zAX O;obtain⟨rfl,D⟩:=zOC ha;have H:((l.take b.toNat).drop (0:Int).toNat).length=b.toNat:=by simp;omega
 rw[H] at D;have:=zY8 (P:=P) (r:=r) (ty:=ty) (pos:=pos) (af:=af) (g:=g) (off:=0) (h:=b.toNat) hn Z (by rw[gz];exact hs) hb (kZ en l) (by omega) hx (kZ en m) (by omega) (by unfold LIM at D;unfold maxLen;omega) (by
  have O:(b.toNat+m.length)*bytes<=4294967296*bytes:=dY _ D;have h2:4294967296*bytes<=4294967296*32768:=hQ _ G;omega) K
 have Y:en.all ((l.take b.toNat).drop (0:Int).toNat++m)=((en.all l).drop (0*en.size)).take (b.toNat*en.size)++en.all m:=by
  rw[zJA];simp[zBR]
 rw[Y];exact this
theorem z1E {tm:Nat} {b:Int} {tt:Bool} (H:tm<E.n) (K:S.get tm= .ws id 0 b.toNat tt) (hb:S.blk id= .win e en.size 0 (en.all l)) (h:slc l 0 b=some l'):
  zES E S ((S.setBlk id (.win e en.size b.toNat (en.all l))).put tm (.d (zN en l'))):=by
 obtain⟨rfl,O,T,G⟩:=zAX h;have:=z5J (E:=E) (S:=S) b.toNat H K hb (kZ en l) G (g7 _) (dF _);have D:en.all ((l.take b.toNat).drop (0:Int).toNat)=(en.all l).take (b.toNat*en.size):=by simp[zBR]
 unfold zN;rw[D];exact this
theorem z8H {H:Operand} {kk:IntKind} {a:Int} (Y:d<E.n) (O:SlTy P t e en.size bytes z) (Z:S.ev x= .row id) (hb:S.blk id= .win e en.size k (en.all l)) (D:S.ev H= .d (.v (.int kk a))) (h:slc l a l.length=some l') (T:k<=a.toNat) (G:E.nm id=none):
  jA P r E ⟨some d,.slice t x (some H) none none,ty,pos,af,g⟩ S (((S.kill id).setBlk id (.win e en.size 0 (en.all l'))).put d (.row id)):=by
 obtain⟨rfl,h1,h2,h3⟩:=zAX h;have:=z8G (P:=P) (r:=r) (ty:=ty) (pos:=pos) (af:=af) (g:=g) (l:=a.toNat) Y O Z hb (kZ en l) D (by omega) T (by omega) G;have K:en.all ((l.take (l.length:Int).toNat).drop a.toNat)=(en.all l).drop (a.toNat*en.size):=by simp[zD1]
 rw[K];exact this
end lists
end
open Go.RowKit Go.M
theorem yHW {k:Type} {en:En k} {x: k} {l:List k} (h:0<en.size):en.all (x::l)≠[]:=by intro z;have:=congrArg List.length z;rw[kZ,dP,d6,eG] at this;omega
theorem zKX {P:Program} {z:Type} {w:World} {F: z->PUnit->Sem (ForInStep PUnit)}:∀(k:List z),(∀f∈k,(F f ()).run P w= .ok (.yield ()) w)->(forIn k () F).run P w= .ok () w
 | [],_=>by simp
 | f::k,h=>by
  have G:=zKX k λg D=>h g (by simp[D]);rw[List.forIn_cons];simp only[cW,h f (by simp),cX,G]
def zRF:TypeDesc->Bool
 | .int _ | .string | .bool=>true
 | _=>false
theorem zQI {P:Program} {t:TypeId} {ds:TypeDesc} (k:P.underlying t=some ds) (h:zRF ds=true) (v:Value) (n:Nat) (b:Bool) (w:World):(Instr.checkKey b (n+1) t v).run P w= .ok () w:=by
 simp only[Instr.checkKey,cW,dL k,cX];cases ds<;>first | (simp[zRF] at h;done) | (cases v<;>rfl)
theorem z5M {P:Program} {D e:TypeId} {n:Nat} {zs vals:List Value} {ds:TypeDesc} (G:ArTy P D n 1 e zs) (K:OneTy P e) (T:P.underlying e=some ds) (O:zRF ds=true) (H:vals.length=n) (b:Bool) (w:World):(Instr.checkKey b 10000 D (.agg vals.toArray)).run P w= .ok () w:=by
 show (Instr.checkKey b (9999+1) D (.agg vals.toArray)).run P w=_;rw[Instr.checkKey];simp only[cW,dL G.und,cX];rw[Std.Legacy.Range.forIn_eq_forIn_range'];have z:(Std.Legacy.Range.size [0:n])=n:=by simp[Std.Legacy.Range.size]
 simp only[z];rw[<-gE];refine(congrArg (λq=>Result.andThen q _) (zKX _ λi hi=>?_)).trans (by simp);have k:i<n:=fO.1 hi;have h:(part e vals.toArray i).run P w= .ok (vals[i]'(by omega)) w:=zGS K.agg (by simp[H,k]) w;simp only[cW,G.size w,cX,gC,h];have:=zQI T O (vals[i]'(by omega)) 9998 b w;simp only[show (9998+1)=9999 from rfl] at this;simp[this]
theorem z1F {P:Program} {D:TypeId} {h:Array Field} {vals:List Value} (Y:P.underlying D=some (.struct h))
  (T:∀f∈h.toList,OneTy P f.type/\(∃ds,P.underlying f.type=some ds/\zRF ds=true)/\f.offset<vals.length) (b:Bool) (w:World):(Instr.checkKey b 10000 D (.agg vals.toArray)).run P w= .ok () w:=by
 show (Instr.checkKey b (9999+1) D (.agg vals.toArray)).run P w=_;rw[Instr.checkKey];simp only[cW,dL Y,cX];rw[<-Array.forIn_toList];refine(congrArg (λq=>Result.andThen q _) (zKX _ λf hi=>?_)).trans (by simp);obtain⟨H,⟨ds,K,O⟩,z⟩:=T f hi;have:=zQI K O (vals[f.offset]'z) 9998 b w;simp only[show (9998+1)=9999 from rfl] at this;have k:(part f.type vals.toArray f.offset).run P w= .ok (vals[f.offset]'z) w:=zGS H.agg (by simp[z]) w;by_cases G:f.name= "_"
 ·simp[G]
 ·simp only[ne_eq,G,not_false_eq_true,dH,cW,k,cX,this]
  rfl
section
variable {P:Program} {r:Option Nat} {E:Env} {S:AState} {d:Nat} {ty:TypeId} {pos:String} {af:Array Edge} {g:Option (Nat×Bool)}
theorem zTZ {bid eb off:Nat} {cells:List AV} (size:Nat) (hb:S.blk bid= .box eb cells) (D:cells[off]? =some (.d (.v (.slice none 0 0)))):zES E S (S.setBlk bid (.box eb (cells.set off (.d (.sl size []))))):=by
 rintro a w ⟨I,ρ,C,h⟩
 refine⟨I,ρ,C,h.rebox (eb:=eb) (cells:=cells) hb λxs G=>G.set_right D λx k=>?_⟩;have z:Rep w I x (.v (.slice none 0 0)):=k;cases z;exact Rep.nil _ _ _
theorem yDA {t e bytes:Nat} {z:Value} {x y:Operand} {id eb:Nat} {q x0 x1 x2 x3 x4 x5 x6 x7:Int} {l:List Int} (H:d<E.n) (G:SlTy P t e eI.size bytes z) (K:S.ev x= .rs id 1 8)
  (hb:S.blk id= .box eb [.d (di q),.d (di x0),.d (di x1),.d (di x2),.d (di x3),.d (di x4),.d (di x5),.d (di x6),.d (di x7)]) (O:S.ev y= .d (zN eI l)) (D:E.wrB=true):
  jA P r E ⟨some d,.call {callee:= .builtin .copy,args:= #[x,y],argTypes:= #[t,t]},ty,pos,af,g⟩ S
   ((S.setBlk id (.box eb [.d (di q),.d (di (cpA l 0 x0)),.d (di (cpA l 1 x1)),.d (di (cpA l 2 x2)),.d (di (cpA l 3 x3)),.d (di (cpA l 4 x4)),.d (di (cpA l 5 x5)),.d (di (cpA l 6 x6)),.d (di (cpA l 7 x7))])).put d (.d (.v (.int .i64 (min l.length 8:Nat))))):=by
 have h:(eI.all l).length=l.length:=by rw[kZ];exact gC _
 have:=z1B (P:=P) (r:=r) (ty:=ty) (pos:=pos) (af:=af) (g:=g) H G K hb (by simp) (by omega) O h D;have k:=yM5 l q x0 x1 x2 x3 x4 x5 x6 x7;simp only[ey,fF] at k;rw[k] at this;exact this
end
open Go.RowKit Go.M
def QJ (E:Env) (J:AState->Prop):Exit->Act->World->Prop
 | .normal,a,w=> ∃S,J S/\Sat E S a w
 | _,_,_=>False
def zEV (P:Program) (r:Option Nat) (E:Env) (l:List Oper) (J:AState->Prop) (fuel:Nat) (listed:List Bool) (S:AState):Prop:=
 ∀a w,Sat E S a w->wpAnyIn (fen r) 0 P .any l.toArray (QJ E J) fuel listed.toArray a w
def AnyE (P:Program) (r:Option Nat) (E:Env) (l:List Oper) (J:AState->Prop) (fuel:Nat) (listed:List Bool) (S:AState):List Nat->Prop
 | []=>True
 | i::is=>(∃o S',l[i]? =some o/\zX8 P r E l.toArray o S S'/\zEV P r E l J fuel (listed.set i true) S')/\AnyE P r E l J fuel listed S is
section
variable {P:Program} {r:Option Nat} {E:Env} {l:List Oper} {J:AState->Prop} {fuel:Nat} {listed:List Bool} {S:AState}
theorem AnyE.mem:∀{is:List Nat} {i:Nat},AnyE P r E l J fuel listed S is->i∈is->∃o S',l[i]? =some o/\zX8 P r E l.toArray o S S'/\zEV P r E l J fuel (listed.set i true) S'
 | [],_,_,h=>by cases h
 | k::is,i,h,hi=>by
  rcases dN.1 hi with e | hi;subst e;exact h.1;exact AnyE.mem h.2 hi
def rdy (l:List Oper) (h:List Bool):List Nat:=(List.range l.length).filter λi=>!h.getD i true&&(match l[i]? with | none=>true | some o=>(aft o).all λj=>h.getD j false)
theorem zWJ {i:Nat} (h:i∈Region.ready .any l.toArray listed.toArray):i∈rdy l listed:=by
 obtain⟨z,G,H⟩:=zI6 h;simp only[rdy,fA,fO,dM,fW];have e:∀k b,listed.toArray.getD k b=listed.getD k b:=λk b=>by simp[dJ,fG]
 refine⟨z,by rw[<-e];exact G,?_⟩
 have D:=cV z;rw[D];simp only[eC];intro j K;rw[<-e];exact H _ D j K
theorem zWK {i:Nat} (h:(rdy l listed).contains i=true):i∈Region.ready .any l.toArray listed.toArray:=by
 have h:=List.contains_iff_mem.1 h;simp only[rdy,fA,fO,dM,fW] at h;have e:∀k b,listed.toArray.getD k b=listed.getD k b:=λk b=>by simp[dJ,fG]
 obtain⟨G,H,z⟩:=h;have D:=cV G;rw[D] at z;simp only[eC] at z;exact zYG D (by rw[e];exact H) λj K=>by rw[e];exact z j K
theorem zRG (h:List Bool) (i:Nat):h.toArray.setIfInBounds i true=(h.set i true).toArray:=by simp
theorem yDB (D:rdy l listed= []) (h:J S):zEV P r E l J fuel listed S:=by
 intro a w z;have k:Region.ready .any l.toArray listed.toArray= []:=List.eq_nil_iff_forall_not_mem.2 λi hi=>by have:=zWJ hi;rw[D] at this;cases this
 cases fuel with
 | zero=>exact⟨k,S,h,z⟩
 | succ n=>exact⟨λ_=>⟨S,h,z⟩,λi hi=>by rw[k] at hi;cases hi⟩
theorem yK7 (is:List Nat) (G:rdy l listed=is) (z:is.isEmpty=false) (h:AnyE P r E l J fuel listed S is):zEV P r E l J (fuel+1) listed S:=by
 intro a w Y;refine⟨λe=>?_,λi hi=>?_⟩;cases is with
 | nil=>cases z
 | cons k is=>
  have:=zWK (l:=l) (listed:=listed) (i:=k) (by rw[G];simp)
  rw[e] at this;cases this
 have hi:=zWJ hi;rw[G] at hi;obtain⟨o,S',K,O,T⟩:=h.mem hi;unfold wpOpIn;simp only[eW,K];refine O a w _ _ Y λH w' D=>?_;rw[zRG];exact T H w' D
theorem z2O:AnyE P r E l J fuel listed S []:=trivial
theorem yF8 {i:Nat} {is:List Nat} {o:Oper} {S':AState} (D:l[i]? =some o) (z:o.guard=none) (h:jA P r E o S S') (k:zEV P r E l J fuel (listed.set i true) S') (G:AnyE P r E l J fuel listed S is):AnyE P r E l J fuel listed S (i::is):=
 ⟨⟨o,S',D,zN7 z h,k⟩,G⟩
theorem yF9 {i d:Nat} {is:List Nat} {o:Oper} {x:AV} (D:l[i]? =some o) (z:o.guard=none) (h:AOp P r E S o d x) (k:zEV P r E l J fuel (listed.set i true) (S.put d x)) (G:AnyE P r E l J fuel listed S is):AnyE P r E l J fuel listed S (i::is):=
 ⟨⟨o,_,D,zN7 z h.step,k⟩,G⟩
def z5N (l:List Oper) (listed:List Bool) (i:Nat) (oi:Oper):Bool:=
 (List.range l.length).all λj=>Nat.beq j i ||listed.getD j true ||(match l[j]? with
  | none=>true
  | some h=>(aft h).contains i ||oi.apart l.toArray h)
def zU7 (l:List Oper):Bool:=l.all λo=>match o.op with | .select _ _=>false | _=>true
theorem zLX {i d:Nat} {oi:Oper} {x:AV} (hr:r=none) (hi:l[i]? =some oi) (hg:oi.guard=none) (hd:oi.dst=some d) (G:zU7 l=true) (H:z5N l listed i oi=true) (Z:(rdy l listed).contains i=true)
  (hy:∀a w,Sat E S a w->∃v,(∀w',(execOp a.eval oi).run P w'= .ok (.value v) w')/\(∀w',oi.about P w' a.eval=none)/\Sat E (S.put d x) (a.put (some d) v) w) (k:zEV P r E l J fuel (listed.set i true) (S.put d x)):zEV P r E l J (fuel+1) listed S:=by
 subst hr;intro a w hs;obtain⟨v,h1,h2,h3⟩:=hy a w hs;have K:l.toArray[i]? =some oi:=by simpa using hi
 refine wpAnyIn_first (i:=i) (oi:=oi) (v:=v) rfl K (λj o cs b ho e=>?_) (λc a w h=>h.elim) fuel listed.toArray a w (λj oj hj Y hl D=>?_) (zWK Z) ⟨.inl ⟨?_,h1⟩,h2⟩ (by rw[hd,zRG];exact k _ w h3)
 ·have:=eC.1 G o (eT (by simpa using ho))
  rw[e] at this;cases this
 ·have z:l[j]? =some oj:=by simpa using hj
  have T:=(c9.1 z).1;have:=eC.1 H j (fO.2 T);have O:listed.getD j true=false:=by rw[<-hl];simp[dJ,fG]
  simp only[fU,g4,O,z] at this;rcases this with (h | h) | h | h
  ·exact absurd h Y
  ·cases h
  ·exfalso
   have h:=List.contains_iff_mem.1 h;simp only[aft,eJ,fA] at h;obtain⟨q,⟨hq,hb⟩,he⟩:=h;exact D q (by simpa using hq) hb he
  ·exact h
 ·unfold Region.wanted
  rw[hg]
section
variable {d:Nat} {ty:TypeId} {pos:String} {af:Array Edge} {x:Operand}
theorem z8I {i:Nat} (hi:l[i]? =some ⟨some d,.move x,ty,pos,af,none⟩) (H:d<E.n) (K:r=none) (h:zU7 l=true) (z:z5N l listed i ⟨some d,.move x,ty,pos,af,none⟩=true) (D:(rdy l listed).contains i=true)
  (k:zEV P r E l J fuel (listed.set i true) (S.put d (S.ev x))):zEV P r E l J (fuel+1) listed S:=
 zLX K hi rfl rfl h z D (λa w ⟨I,ρ,C,G⟩=>⟨a.eval x,λw'=>by simp[execOp],λw'=>rfl,I,ρ,C,G.put H (G.ev x)⟩) k
theorem zJD {i:Nat} {y:Operand} {tx tz:TypeId} {a b:Int} (hi:l[i]? =some ⟨some d,.binOp .sub tx x y tz,ty,pos,af,none⟩) (H:d<E.n) (O:S.ev x= .d (.v (.int .i64 a))) (T:S.ev y= .d (.v (.int .i64 b))) (K:r=none) (h:zU7 l=true) (z:z5N l listed i ⟨some d,.binOp .sub tx x y tz,ty,pos,af,none⟩=true) (D:(rdy l listed).contains i=true)
  (k:zEV P r E l J fuel (listed.set i true) (S.put d (.d (.v (.int .i64 (wi (a-b))))))):zEV P r E l J (fuel+1) listed S:=
 zLX K hi rfl rfl h z D (λA w ⟨I,ρ,C,G⟩=>⟨.int .i64 (wi (a-b)),λw'=>by
  simp only[execOp,G.val O,G.val T];simp[binOp,eqGuard,Op.intArith,wi],λw'=>rfl,I,ρ,C,SatAt.put (x:= .d (.v _)) G H (Rep.v _)⟩) k
theorem zLY {i:Nat} {y:Operand} {tx tz:TypeId} {a b:Int} (hi:l[i]? =some ⟨some d,.binOp .add tx x y tz,ty,pos,af,none⟩) (H:d<E.n) (O:S.ev x= .d (.v (.int .i64 a))) (T:S.ev y= .d (.v (.int .i64 b))) (K:r=none) (h:zU7 l=true) (z:z5N l listed i ⟨some d,.binOp .add tx x y tz,ty,pos,af,none⟩=true) (D:(rdy l listed).contains i=true)
  (k:zEV P r E l J fuel (listed.set i true) (S.put d (.d (.v (.int .i64 (wi (a+b))))))):zEV P r E l J (fuel+1) listed S:=
 zLX K hi rfl rfl h z D (λA w ⟨I,ρ,C,G⟩=>⟨.int .i64 (wi (a+b)),λw'=>by
  simp only[execOp,G.val O,G.val T];simp[binOp,eqGuard,Op.intArith,wi],λw'=>rfl,I,ρ,C,SatAt.put (x:= .d (.v _)) G H (Rep.v _)⟩) k
theorem zU8 {α:Type} {en:En α} {D:List α} {i t e bytes:Nat} {z:Value} {ix:Operand} {kk:IntKind} {q:Int} {v: α} (hi:l[i]? =some ⟨some d,.indexAddr t x ix,ty,pos,af,none⟩) (hn:d<E.n) (O:SlTy P t e en.size bytes z) (hx:S.ev x= .d (zN en D)) (Y:S.ev ix= .d (.v (.int kk q))) (hv:zV D q=some v)
  (hr:r=none) (K:zU7 l=true) (T:z5N l listed i ⟨some d,.indexAddr t x ix,ty,pos,af,none⟩=true) (ac:(rdy l listed).contains i=true)
  (k:zEV P r E l J fuel (listed.set i true) (S.put d (.ip (en.all D) (q.toNat*en.size)))):zEV P r E l J (fuel+1) listed S:=
 zLX hr hi rfl rfl K T ac (λA w ⟨I,ρ,C,hs⟩=>by
  have h:=hs.ev x;rw[hx] at h;obtain⟨B,n,c,xs,ag,_,hl,ab,h1,G⟩:=Rep.sl_inv h;have aa:n=D.length:=zFW hl (kZ en D) O.pos;subst aa;have hq:=(vM hv).2.1;have Z:=(vM hv).2.2.1;obtain⟨b,off,rfl,hc⟩:=G (by omega);have H:=hs.val Y;refine⟨.pointer (some ⟨b,off+q.toNat*en.size,none⟩),λw'=>?_,λw'=>rfl,I,ρ,C,hs.put hn ⟨b,off,xs,rfl,ab,h1,hc⟩⟩;rw[hq] at H;simp only[execOp,ag,H,cW,zHE w' O.und (O.size w') b off D.length c kk q.toNat Z];rfl) k
end
theorem zE7 {id:Nat} {K:Exit->AState->Prop} (D:P.follows .mixedOrders=true) (h:zEV P r E l (K .normal) l.length (List.replicate l.length false) S):Avc P r E (.region id l.toArray true) K S:=by
 intro a w G;have z:=h a {w with drawn:=w.drawn+1} (zYF G);refine gR (wpIn_region_any (Q:=QJ E (K .normal)) D (by simpa[<-List.toArray_replicate] using z)) ?_;intro e H w' k;cases e with
 | normal=>exact k
 | _=>exact k.elim
end
open Go.RowKit Go.M
def CapsOf:List AV->List Cap->Prop
 | [],cs=>cs= []
 | x::xs,cs=> ∃c ds,cs=c::ds/\CapOf x c/\CapsOf xs ds
section
variable {P:Program} {r:Option Nat} {E:Env} {S:AState} {d:Nat} {ty:TypeId} {pos:String} {af:Array Edge} {g:Option (Nat×Bool)}
theorem CapsOf.holds {w:World} {I:Im} {ρ:Nat->Value}:∀{vs:List Value} {xs:List AV} {cs:List Cap},CapsOf xs cs->Pw (Holds w I ρ) vs xs->Pw (HoldsC w I ρ) vs cs
 | [],[],cs,h,_=>by cases h;exact Pw.nil
 | [],x::xs,cs,_,k=>by have:=k.1;simp at this
 | v::vs,[],cs,_,k=>by have:=k.1;simp at this
 | v::vs,x::xs,cs,⟨c,ds,e,z,D⟩,k=>by
  subst e;obtain⟨q1,q2⟩:=zF7 k;exact Pw.cons (z.holds q1) (CapsOf.holds D q2)
theorem zPN {f:FuncId} {h:List Operand} {cs:List Cap} (z:d<E.n) (k:CapsOf (h.map S.ev) cs):
  AOp P r E S ⟨some d,.makeFunc (.func f) #[] h.toArray,ty,pos,af,g⟩ d (.clo f cs):=
 ⟨rfl,z,λS' D=>zQ rfl z (by simp) λA w I ρ C H=>by
  have G:h.map S'.ev=h.map S.ev:=fS λx K=>D.ev (by simp[Op.operands];simpa using K)
  rw[<-G] at k;exact⟨.func (.func f) #[] (h.map A.eval).toArray,by simp[execOp,Instr.makeFunc],_,rfl,k.holds (uB H h)⟩⟩
theorem zKY {t:TypeId} {x y:Operand} {id off eb:Nat} {cells:List AV} {av:AV} (D:OneTy P t) (H:S.ev x= .ptr id off) (hb:S.blk id= .box eb cells) (h:off<cells.length) (K:S.ev y=av) (k:av.one=true) (G:zQA S av=true) (z:E.wrB=true):
  jA P r E ⟨none,.store t x y,ty,pos,af,g⟩ S (S.setBlk id (.box eb (cells.set off av))):=by
 subst K;exact zGL D H hb h k G z
theorem z1G {a t id e b u h k:Nat} {x y:DV} (z:(S.get a).un= .ptr id 0) (D:S.blk id= .box e [.d x]) (G:OneTy P t) (K:(S.get b).un= .ptr h 0) (O:S.blk h= .box k [.d y]) (H:OneTy P u):RetS P S [.cell a t,.cell b u] [x,y]:=
 ⟨_,_,id,e,_,rfl,z,D,.inl ⟨G,_,rfl,rfl⟩,_,_,h,k,_,rfl,K,O,.inl ⟨H,_,rfl,rfl⟩,rfl⟩
end
open Go.RowKit Go.M
theorem BlkOk.lt {w:World} {I:Im} {ρ:Nat->Value} {M:Nat->Prop} {i b:Nat} {x:Blk} (h:BlkOk w I ρ M i x) (Y:x≠ .none) (hb:blockOf (ρ i)=some b):b<w.heap.size:=by
 cases x with
 | none=>exact absurd rfl Y
 | row e size sh cells=>
  obtain⟨hM,n,xs,hl,K,_⟩:=h;rcases K.2 with ⟨hn,_⟩ | ⟨g,aa,ab,z,O,D,_⟩;rw[hn] at hb;simp[blockOf] at hb;rw[z] at hb;simp[blockOf] at hb;subst hb;exact(cU.1 D).1
 | box e cells=>
  obtain⟨T,arr,z,O,D,_⟩:=h;rw[z] at hb;simp[blockOf] at hb;subst hb;exact(cU.1 D).1
 | it es q=>
  obtain⟨T,bm,ents,G,Z,z,O,D,_⟩:=h;rw[z] at hb;simp[blockOf] at hb;subst hb;exact(cU.1 D).1
 | map es=>
  obtain⟨T,ents,G,z,O,D,_⟩:=h;rw[z] at hb;simp[blockOf] at hb;subst hb;exact(cU.1 D).1
 | win e size k cells=>
  obtain⟨A,n,c,xs,z,_,_,_,_,_,H⟩:=h;rcases H with ⟨H,_⟩ | ⟨T,off,arr,H,O,D,_⟩;rw[z,H] at hb;simp[blockOf] at hb;rw[z,H] at hb;simp[blockOf] at hb;subst hb;exact(cU.1 D).1
open Go.RowKit Go.M
section
variable {P:Program} {r:Option Nat} {E:Env} {S:AState} {d ty:Nat} {pos:String} {af:Array Edge} {g:Option (Nat×Bool)}
theorem zSR {z:Type} {c ys:List z} {off n N:Nat} (h:ys.length=n) (D:off+n<=N) (G:N<=c.length):(c.take off++ys++c.drop (off+n)).take N=(c.take N).take off++ys++(c.take N).drop (off+n):=by
 have k:(c.take off++ys).length=off+n:=by simp;omega
 rw[List.take_append,gA (by omega),k,List.take_take,gV (by omega),List.drop_take]
theorem zQW {t n:Nat} {x y:Operand} {id off e size:Nat} {cells ds:List DV} (hT:AggTy P t n) (hx:S.ev x= .ptr id off) (hb:S.blk id= .row e size false cells) (bk:off+n<=cells.length)
  (hy:S.ev y= .d (.agg ds)) (aq:ds.length=n) (hE:E.wrB=true):
  jA P r E ⟨none,.store t x y,ty,pos,af,g⟩ S (S.setBlk id (.row e size false (cells.take off++ds++cells.drop (off+n)))):=
 zER rfl (by simp) λA w I ρ C hs=>by
  have h:=hs.ev x;rw[hx] at h;obtain⟨b,z,hv⟩:=h;have Z:=hs.blks id;rw[hb] at Z;obtain⟨h0,n',xs,hl,G,Y,ar,hI⟩:=Z;have ai:=hs.ev y;rw[hy] at ai;have H:Rep w I (A.eval y) (.agg ds):=ai;generalize he:A.eval y=vy at H;cases H with
  | agg ys aj aa h1 hr=>
   have aw:Reps w I ys ds:=⟨aa,hr⟩;rcases G.2 with ⟨T,_⟩ | ⟨K,am,k,T,hB,hh,ab,ao,ap,ay⟩
   ·rw[T] at z;cases z
   ·have an:K=b:=by rw[T] at z;simpa[blockOf] using z
    subst an;have D:∀j,¬I K j:=λj hj=>by have:=(hI K j (by rw[T];rfl) hj).1;cases this
    have bp:xs.length=n'*size:=G.1;have bc:cells.length<=k.size:=by rw[ap,hl];exact dY _ ab
    have ah:ys.length=n:=by rw[aa];exact aq
    have ax:=zR3 (P:=P) w hT (b:=K) (off:=off) (vs:=ys) hh (by omega) ah h1;have bn:cells.length=n'*size:=hl;refine⟨_,?_,I,ρ,C,hs.modify (zAV w K (k.toList.take off++ys++k.toList.drop (off+n)).toArray) (by rw[hb];simp) z (wO D) ⟨h0,n',xs.take off++ys++xs.drop (off+n),by simp;omega,⟨by simp;omega,.inr ⟨K,am,_,T,hB,ic w K k _ e _ hh,ab,ao,?_,?_⟩⟩,?_,?_,?_⟩ hE⟩
    ·simp only[execOp,hv,he,cW,ax]
     rfl
    ·simp;omega
    ·have ad:k.toList.take (n'*size)=xs:=ay
     rw[<-ad];exact zSR ah (by omega) (by simp;omega)
    ·intro v ag
     simp only[eN] at ag;rcases ag with (hu | hu) | hu
     ·exact Y v (eF hu)
     ·exact h1 v hu
     ·exact Y v (eU hu)
    ·have ac:=ar.imp λ_ _ h=>h.mono (wO (arr:=(k.toList.take off++ys++k.toList.drop (off+n)).toArray) D) (λ_ _ h=>h)
     have au:=Reps.mono aw (wO (arr:=(k.toList.take off++ys++k.toList.drop (off+n)).toArray) D) (λ_ _ h=>h);exact((ac.take off).append au).append (ac.drop (off+n))
    ·intro g' j O hi
     rw[T] at O;simp[Value.ownBlock] at O;subst O;exact absurd hi (D j)
theorem z8J {h:Type} (en:En h) (l:List h) (v: h):∀(i:Nat),i<l.length->en.all (l.set i v)=(en.all l).take (i*en.size)++en.cells v++(en.all l).drop (i*en.size+en.size):=by
 induction l with
 | nil=>intro i hi;simp at hi
 | cons a l G=>
  intro i hi;have D:(en.cells a).length=en.size:=en.len a;cases i with
  | zero=>
   simp only[List.set_cons_zero,En.all,ek,gz,ik,dS,eD];rw[List.drop_append_of_le_length (by omega),dE (by omega)];simp
  | succ j=>
   have:=G j (by simpa using hi);simp only[List.set_cons_succ,En.all,ek] at this ⊢;rw[this,eG,Nat.one_mul];rw[List.take_append,List.drop_append,D];rw[gA (l:=en.cells a) (by omega),dE (l:=en.cells a) (by omega)];have k:j*en.size+en.size-en.size=j*en.size:=by omega
   have z:j*en.size+en.size+en.size-en.size=j*en.size+en.size:=by omega
   rw[k,z];simp[dB]
theorem z8K {k:Type} {en:En k} {l z:List k} {e tt:Nat} {x y:Operand} {id:Nat} {i:Int} {v: k} (G:AggTy P tt en.size) (O:S.ev x= .ptr id (i.toNat*en.size)) (hb:S.blk id= .row e en.size false (en.all l)) (T:S.ev y= .d (en.dv v)) (H:en.dv v= .agg (en.cells v))
  (K:uV l i v=some z) (D:E.wrB=true):
  jA P r E ⟨none,.store tt x y,ty,pos,af,g⟩ S (S.setBlk id (.row e en.size false (en.all z))):=by
 obtain⟨rfl,Y,h⟩:=zLT K;rw[z8J en l v i.toNat h];refine zQW G O hb ?_ (by rw[T,H]) (en.len v) D;rw[kZ];have:(i.toNat+1)*en.size<=l.length*en.size:=dY _ h;rw[eG] at this;omega
def Blk.is:Blk->Bool
 | .none=>false
 | _=>true
theorem Blk.is_ne {b:Blk} (h:b.is=true):b≠ .none:=by cases b<;>simp_all [Blk.is]
def nmB (h:List Nat) (σ:List (Nat×Nat)) (keep:List Nat) (T k:List (Nat×Blk)):Bool:=
 σ.all λp=>!h.contains p.2 ||(keep.contains p.1&&((look Blk.none T p.1).is&&(look Blk.none k p.1).is))
theorem zCR {D:Nat->Option (List Value)} {w0:World} {I0:Im} {K:GlI D w0 I0} {Z:Nat->Value} {T0:List (Nat×Blk)} {h:List Nat} {n0:Nat} {Y:n0<=1000000} {f:FuncId} {xs:List Operand} {ats:Array TypeId} {args z:List Cap} {T H:List (Nat×Blk)} {keep:List Nat} (σ:List (Nat×Nat)) (hc:GC P f args T keep z H) (hn:d<n0) (aj:(σ.map Prod.fst).Nodup/\(σ.map Prod.snd).Nodup)
  (G:ArgsAs σ (xs.map S.ev) args) (ad:args.all (Cap.idsLt σ)=true) (ai:z.all (Cap.idsLt σ)=true) (hT:BlksAs S σ T) (ac:zBI σ T=true) (O:zBI σ H=true)
  (ag:zPM S σ T=true) (ah:nmB h σ keep T H=true) (hG:D=zAU P:=by rfl):
  jA P r (Env.gen D w0 I0 K Z T0 h n0 Y) ⟨some d,.call {callee:= .value (.func f),args:=xs.toArray,argTypes:=ats},ty,pos,af,g⟩ S
   (((S.killL (zH8 σ keep H)).setL (renL σ H++zL9 σ T H)).put d ((zMZ z).ren σ)):=
 z2M (E:=Env.gen D w0 I0 K Z T0 h n0 Y) σ hn (zSN aj) G ad ai hT ac O (zKU ag) (λk hk=>by
  have:=eC.1 ah _ (zDS hk);by_cases hc:h.contains (look 0 σ k)=true
  ·simp only[hc,dG,fa,dM] at this
   exact .inr ⟨this.1,Blk.is_ne this.2.1,Blk.is_ne this.2.2⟩
  ·refine .inl ?_
   show (if h.contains (look 0 σ k)=true then _ else _)=_;rw[dQ hc]) hc rfl hG
theorem zRH {f:FuncId} {xf:Operand} {cs:List Cap} {xs:List Operand} {ats:Array TypeId} {args h:List Cap} {T D:List (Nat×Blk)} {keep:List Nat} (σ:List (Nat×Nat)) (hc:GC P f args T keep h D) (hn:d<E.n) (ab:(σ.map Prod.fst).Nodup/\(σ.map Prod.snd).Nodup) (aa:S.ev xf= .clo f cs)
  (z:ArgsAs σ (xs.map S.ev++cs.map Cap.av) args) (K:args.all (Cap.idsLt σ)=true) (Z:h.all (Cap.idsLt σ)=true) (hT:BlksAs S σ T) (H:zBI σ T=true) (G:zBI σ D=true)
  (O:zPM S σ T=true) (Y:∀k,E.nm k=none) (hE:E.wrB=true) (hG:E.gdt=zAU P:=by rfl):
  jA P r E ⟨some d,.call {callee:= .value xf,args:=xs.toArray,argTypes:=ats},ty,pos,af,g⟩ S
   (((S.killL (zH8 σ keep D)).setL (renL σ D++zL9 σ T D)).put d ((zMZ h).ren σ)):=
 zYU σ hn (zSN ab) aa z K Z hT H G (zKU O) (λk _=> .inl (Y _)) hc hE hG
theorem zZB {D:Nat->Option (List Value)} {w0:World} {I0:Im} {K:GlI D w0 I0} {Z:Nat->Value} {T0:List (Nat×Blk)} {h:List Nat} {n0:Nat} {Y:n0<=1000000} {f:FuncId} {xf:Operand} {cs:List Cap} {xs:List Operand} {ats:Array TypeId} {args z:List Cap} {T H:List (Nat×Blk)} {keep:List Nat} (σ:List (Nat×Nat)) (hc:GC P f args T keep z H) (hn:d<n0) (ak:(σ.map Prod.fst).Nodup/\(σ.map Prod.snd).Nodup) (aj:S.ev xf= .clo f cs)
  (G:ArgsAs σ (xs.map S.ev++cs.map Cap.av) args) (ad:args.all (Cap.idsLt σ)=true) (ai:z.all (Cap.idsLt σ)=true) (hT:BlksAs S σ T) (ac:zBI σ T=true) (O:zBI σ H=true)
  (ag:zPM S σ T=true) (ah:nmB h σ keep T H=true) (hG:D=zAU P:=by rfl):
  jA P r (Env.gen D w0 I0 K Z T0 h n0 Y) ⟨some d,.call {callee:= .value xf,args:=xs.toArray,argTypes:=ats},ty,pos,af,g⟩ S
   (((S.killL (zH8 σ keep H)).setL (renL σ H++zL9 σ T H)).put d ((zMZ z).ren σ)):=
 zYU (E:=Env.gen D w0 I0 K Z T0 h n0 Y) σ hn (zSN ak) aj G ad ai hT ac O (zKU ag) (λk hk=>by
  have:=eC.1 ah _ (zDS hk);by_cases hc:h.contains (look 0 σ k)=true
  ·simp only[hc,dG,fa,dM] at this
   exact .inr ⟨this.1,Blk.is_ne this.2.1,Blk.is_ne this.2.2⟩
  ·refine .inl ?_
   show (if h.contains (look 0 σ k)=true then _ else _)=_;rw[dQ hc]) hc rfl hG
end
end Go.AV
namespace Go.M
def yM {h:Type} [DecidableEq h] (items:List h) (k:Nat) (x: h):Option Unit:=if items[k]? =some x then some () else none
def zSS {h:Type} (items:List h) (k:Nat):Option Unit:=if k=items.length then some () else none
end Go.M
namespace Go.AV
open Go.M
theorem z1H {z:Type} [DecidableEq z] {G:Type} {items:List z} {k:Nat} {x: z} {u:Unit} (f: z->G) (h:yM items k x=some u):(items.map f)[k]? =some (f x):=by unfold yM at h;split at h;rename_i D;rw[dX,D];rfl;cases h
theorem zKZ {z:Type} {G:Type} {items:List z} {k:Nat} {u:Unit} (f: z->G) (h:zSS items k=some u):k=(items.map f).length:=by unfold zSS at h;split at h;rename_i D;rw[eY,D];cases h
open Go.M
section
variable {P:Program} {r:Option Nat} {E:Env} {S:AState} {K:Exit->AState->Prop} {c:Code} {A B C D:Type}
def yM6 (E:Env) (z:Exit) (k:A->AState) (G:Exit) (S2:B->AState):A⊕B->Exit->AState->Prop
 | .inl y,h,S'=>h=z/\zES E S' (k y)
 | .inr y,h,S'=>h=G/\zES E S' (S2 y)
theorem z7 (y:A⊕B) (G:Exit) (k:A->AState) (H:Exit) (S2:B->AState) (h:Avc P r E c (yM6 E G k H S2 y) S) (O:∀z,y= .inl z->K G (k z)) (T:∀z,y= .inr z->K H (S2 z)):Avc P r E c K S:=by rcases y with y | y;exact zSG (e:=G) (S2:=k y) h (O y rfl);exact zSG (e:=H) (S2:=S2 y) h (T y rfl)
end
open Go.RowKit Go.M
section
variable {P:Program} {r:Option Nat} {E:Env} {S:AState} {d ty:Nat} {pos:String} {af:Array Edge} {g:Option (Nat×Bool)}
theorem zWL {f:FuncId} {xs:List Operand} {ats:Array TypeId} {args:List Cap} {z:AV} {T D:List (Nat×Blk)} {keep:List Nat} (σ:List (Nat×Nat)) (hc:GCA P f args T keep z D) (hn:d<E.n) (aa:(σ.map Prod.fst).Nodup/\(σ.map Prod.snd).Nodup)
  (h:ArgsAs σ (xs.map S.ev) args) (K:args.all (Cap.idsLt σ)=true) (Z:z.idsLt σ =true) (hT:BlksAs S σ T) (H:zBI σ T=true) (G:zBI σ D=true)
  (O:zPM S σ T=true) (Y:∀k,E.nm k=none) (hE:E.wrB=true) (hG:E.gdt=zAU P:=by rfl):
  jA P r E ⟨some d,.call {callee:= .value (.func f),args:=xs.toArray,argTypes:=ats},ty,pos,af,g⟩ S
   (((S.killL (zH8 σ keep D)).setL (renL σ D++zL9 σ T D)).put d (z.ren σ)):=
 zU0 σ hn (zSN aa) (extra:=[]) (λA w I ρ C _=>⟨[],by simp[Act.eval],Pw.nil⟩) (by rw[ez];exact h) K Z hT H G (zKU O) (λk _=> .inl (Y _)) hc hE hG
theorem yDC {w:World} {I z:Im} {ys:List Value} {cells:List DV} (h:Reps w z ys cells) (D:∀x∈cells,∃u,x= .v u):Reps w I ys cells:=
 ⟨h.1,λj y x G k=>by
  obtain⟨u,rfl⟩:=D x (eT k);have:=h.2 j y _ G k;cases this;exact .v _⟩
theorem yHX {f e size n off id k0:Nat} {x y:Operand} {ats:Array TypeId} {L z:List DV} {fv:DV} (hn:d<E.n) (hx:S.ev x= .rs id off n) (hy:S.ev y= .d fv) (hb:S.blk id= .row e size false L) (h0:0<n) (bj:off+n*size<=L.length)
  (hv:∀x∈z,∃u,x= .v u) (hc:GC P f [.row k0,.d fv] [(k0,.win e size 0 ((L.drop off).take (n*size)))] [k0] [] [(k0,.win e size 0 z)]) (hE:E.wrB=true) (hG:E.gdt=zAU P:=by rfl):
  jA P r E ⟨some d,.call {callee:= .value (.func f),args:= #[x,y],argTypes:=ats},ty,pos,af,g⟩ S
   ((S.setBlk id (.row e size false (L.take off++z++L.drop (off+n*size)))).put d (.tupc [])):=by
 rintro A w K Q ⟨I,ρ,C,hs⟩ hk
 obtain⟨⟨fn,hf,bc,au⟩,aw⟩:=hc;have cx:S.blk id≠ .none:=by rw[hb];simp
 have bi:=hs.blks id;rw[hb] at bi;obtain⟨⟨hp,hM⟩,n0,xs,hl,bq,h1,hr,hI⟩:=bi;have ai:=hs.ev x;rw[hx] at ai;obtain⟨A',c,ai,bp,hA⟩:=ai;obtain⟨H,ag,rfl⟩:=hA h0;have ap:=hs.ev y;rw[hy] at ap;have ap:Rep w I (A.eval y) fv:=ap;have dl:0<n*size:=Nat.mul_pos h0 hp;have el:xs.length=L.length:=hr.1;rcases bq.2 with ⟨ab,_⟩ | ⟨gb,cc,D,ab,hB,hh,bd,cn,ax,bv⟩
 ·rw[ab] at ag;cases ag
 have cj:H=gb:=by rw[ab] at ag;simpa[blockOf] using ag.symm
 subst cj;have aj:∀j,¬I H j:=λj O=>by have:=(hI H j (by rw[ab];rfl) O).1;cases this
 have bk:H<w.heap.size:=(cU.1 hh).1;have ci:L.length<=D.size:=by rw[ax,hl];exact dY _ bd
 have bf:∀(j:Nat) v,xs[j]? =some v->D[j]? =some v:=λj v O=>by
  rw[<-bv,d8] at O;split at O
  ·simpa using O
  ·cases O
 let I1:Im:=λb j=>I b j\/(b=H/\(j<off\/off+n*size<=j))
 let bz:Nat->Value:=λ_=>A.eval x
 have ac:∀b j,I b j->I1 b j:=λb j h=> .inl h;have am:Same I w w:=λ_ _ _=>KeepB.refl;have ay:Frag w I1 bz [(k0,.win e size 0 ((L.drop off).take (n*size)))]:=by
  refine⟨λk=>?_,λk k' b ak aa ar _=>?_⟩
  ·by_cases ao:k=k0
   ·subst ao
    rw[kB,dK rfl];refine⟨_,n,c,(xs.drop off).take (n*size),ai,bp,hp,by simp;omega,Reps.mono ((hr.drop off).take (n*size)) am ac,λu hu=>h1 u (eU (eF hu)),.inr ⟨H,off,D,rfl,trivial,hh,by omega,λj u O=>?_,λj eg eh O=>?_⟩⟩
    ·rw[d8] at O
     split at O
     ·rw[eO] at O;exact bf _ u O
     ·cases O
    ·rcases O with O | ⟨_,O⟩
     ·exact absurd O (aj j)
     ·omega
   ·rw[kB,dQ (λe=>ao e.symm)]
    trivial
  ·exfalso
   have e1:k=k0:=by
    by_cases e:k=k0
    ·exact e
    ·exfalso;apply aa;rw[kB,dQ (λq=>e q.symm)];rfl
   have e2:k'=k0:=by
    by_cases e:k'=k0
    ·exact e
    ·exfalso;apply ar;rw[kB,dQ (λq=>e q.symm)];rfl
   exact ak (e1.trans e2.symm)
 have ch:∀b j,I1 b j->b<w.heap.size:=by
  rintro b j (h | ⟨rfl,_⟩)
  ·exact(hs.old b j h).1
  ·exact bk
 have cm:=aw w I1 bz [A.eval x,A.eval y] ch ((hG▸hs.gl).sub ac) ay (Pw.cons rfl (Pw.cons (Rep.mono ap am ac) Pw.nil));refine⟨λf _=>trivial,?_⟩;rw[Oper.semAt_eq _ _ _ (by simp)];have bu:(execOp A.eval ⟨some d,.call {callee:= .value (.func f),args:= #[x,y],argTypes:=ats},ty,pos,af,g⟩).run P w= .ok (.enter f #[A.eval x,A.eval y]) w:=by
  have cv:¬fn.name= "runtime.NumGoroutine" :=by simpa using bc
  have cw:¬fn.body=none:=by intro e;simp[e] at au
  simp[execOp,resolve,Act.eval,Deferred.ofValue,invoke,callFunc,hf,cv,cw]
 rw[bu];refine⟨by simp[fen,Fence.wide],?_⟩;show CallsIn Fence.wide 0 P f _ w _;refine gy.2 (cm.mono ?_)
 rintro e' w' ⟨v,I',eu,rfl,Y,al,dm,dk,an,bt,cy,bb⟩
 have bm:look Blk.none [(k0,Blk.win e size 0 z)] k0= .win e size 0 z:=by rw[kB,dK rfl]
 have ao:=bb k0 (by simp) (by rw[bm];simp)
 have aq:=an.ok k0;rw[bm] at aq;obtain⟨A2,n2,c2,ys,Z,_,_,cu,br,cf,cg⟩:=aq;rw[ao] at Z;have Z:A.eval x= .slice A2 n2 c2:=Z;rw[ai] at Z;cases Z;rcases cg with ⟨be,_⟩ | ⟨b2,dp,G,be,_,bl,cp,ck,_⟩
 ·cases be
 cases be;have de:ys.length=n*size:=by rw[br.1];exact cu
 have ad:∀j,(j<off\/off+n*size<=j)->G[j]? =D[j]?:=λj O=>by
  have:=(al H j (.inr ⟨rfl,O⟩)).cell;rw[e7 w' H j G e (0,0) bl,e7 w H j D e (0,0) hh] at this;exact this
 have dc:G.size=D.size:=by
  have aa:G[D.size]? =none:=by rw[ad D.size (.inr (by omega))];simp
  have ar:G.size<=D.size:=by
   by_cases bn:D.size<G.size
   ·rw[fJ bn] at aa;cases aa
   ·omega
  by_cases bn:off+n*size<D.size
  ·have:=ad (D.size-1) (.inr (by omega))
   rw[fJ (by omega:D.size-1<D.size)] at this;have:=(cU.1 this).1;omega
  ·omega
 have bh:G.toList=D.toList.take off++ys++D.toList.drop (off+n*size):=by
  apply fV;intro j;by_cases aa:j<off
  ·rw[dB,d5 (by simp;omega),d8,dK aa]
   have:=ad j (.inl aa);simpa using this
  ·by_cases ar:j<off+n*size
   ·have ba:(D.toList.take off).length=off:=by simp;omega
    rw[dB,dW (by omega),d5 (by omega),ba];have bx:ys[j-off]? =some ys[j-off]:=cV (by omega);have:=ck (j-off) _ bx;rw[bx,show off+(j-off)=j by omega] at*;simpa using this
   ·have ba:(D.toList.take off++ys).length=off+n*size:=by simp;omega
    rw[dW (by omega),ba,eO,show off+n*size+(j-(off+n*size))=j by omega];have:=ad j (.inr (by omega));simpa using this
 have T:Same I w w':=λb j h=>al b j (.inl h);have cq:w.grownBy w' (some H):=⟨Y.os,Y.tape,Y.output,Y.size,λk hk ak=>Y.block k hk (by
  rintro⟨i,_,hi⟩
  have hi:blockOf (A.eval x)=some k:=hi;rw[ai] at hi;exact ak (by simpa[blockOf] using hi.symm))⟩
 have bw:xs.take off++ys++xs.drop (off+n*size)=G.toList.take (n0*size):=by
  rw[bh,<-bv];have hL:off+n*size<=n0*size:=by rw[<-hl];exact bj
  exact(zSR de hL (by simp;rw[ax];exact dY _ bd)).symm
 have da:Reps w' I (xs.take off++ys++xs.drop (off+n*size)) (L.take off++z++L.drop (off+n*size)):=
  ((Reps.mono (hr.take off) T λ_ _ h=>h).append (yDC br hv)).append (Reps.mono (hr.drop _) T λ_ _ h=>h)
 have bo:=hs.modify (id:=id) (x:= .row e size false (L.take off++z++L.drop (off+n*size))) cq cx (by rw[ab];rfl) T ⟨⟨hp,hM⟩,n0,xs.take off++ys++xs.drop (off+n*size),by simp;omega,⟨by simp;omega,.inr ⟨H,cc,G,ab,hB,bl,bd,cn,by rw[dc];exact ax,bw.symm⟩⟩,by
   intro u hu;simp only[eN] at hu;rcases hu with (hu | hu) | hu
   ·exact h1 u (eF hu)
   ·exact cf u hu
   ·exact h1 u (eU hu),da,by
   intro g' j az hi;rw[ab] at az;simp[Value.ownBlock] at az;subst az;exact absurd hi (aj j)⟩ hE
 refine hk _ _ ⟨I,ρ,C,bo.put hn ?_⟩;obtain⟨zs,hz,df⟩:=bt;exact⟨zs,hz,cS df.1▸Pw.nil⟩
end
end Go.AV
namespace Go.M
def zJ7 {h:Type} (f:List h->Option (List h)) (l:List h) (a b:Int):Option (List h):=
 if 0<=a/\a<b/\b.toNat<=l.length then (f ((l.drop a.toNat).take (b.toNat-a.toNat))).map λm=>l.take a.toNat++m++l.drop b.toNat else none
end Go.M
namespace Go.AV
open Go.RowKit Go.M
section
variable {P:Program} {r:Option Nat} {E:Env} {S:AState} {d ty:Nat} {pos:String} {af:Array Edge} {g:Option (Nat×Bool)}
theorem yM7 (l:List Int):∀x∈eI.all l,∃u,x= .v u:=by intro x k;obtain⟨n,_,h⟩:=List.mem_flatMap.1 k;have h:x∈[di n]:=h;simp at h;exact⟨_,h⟩
theorem yHY {z:Type} {en:En z} {f e id G:Nat} {x y:Operand} {ats:Array TypeId} {l T:List z} {a b:Int} {K:DV} {Y:List z->Option (List z)} (hn:d<E.n) (hx:S.ev x= .rs id (a.toNat*en.size) (b.toNat-a.toNat)) (hy:S.ev y= .d K) (hb:S.blk id= .row e en.size false (en.all l))
  (D:zJ7 Y l a b=some T) (hv:∀(m:List z),∀x∈en.all m,∃u,x= .v u) (hc:∀m h,Y m=some h->GC P f [.row G,.d K] [(G,.win e en.size 0 (en.all m))] [G] [] [(G,.win e en.size 0 (en.all h))]) (hE:E.wrB=true) (hG:E.gdt=zAU P:=by rfl):
  jA P r E ⟨some d,.call {callee:= .value (.func f),args:= #[x,y],argTypes:=ats},ty,pos,af,g⟩ S ((S.setBlk id (.row e en.size false (en.all T))).put d (.tupc [])):=by
 unfold zJ7 at D;split at D
 ·rename_i H
  obtain⟨h,hm,rfl⟩:=e9.1 D;have O:=hc _ _ hm;have Z:en.all ((l.drop a.toNat).take (b.toNat-a.toNat))=((en.all l).drop (a.toNat*en.size)).take ((b.toNat-a.toNat)*en.size):=by rw[zD1,zBR]
  rw[Z] at O;have k:a.toNat*en.size+(b.toNat-a.toNat)*en.size=b.toNat*en.size:=by rw[<-eG];congr 1;omega
  have h2:=yHX (P:=P) (r:=r) (E:=E) (S:=S) (d:=d) (ty:=ty) (pos:=pos) (af:=af) (g:=g) (ats:=ats) hn hx hy hb (by omega) (by rw[k,kZ];exact dY _ H.2.2) (hv h) O hE hG
  have e1:en.all (l.take a.toNat++h++l.drop b.toNat)=(en.all l).take (a.toNat*en.size)++en.all h++(en.all l).drop (a.toNat*en.size+(b.toNat-a.toNat)*en.size):=by
   rw[k,zD1,zBR];simp[En.all,List.flatMap_append]
  rw[e1];exact h2
 ·cases D
theorem zZC {K:Type} {en:En K} {t e bytes:Nat} {z:Value} {x lo hi:Operand} {id:Nat} {sh:Bool} {l:List K} {G H:IntKind} {a b:Int} (Y:d<E.n) (T:SlTy P t e en.size bytes z) (Z:S.ev x= .row id) (hb:S.blk id= .row e en.size sh (en.all l)) (D:S.ev lo= .d (.v (.int G a))) (k:S.ev hi= .d (.v (.int H b)))
  (h0:0<=a) (h1:a<b) (O:b.toNat<=l.length):AOp P r E S ⟨some d,.slice t x (some lo) (some hi) none,ty,pos,af,g⟩ d (.rs id (a.toNat*en.size) (b.toNat-a.toNat)):=
 zYK Y T Z hb (kZ en l) (lo:=some lo) (hi:=some hi) (l:=a.toNat) (h:=b.toNat) ⟨⟨G,a,D,by omega⟩,⟨H,b,k,by omega⟩,by omega,O⟩
end
end Go.AV
namespace Go.M
def uX {h k:Type} (f:List h->Option (List h)) (lo hi: k->Int) (l:List h) (items:List k):Option (List h):=items.foldl (λo x=>o.bind λl=>zJ7 f l (lo x) (hi x)) (some l)
theorem zML {h k:Type} (f:List h->Option (List h)) (lo hi: k->Int):∀items:List k,items.foldl (λ(o:Option (List h)) x=>o.bind λl=>zJ7 f l (lo x) (hi x)) none=none
 | []=>rfl
 | _::r=>zML f lo hi r
noncomputable def outK {h z:Type} (f:List h->Option (List h)) (lo hi: z->Int) (l:List h) (items:List z) (k:Nat):List h:=(uX f lo hi l (items.take k)).getD []
theorem z5O {G H:Type} {f:List G->Option (List G)} {lo hi: H->Int} {l r:List G} {items:List H} (h:uX f lo hi l items=some r) {k:Nat} {v: H} (O:items[k]? =some v):zJ7 f (outK f lo hi l items k) (lo v) (hi v)=some (outK f lo hi l items (k+1)):=by
 have Y:=(c9.1 O).1;have e:uX f lo hi l (items.take (k+1))=(uX f lo hi l (items.take k)).bind λl=>zJ7 f l (lo v) (hi v):=by
  unfold uX;rw[List.take_add_one,O,List.foldl_append];rfl
 have T:∃x,uX f lo hi l (items.take (k+1))=some x:=by
  cases z:uX f lo hi l (items.take (k+1)) with
  | some x=>exact⟨x,rfl⟩
  | none=>
   exfalso;have D:=h;rw[<-em (k+1) items] at D;unfold uX at D z;rw[List.foldl_append,z,zML] at D;cases D
 obtain⟨x,z⟩:=T;rw[z] at e;unfold outK;rw[z];cases K:uX f lo hi l (items.take k) with
 | none=>rw[K] at e;cases e
 | some y=>rw[K] at e;exact e.symm
theorem z8L {k z:Type} {f:List k->Option (List k)} {lo hi: z->Int} {l r:List k} {items:List z} (h:uX f lo hi l items=some r):outK f lo hi l items items.length=r:=by unfold outK;rw[List.take_length,h];rfl
theorem z8M {k:Type} {f:List k->Option (List k)} {l z:List k} {a b:Int} (h:zJ7 f l a b=some z):0<=a/\a<b/\b.toNat<=l.length:=by unfold zJ7 at h;split at h;assumption;cases h
end Go.M
namespace Go.AV
open Go.RowKit Go.M
section
variable {P:Program} {r:Option Nat} {E:Env} {S:AState} {d:Nat} {ty:TypeId} {pos:String} {af:Array Edge} {g:Option (Nat×Bool)}
theorem NilL.app:∀{as bs cs ds:List DV},NilL as bs->NilL cs ds->NilL (as++cs) (bs++ds)
 | [],[],_,_,_,h=>h
 | [],_::_,_,_,h,_=>h.elim
 | _::_,[],_,_,h,_=>h.elim
 | _::_,_::_,_,_,h,k=>⟨h.1,NilL.app h.2 k⟩
theorem NilL.len:∀{as bs:List DV},NilL as bs->as.length=bs.length
 | [],[],_=>rfl
 | [],_::_,h=>h.elim
 | _::_,[],h=>h.elim
 | _::_,_::_,h=>by simp[NilL.len h.2]
variable {α:Type} {en:En α} {l:List α} {t e bytes:Nat} {z:Value} {x:Operand}
end
open Go.M
theorem wc {E:Env} {S S':AState} (ht:Cov S S'.tmps:=by repeat (first | exact trivial | refine⟨rfl,?_⟩)) (hb:zMW S S'.blks:=by repeat (first | exact trivial | refine⟨rfl,?_⟩)) (hgh:∀C w,E.fr S.ghost C w->E.fr S'.ghost C w:=by exact λ_ _ h=>h):zES E S S':=z7N ht hb hgh
abbrev GdO (o:Oper) (ops:Array Oper) (S:AState) (E:Env) (j t d:Nat) (b q:Bool):Prop:=(o.guard,(ops[j]?).bind (·.dst),o.dst,S.get t,Nat.blt d E.n,Nat.blt t E.n)=(some (j,q),some t,some d,AV.d (.v (.bool b)),true,true)
section
variable {P:Program} {r:Option Nat} {E:Env} {S S':AState} {l:List Oper} {J:AState->Prop} {fuel i d j t:Nat} {listed:List Bool} {is:List Nat} {o:Oper} {x:AV} {b:Bool} {ops:Array Oper} {rest:List Oper}
theorem xa (D:l[i]? =some o) (h:AOp P r E S o d x) (k:zEV P r E l J fuel (listed.set i true) (S.put d x)) (G:AnyE P r E l J fuel listed S is) (z:o.guard=none:=by rfl):AnyE P r E l J fuel listed S (i::is):=yF9 D z h k G
theorem xb (D:l[i]? =some o) (h:jA P r E o S S') (k:zEV P r E l J fuel (listed.set i true) S') (G:AnyE P r E l J fuel listed S is) (z:o.guard=none:=by rfl):AnyE P r E l J fuel listed S (i::is):=yF8 D z h k G
theorem xc (D:l[i]? =some o) (h:AOp P r E S o d x) (k:zEV P r E l J fuel (listed.set i true) (S.put d x)) (z:o.guard=none:=by rfl):AnyE P r E l J fuel listed S [i]:=yF9 D z h k z2O
theorem xd (D:l[i]? =some o) (h:jA P r E o S S') (k:zEV P r E l J fuel (listed.set i true) S') (z:o.guard=none:=by rfl):AnyE P r E l J fuel listed S [i]:=yF8 D z h k z2O
theorem xn (is:List Nat) (h:AnyE P r E l J fuel listed S is) (z:rdy l listed=is:=by kernel_rfl) (k:is.isEmpty=false:=by rfl):zEV P r E l J (fuel+1) listed S:=yK7 is z k h
theorem sqt (x:AV) (z:GdO o ops S E j t d b true) (h:b=true->AOp P r E S o d x) (k:Sq P r E ops rest (S.put d (.cond (gd true b) x)) J):Sq P r E ops (o::rest) S J:=by injection z with D z;injection z with G z;injection z with H z;injection z with K z;injection z with O T;exact yKV D G H (lq O) (lq T) K h k
theorem sqf (x:AV) (z:GdO o ops S E j t d b false) (h:b=false->AOp P r E S o d x) (k:Sq P r E ops rest (S.put d (.cond (gd false b) x)) J):Sq P r E ops (o::rest) S J:=by injection z with D z;injection z with G z;injection z with H z;injection z with K z;injection z with O T;exact yKV D G H (lq O) (lq T) K (λhb=>h (gF hb)) k
theorem dat (x:AV) (z:GdO o ops S E j t d b true) (h:b=true->AOp P r E S o d x) (k:DA P r E ops rest (S.put d (.cond (gd true b) x)) J):DA P r E ops (o::rest) S J:=by injection z with D z;injection z with G z;injection z with H z;injection z with K z;injection z with O T;exact yKW D G H (lq O) (lq T) K h k
theorem daf (x:AV) (z:GdO o ops S E j t d b false) (h:b=false->AOp P r E S o d x) (k:DA P r E ops rest (S.put d (.cond (gd false b) x)) J):DA P r E ops (o::rest) S J:=by injection z with D z;injection z with G z;injection z with H z;injection z with K z;injection z with O T;exact yKW D G H (lq O) (lq T) K (λhb=>h (gF hb)) k
theorem kG {c:Operand} {y z:Code} {K:Exit->AState->Prop} {k:Type} {A B:Option k} {q:Option k} (h:cond b A B=q) (G:A=q->Avc P r E y K S) (H:B=q->Avc P r E z K S) (D:S.ev c= .d (.v (.bool b)):=by rfl):Avc P r E (.cond c y z) K S:=
 zDO D ⟨λe=>G (cT e h),λe=>H (cF e h)⟩
end
section
variable {P:Program} {r:Option Nat} {E:Env} {S S':AState} {l:List Oper} {J:AState->Prop} {fuel d:Nat} {listed:List Bool} {x:Operand} {ty:TypeId} {pos:String} {af:Array Edge}
theorem xm (i:Nat) (k:zEV P r E l J fuel (listed.set i true) (S.put d (S.ev x))) (hi:l[i]? =some ⟨some d,.move x,ty,pos,af,none⟩:=by rfl) (G:d<E.n:=by exact lq rfl) (H:r=none:=by rfl) (h:zU7 l=true:=by rfl) (z:z5N l listed i ⟨some d,.move x,ty,pos,af,none⟩=true:=by rfl) (D:(rdy l listed).contains i=true:=by rfl):zEV P r E l J (fuel+1) listed S:=z8I hi G H h z D k
end
theorem fx {F G:Prop} (f:F) (h:F->G:=by first | exact λf=>OneTy.of f rfl (by kernel_rfl) | exact λf=>AggTy.of f rfl (by kernel_rfl) | exact λf=>FldTy.of f rfl (by kernel_rfl) (by decide) | exact λf=>SlTy.of f (by kernel_rfl) rfl (by decide) rfl | exact λf=>StTy.of f (by kernel_rfl) (by kernel_rfl) rfl):G:=h f
theorem co {F H G:Prop} (f:F) (k:H) (h:F->H->G:=by exact λf k=>zX1 f (by kernel_rfl) rfl (lq rfl) (lq rfl) k):G:=h f k
theorem ae {E:Env} {P:Program} {r:Option Nat} {l:List Oper} {fuel:Nat} {listed:List Bool} {S S2:AState} {e:Exit} (k:rdy l listed= []:=by rfl) (h:zES E S S2:=by exact wc):zEV P r E l (outK E e S2 e) fuel listed S:=yDB k (z06 h)
theorem tl {E:Env} {P:Program} {r:Option Nat} {S:AState} {K:Exit->AState->Prop} {c:Code} (e:Exit) (S2:AState) (h:Avc P r E c (outK E e S2) S) (k:K e S2):Avc P r E c K S:=zSG h k
theorem oi {k:Type} {a b: k} (h:some a=some b):a=b:=gY h
open Go.RowKit Go.M
def pnd (a:Act) (vs:Nat->Value):List (Nat×Nat)->Act
 | []=>a
 | u::U=>(pnd a vs U).put (some u.2) (vs u.2)
def unf (listed:List Bool) (U:List (Nat×Nat)):List Bool:=(List.range listed.length).map λk=>listed.getD k true&& !U.any λu=>u.1==k
section
variable {P:Program} {r:Option Nat} {E:Env} {l:List Oper} {J:AState->Prop} {S:AState}
def FlS (P:Program) (r:Option Nat) (E:Env) (l:List Oper) (S:AState) (u:Nat×Nat):Prop:= ∃o,l[u.1]? =some o/\o.guard=none/\u.2∉o.looksAt l.toArray/\AOp P r E S o u.2 (S.get u.2)
def yK8 (P:Program) (r:Option Nat) (E:Env) (l:List Oper) (J:AState->Prop) (h:List (Nat×Nat)) (fuel:Nat) (listed:List Bool) (S:AState):Prop:=
 ∀(U:List (Nat×Nat)),U.Nodup->(∀u∈U,u∈h)->∀(vs:Nat->Value) (a:Act) (w:World),Sat E S (pnd a vs U) w->wpAnyIn (fen r) 0 P .any l.toArray (QJ E J) (fuel+U.length) (unf listed U).toArray a w
end
open Go.RowKit Go.M
section
variable {P:Program} {r:Option Nat} {E:Env} {l:List Oper} {J:AState->Prop} {S:AState} {fl:List (Nat×Nat)} {listed:List Bool} {fuel:Nat}
def FlA (P:Program) (r:Option Nat) (E:Env) (l:List Oper) (S:AState):List (Nat×Nat)->Prop
 | []=>True
 | u::fl=>FlS P r E l S u/\FlA P r E l S fl
theorem FlA.mem:∀{fl:List (Nat×Nat)},FlA P r E l S fl->∀u∈fl,FlS P r E l S u
 | [],_,u,h=>by cases h
 | v::fl,h,u,k=>by
  rcases dN.1 k with e | k;rw[e];exact h.1;exact h.2.mem u k
def AnyG (P:Program) (r:Option Nat) (E:Env) (l:List Oper) (J:AState->Prop) (fl:List (Nat×Nat)) (fuel:Nat) (listed:List Bool) (S:AState):List Nat->Prop
 | []=>True
 | i::is=>(∃o S',l[i]? =some o/\o.guard=none/\jA P r E o S S'/\yK8 P r E l J fl fuel (listed.set i true) S')/\AnyG P r E l J fl fuel listed S is
theorem AnyG.mem:∀{is:List Nat} {i:Nat},AnyG P r E l J fl fuel listed S is->i∈is->∃o S',l[i]? =some o/\o.guard=none/\jA P r E o S S'/\yK8 P r E l J fl fuel (listed.set i true) S'
 | [],_,_,h=>by cases h
 | k::is,i,h,hi=>by
  rcases dN.1 hi with e | hi;subst e;exact h.1;exact AnyG.mem h.2 hi
end
end Go.AV
namespace Go.M
end Go.M
namespace Go.AV
open Go.RowKit Go.M
section
variable {P:Program} {r:Option Nat} {E:Env} {S:AState} {d:Nat} {ty:TypeId} {pos:String} {af:Array Edge} {g:Option (Nat×Bool)}
theorem z1I {α:Type} {en:En α} {l l':List α} {t e:TypeId} {n:Nat} {zs:List Value} {x hi:Operand} {k2:IntKind} {b:Int} (hn:d<E.n) (T:ArTy P t n en.size e zs) (ab:l.length=n) (hp:0<n) (hx:S.ev x= .d (.pt (en.all l))) (aa:S.ev hi= .d (.v (.int k2 b))) (h:slc l 0 b=some l'):
  AOp P r E S ⟨some d,.slice t x none (some hi) none,ty,pos,af,g⟩ d (.d (zN en l')):=
 ⟨rfl,hn,λS' ha=>zQ rfl hn (by simp) λA w I ρ C hs=>by
  obtain⟨rfl,h0,h1,h2⟩:=zAX h;have O:=hs.ev x;rw[(ha.ev (x:=x) (by simp[Op.operands])).trans hx] at O;have h4:=hs.val ((ha.ev (x:=hi) (by simp[Op.operands])).trans aa);have Z:b=(b.toNat:Int):=by omega
  generalize b.toNat=k at*;subst Z;generalize hv:A.eval x=v at O;cases O with
  | pt H off xs _ ac hc K hr=>
   have z:=kZ en l;have Y:(Instr.sliceBounds false n n none (some (.int k2 k)) none).run P w= .ok (0,k,n) w:=by
    simp[Instr.sliceBounds,xF (P:=P) w k2 k n _ (by omega)]
   rw[ab] at z;have hR:Rep w I (.slice (some ⟨H,off,none⟩) n n) (.sl en.size (en.all l)):= .sl H off n n en.size xs _ hp (dF _) z ac hc K hr;have G:=zUU (l:=0) (h:=k) hR z T.pos (g7 _) (by omega);rw[dQ (by omega)] at G;have D:n≠0:=by omega
   simp only[eX,vU,gz,fH,Nat.sub_zero,et] at G;refine⟨.slice (some ⟨H,off,none⟩) k n,?_,?_⟩
   ·simp only[execOp,Instr.sliceAt,cW,dL T.und,cX,hv,eX,gu,h4,Instr.sureAddr,dU,Y,T.size,D.symm,D,cY,vU,gz,fH,Nat.sub_zero]
   ·rw[zBR] at G
    exact G⟩
end
open Go.RowKit Go.M
section
variable {P:Program} {r:Option Nat} {E:Env} {S:AState} {d:Nat} {ty:TypeId} {pos:String} {af:Array Edge} {g:Option (Nat×Bool)}
theorem z5P {α:Type} {en:En α} {t e bytes:Nat} {z:Value} {m Y:List α} {x s:Operand} {id:Nat} (hn:d<E.n) (Z:SlTy P t e en.size bytes z) (hs:S.ev s= .d (.v (.slice none 0 0))) (H:((S.kill id).setBlk id (.row e en.size false [])).ev x= .d (zN en m)) (ha:app [] m=some Y) (ah:0<bytes) (G:bytes<=32768)
  (hE:E.wrB=true) (K:E.nm id=none):
  jA P r E ⟨some d,.call {callee:= .builtin .append,args:= #[s,x],argTypes:= #[t,t]},ty,pos,af,g⟩ S (((((S.kill id).setBlk id (.row e en.size false [])).kill id).setBlk id (.row e en.size false (en.all Y))).put d (.row id)):=
 uE (by simp) λA w I ρ C h=>by
  obtain⟨hl,k⟩:=zOC ha;rw[show Y=m from hl];have h2:=h.update (hZ w none) (id:=id) (u:= .slice none 0 0) (x:= .row e en.size false []) (by simp) (kM I w) (by simp[blockOf])
   ⟨⟨Z.pos,by simp[upd,Value.ownBlock]⟩,0,[],by simp,by simp only[upd,dH];exact ij w _ e en.size,by simp,Pw.nil,by simp[upd,Value.ownBlock]⟩ (.inl rfl) K
  have D:((S.kill id).setBlk id (.row e en.size false [])).blk id= .row e en.size false []:=by rw[yB,dK rfl]
  have hb:=zU2 (bytes:=bytes) G k;have T:0+m.length<=maxLen:=by unfold maxLen;unfold LIM at k;simp at k;omega
  obtain⟨v,w',h3,O⟩:=zUP (ty:=ty) (pos:=pos) (af:=af) (g:=g) (s:=s) (x:=x) hn Z D (news:=en.all m) (n:=0) (m:=m.length) (by rw[H];rfl) (by simp) (kZ en m) (by simpa using hb) T hE K h2 (by rw[h.val hs];simp[upd])
  rw[H] at O;simp only[AState.shareAV,D,Blk.appended,dS] at O;exact⟨v,w',h3,O⟩
end
end Go.AV
namespace Go.M
theorem z8N {k:Type} {a b:Int} {x y:Option k} {r: k} (h:cond (decide (a=b)) x y=some r):(a=b/\x=some r)\/y=some r:=by by_cases e:a=b;simp only[e,dD,cQ] at h;exact .inl ⟨e,h⟩;simp only[e,dI,cP] at h;exact .inr h
theorem gT {k:Type} [Inhabited k] {m:Option k} {r: k} (h:gM true m=some r):m=some r:=h
end Go.M
namespace Go.AV
open Go.RowKit Go.M
end Go.AV
namespace Go.M
theorem yM8 {k:Type} {a b:Option k} {r: k} (h:cond true a b=some r):a=some r:=h
theorem yM9 {k:Type} {a b:Option k} {r: k} (h:cond false a b=some r):b=some r:=h
def goB (h:Bool) (n k:Nat):Bool:=!(h&&Nat.beq (k+1) n)
def zJF {A S:Type} (body:S->A->Option (Bool×S)):S->List A->Option (Nat×Bool×S)
 | s,[]=>some (0,true,s)
 | s,x::xs=>match body s x with
  | none=>none
  | some (false,h)=>some (1,false,h)
  | some (true,h)=>(zJF body h xs).map λr=>(r.1+1,r.2)
def zMA {A S:Type} (body:S->A->Option (Bool×S)):Nat->S->List A->S
 | 0,s,_=>s
 | _+1,s,[]=>s
 | k+1,s,x::xs=>match body s x with
  | none=>s
  | some (_,h)=>zMA body k h xs
theorem zWM {A S:Type} {body:S->A->Option (Bool×S)}:∀{l:List A} {s k:S} {n:Nat} {b:Bool},zJF body s l=some (n,b,k)->n<=l.length
 | [],s,k,n,b,h=>by cases h;exact dF _
 | x::xs,s,k,n,b,h=>by
  simp only[zJF] at h;cases hb:body s x with
  | none=>rw[hb] at h;cases h
  | some p=>
   obtain⟨g,D⟩:=p;rw[hb] at h;cases g with
   | false=>cases h;simp
   | true=>
    simp only[e9,Prod.exists,iz] at h;obtain⟨m,b2,G,z,rfl,rfl,rfl⟩:=h;have:=zWM z;simp;omega
theorem zZD {A S:Type} {body:S->A->Option (Bool×S)}:∀{l:List A} {s H:S} {n:Nat} {b:Bool},zJF body s l=some (n,b,H)->
  ∀{k:Nat} {x:A},(l.take n)[k]? =some x->body (zMA body k s l) x=some (goB (!b) (l.take n).length k,zMA body (k+1) s l)
 | [],s,H,n,b,h,k,x,G=>by simp at G
 | y::xs,s,H,n,b,h,k,x,G=>by
  have T:=zWM h;simp only[zJF] at h;cases hb:body s y with
  | none=>rw[hb] at h;cases h
  | some p=>
   obtain⟨g,s2⟩:=p;rw[hb] at h;cases g with
   | false=>
    cases h;cases k with
    | zero=>
     simp only[List.take_succ_cons,ik,List.getElem?_cons_zero,fD] at G;subst G;simp only[zMA,hb];rfl
    | succ k=>simp at G
   | true=>
    simp only[e9,Prod.exists,iz] at h;obtain⟨m,b2,s3,D,rfl,rfl,rfl⟩:=h;rw[List.take_succ_cons] at G ⊢;cases k with
    | zero=>
     simp only[List.getElem?_cons_zero,fD] at G;subst G;have O:goB (!b2) ((y::xs.take m).length) 0=true:=by
      unfold goB;cases b2 with
      | true=>rfl
      | false=>
       have Y:xs.take m≠[]:=λe=>by
        cases xs with
        | nil=>simp only[zJF] at D;cases D
        | cons z zs=>
         have h2:=zWM D;cases m with
         | zero=>
          simp only[zJF] at D;cases K:body s2 z with
          | none=>rw[K] at D;cases D
          | some p=>
           obtain⟨g,s4⟩:=p;rw[K] at D;cases g with
           | false=>cases D
           | true=>
            simp only[e9,Prod.exists,iz] at D;obtain⟨_,_,_,_,e1,_⟩:=D;omega
         | succ m=>simp at e
       cases Z:xs.take m with
       | nil=>exact absurd Z Y
       | cons _ _=>rfl
     simp only[zMA,hb,O]
    | succ k=>
     simp only[List.getElem?_cons_succ] at G;have:=zZD D G;simp only[zMA,hb];rw[this];have:goB (!b2) (xs.take m).length k=goB (!b2) (y::xs.take m).length (k+1):=by
      unfold goB;rw[dP];congr 2
     rw[this]
theorem z2P {A S:Type} {body:S->A->Option (Bool×S)}:∀{l:List A} {s k:S} {n:Nat} {b:Bool},zJF body s l=some (n,b,k)->zMA body n s l=k
 | [],s,k,n,b,h=>by cases h;rfl
 | y::xs,s,k,n,b,h=>by
  simp only[zJF] at h;cases hb:body s y with
  | none=>rw[hb] at h;cases h
  | some p=>
   obtain⟨g,D⟩:=p;rw[hb] at h;cases g with
   | false=>cases h;simp only[zMA,hb]
   | true=>
    simp only[e9,Prod.exists,iz] at h;obtain⟨m,b2,G,z,rfl,rfl,rfl⟩:=h;simp only[zMA,hb];exact z2P z
theorem yDD {A S:Type} {body:S->A->Option (Bool×S)} {l:List A} {s k:S} {n:Nat} (h:zJF body s l=some (n,false,k)):0<(l.take n).length:=by
 cases l with
 | nil=>cases h
 | cons y xs=>
  cases n with
  | zero=>
   simp only[zJF] at h;cases hb:body s y with
   | none=>rw[hb] at h;cases h
   | some p=>
    obtain⟨g,D⟩:=p;rw[hb] at h;cases g with
    | false=>cases h
    | true=>
     simp only[e9,Prod.exists,iz] at h;obtain⟨_,_,_,_,z,_⟩:=h;omega
  | succ n=>simp
theorem zU9 {A S B:Type} {body:S->A->Option (Bool×S)} (f:A->B) {l:List A} {s D:S} {n:Nat} {b:Bool} (h:zJF body s l=some (n,b,D)) {k:Nat} {x:A} (z:(l.take n)[k]? =some x):
  body (zMA body k s l) x=some (goB (!b) ((l.take n).map f).length k,zMA body (k+1) s l):=by
 rw[eY];exact zZD h z
theorem z2Q {A S B:Type} {body:S->A->Option (Bool×S)} {f:A->B} {l:List A} {s k:S} {n:Nat} {b:Bool} (h:zJF body s l=some (n,b,k)):zMA body ((l.take n).map f).length s l=k:=by rw[eY,d9,gV (zWM h)];exact z2P h
theorem yDE {A S B:Type} {body:S->A->Option (Bool×S)} {f:A->B} {l:List A} {s z:S} {n:Nat} (h:zJF body s l=some (n,false,z)):((l.take n).map f).isEmpty=false:=by
 have:=yDD h;cases k:l.take n with
 | nil=>rw[k] at this;simp at this
 | cons _ _=>rfl
end Go.M
namespace Go.AV
open Go.RowKit Go.M
theorem yK9 {Sg:Type} {z:Exit} {n k:Nat} {s G:Sg} {Tf:Sg->List (Nat×Blk)} {S:AState} (h:some (true,s)=some (goF z n k,G)) (H:zMW S (Tf s)):z04 z n k (Tf G) .normal S:=by
 cases D:goF z n k with
 | false=>rw[D] at h;cases h
 | true=>
  rw[D] at h;cases h;unfold z04;rw[D];exact H
theorem yNA {Sg:Type} {z:Exit} {n k:Nat} {s G:Sg} {Tf:Sg->List (Nat×Blk)} {S:AState} (h:some (false,s)=some (goF z n k,G)) (H:zMW S (Tf s)):z04 z n k (Tf G) z S:=by
 cases D:goF z n k with
 | true=>rw[D] at h;cases h
 | false=>
  rw[D] at h;cases h;unfold z04;rw[D];exact⟨rfl,H⟩
theorem yNB {Sg:Type} {n k:Nat} {s z:Sg} (h:some (false,s)=some (goB (!true) n k,z)):False:=by cases h
end Go.AV
namespace Go.M
end Go.M
namespace Go.AV
open Go.RowKit Go.M
end Go.AV
namespace Go.M
open Go.AV
end Go.M
namespace Go.AV
open Go.M
theorem lr {a b:Nat} (h:Nat.blt a b=true:=by exact rfl):a<b:=lq h
section
variable {α:Type} {x y: α} {G:Prop}
theorem er (h:some x=some y) (k:x=y->G:=by intro e;cases e;refine yC ?_;exact zSM rfl):G:=k (oi h)
theorem es (h:some x=some y) (k:x=y->G:=by intro e;cases e;exact zSM rfl):G:=k (oi h)
theorem ex (h:some x=some y) (k:x=y->G:=by intro e;cases e;intro q;cases q;exact z06 wc):G:=k (oi h)
theorem eo (h:some x=some y) (k:x=y->G:=by intro e;cases e;exact z06 wc):G:=k (oi h)
theorem ew (h:some x=some y) (k:x=y->G:=by intro e;cases e;exact wc):G:=k (oi h)
theorem ep (h:some x=some y) (k:x=y->G:=by intro e;cases e;exact⟨rfl,wc⟩):G:=k (oi h)
end
end Go.AV
namespace Go.M
end Go.M
namespace Go.AV
open Go.RowKit Go.M
section
variable {P:Program} {r:Option Nat} {E:Env} {S:AState} {d:Nat} {ty:TypeId} {pos:String} {af:Array Edge} {g:Option (Nat×Bool)} {κ ν:Type} {kv: κ->Value} {ev:En ν} {m:List (κ×ν)} {t kt vt:TypeId} {x:Operand}
section
variable {X Y:Type} {bs: κ×ν->X->Option (Stp X Y)} {bn:X->Option (Stp X Y)} {ex:Y->Exit} {st:Y->AState} {T:List Nat->X->AState} {q:List Nat} {x:X} {s:Stp X Y} {c:Code} {ops:Array Oper} {l:List Oper}
theorem Sq.mono {J z:AState->Prop} (D:∀S,J S->z S):∀(l:List Oper) {S:AState},Sq P r E ops l S J->Sq P r E ops l S z
 | [],_,h=>D _ h
 | _::l,_,⟨S',h,k⟩=>⟨S',h,Sq.mono D l k⟩
end
end
end Go.AV
namespace Go.M
def z2R (l:List Int):Option (List Int):=if l.length<=LIM then some (l.mergeSort λx y=>decide (x<=y)) else none
end Go.M
namespace Go.AV
open Go.RowKit Go.M Go.Sort
section
variable {P:Program} {α:Type} [Inhabited α]
theorem zST {w:World} {g n off:Nat} {os:Array Obj} {h:Array Value} {e:TypeId} {k:Nat×Nat} (encV: α->Value) (d:Array α) (hb:w.heap[g]? =some (.cells h e k)):
  (grow (putRow encV (Sort.ahead w n) g off d) os).heap[g]? =some (.cells (putCells encV off d h) e k):=by
 have z:g<w.heap.size:=(cU.1 hb).1;rw[heap_grow_old _ _ (by simpa using z)];simp[putRow,mapBlock,Sort.ahead,Array.getElem?_modify,hb,onCells]
theorem zGT {w:World} {g n off k:Nat} {os:Array Obj} (encV: α->Value) (d:Array α) (z:k<w.heap.size) (h:k≠g):
  (grow (putRow encV (Sort.ahead w n) g off d) os).heap[k]? =w.heap[k]?:=by
 rw[heap_grow_old _ _ (by simpa using z)];have:g≠k:=λe=>h e.symm;simp[putRow,mapBlock,Sort.ahead,Array.getElem?_modify,this]
theorem yDF {f:FuncId} {e:Nat} {en:En α} {encV: α->Value} (hv:∀x,en.dv x= .v (encV x)) (aj:en.size=1) (h1:∀x,(encV x).oneCell'=true) {l r:List α} (hl:r.length=l.length)
  (bk:∃fn,P.funcs[f]? =some fn/\(fn.name== "runtime.NumGoroutine")=false/\fn.body.isNone=false)
  (au:l= []->∀(A:Option Addr) (c:Nat) (w:World),Calls P f #[.slice A 0 c] w λen w'=>en= .returned (.tuple #[])/\w'=w)
  (ac:∀(blk off bc:Nat) (w:World),Sort.Holds encV w blk off l.toArray->blk<w.heap.size->Calls P f #[.slice (some ⟨blk,off,none⟩) l.length bc] w λen w'=>
   en= .returned (.tuple #[])/\∃n os,w'=grow (putRow encV (Sort.ahead w n) blk off r.toArray) os):
  GC P f [.row 0] [(0,.win e en.size 0 (en.all l))] [0] [] [(0,.win e en.size 0 (en.all r))]:=by
 have H:∀m:List α,en.all m=m.map λx=>DV.v (encV x):=λm=>by
  have:en.cells=λx=>[DV.v (encV x)]:=by funext x;simp[En.cells,hv,w8]
  simp only[En.all,this]
  induction m with
  | nil=>rfl
  | cons x m ih=>simp[ih]
 refine⟨bk,λw I ρ vs hI hG K aw=>?_⟩;have ap:=aw.1
 match vs,ap with
 | [v0],_=>
  have br:v0= ρ 0:=aw.2 0 v0 (.row 0) rfl rfl;subst br;have hk:=K.ok 0;have ar:look Blk.none [(0,Blk.win e en.size 0 (en.all l))] 0= .win e en.size 0 (en.all l):=rfl;rw[ar] at hk;obtain⟨A,n,c,xs,O,bq,hp,Y,hr,cj,hA⟩:=hk;have hn:n=l.length:=by rw[kZ] at Y;exact(Nat.eq_of_mul_eq_mul_right hp Y).symm
  subst hn;have bt:xs=l.map encV:=by
   have ch:xs.length=l.length:=by have:=hr.1;rw[H] at this;simpa using this
   apply fV;intro j;by_cases Z:j<xs.length
   ·have ax:xs[j]? =some xs[j]:=cV Z
    have aq:l[j]? =some (l[j]'(by omega)):=cV (by omega);have:=hr.2 j xs[j] (.v (encV (l[j]'(by omega)))) ax (by rw[H];simp[aq])
    rw[ax,dX,aq,zOE this];rfl
   ·rw[fT (by omega),fT (by simp;omega)]
  have own:∀b,jQ [(0,Blk.win e en.size 0 (en.all l))] ρ b↔blockOf (ρ 0)=some b:=by
   intro b;constructor
   ·rintro⟨id,D,hb⟩
    by_cases G:0=id
    ·subst G;exact hb
    ·exact absurd (by rw[kB];simp[G,look]) D
   ·intro hb;exact⟨0,by rw[ar];simp,hb⟩
  have aa:∀b (ak:Nat->Value),jQ [(0,Blk.win e en.size 0 (en.all r))] ak b->blockOf (ak 0)=some b:=by
   rintro b ak ⟨id,D,hb⟩
   by_cases G:0=id
   ·subst G;exact hb
   ·exact absurd (by rw[kB];simp[G,look]) D
  rcases hA with ⟨rfl,bo⟩ | ⟨b,off,arr,rfl,_,hh,am,hc,ab⟩
  ·have ag:l= []:=cS bo
   have ah:r= []:=cS (by omega);subst ag;subst ah;have Y:=au rfl none c w;rw[O];refine Y.mono ?_
   rintro bd w' ⟨rfl,rfl⟩
   exact⟨_,I,ρ,rfl,Chg.refl _ _,kM _ _,λ_ _ h=>h,λb j hi=>⟨hI b j hi,.inl hi⟩,K,⟨[],rfl,Pw.nil⟩,λb hb=>by have:=aa b ρ hb;rw[O] at this;simp[blockOf] at this,λ_ _ _=>rfl⟩
  ·have hb:b<w.heap.size:=(cU.1 hh).1
   rw[aj,gC] at am ab;have hH:Sort.Holds encV w b off l.toArray:=by
    intro j Z;have an:j<l.length:=by simpa using Z
    refine⟨?_,by simp[World.frozen?,hh]⟩;rw[e7 w b (off+j) arr e (0,0) hh];have:=hc j (encV (l[j])) (by rw[bt,dX,cV an];rfl)
    rw[this];congr 2;simp[an]
   rw[O];refine(ac b off c w hH hb).mono ?_
   rintro bd w' ⟨rfl,q,os,rfl⟩
   have ai:Same I w (grow (putRow encV (Sort.ahead w q) b off r.toArray) os):=by
    intro T j hi;by_cases e':T=b
    ·subst e'
     have bv:j<off\/off+l.length<=j:=by
      rcases fI j off with h | h
      ·exact .inl h
      ·rcases fI j (off+l.length) with h2 | h2
       ·have:=ab j h h2 hi;omega
       ·exact .inr h2
     refine KeepB.ofCell hh ?_;rw[e7 _ T j _ e (0,0) (zST encV r.toArray hh),e7 w T j arr e (0,0) hh];simp only[putCells,iq,fZ,hl];have:¬(off<=j/\j<off+l.length):=by omega
     simp[this]
    ·exact KeepB.of (zGT encV _ (hI T j hi) e')
   have al:blockOf (ρ 0)=some b:=by rw[O];rfl
   refine⟨_,I,ρ,rfl,⟨rfl,rfl,rfl,by simp,λk hk D=>zGT encV _ hk (λe'=>D (by rw[own,al,e']))⟩,ai,λ_ _ h=>h,λT j hi=>⟨by have:=hI T j hi;simp;omega,.inl hi⟩,⟨λid=>?_,λid ay T D bf bg=>?_⟩,⟨[],rfl,Pw.nil⟩,λT bi=>?_,λ_ _ _=>rfl⟩
   ·by_cases G:0=id
    ·subst G
     show BlkOk _ I ρ _ 0 (.win e en.size 0 (en.all r));refine⟨_,l.length,c,r.map encV,O,bq,hp,by rw[kZ,hl],?_,by simpa using λx _=>h1 x,.inr ⟨b,off,putCells encV off r.toArray arr,rfl,trivial,zST encV _ hh,?_,λj x Z=>?_,λj bm bn hi=>by rw[aj,gC] at bn;have:=ab j bm (by omega) hi;omega⟩⟩
     ·rw[H]
      refine⟨by simp,λj x d hx hd=>?_⟩;rw[dX] at hx hd;cases z:r[j]? with
      | none=>simp[z] at hx
      | some y=>simp[z] at hx hd;subst hx;subst hd;exact .v _
     ·rw[aj];simp[putCells];omega
     ·rw[dX] at Z
      cases z:r[j]? with
      | none=>simp[z] at Z
      | some y=>
       simp[z] at Z;subst Z;have ao:j<r.length:=(c9.1 z).1;simp only[putCells,iq,fZ];have bp:off+j<arr.size:=by omega
       rw[fJ bp];have bl:off<=off+j/\off+j<off+r.length:=by omega
       simp only[eX,bl,iv,dH];have e3:off+j-off=j:=by omega
       rw[e3];congr 2;have:r[j]? =some r[j]:=cV ao;rw[this] at z;cases z;simp[ao]
    ·have:look Blk.none [(0,Blk.win e en.size 0 (en.all r))] id= .none:=by rw[kB];simp[G,look]
     rw[this];trivial
   ·exfalso
    by_cases G:0=id
    ·have:look Blk.none [(0,Blk.win e en.size 0 (en.all r))] ay= .none:=by rw[kB];simp[show ¬0=ay from λe1=>D (G.symm.trans e1),look]
     exact bg this
    ·have:look Blk.none [(0,Blk.win e en.size 0 (en.all r))] id= .none:=by rw[kB];simp[G,look]
     exact bf this
   ·have h2:=aa T ρ bi
    refine⟨?_,.inr ((own T).2 h2)⟩;rw[al] at h2;cases h2;simp;omega
end
open Go.RowKit Go.M
section
variable {P:Program} {r:Option Nat} {E:Env} {S:AState} {d:Nat} {ty:TypeId} {pos:String} {af:Array Edge} {g:Option (Nat×Bool)} {t tz:TypeId} {ps rs:Array TypeId} {vr:Bool} {x:Operand}
theorem zSU (h:P.underlying t=some (.func ps rs vr)) (w:World):(Op.equal t .nilFunc .nilFunc).run P w= .ok true w:=by show (Op.equalIn (9999+1) t .nilFunc .nilFunc).run P w=_;rw[Op.equalIn];simp[dL h]
theorem z5R (h:d<E.n) (H:P.underlying t=some (.func ps rs vr)) (O:S.ev x= .d (.v .nilFunc)):
  AOp P r E S ⟨some d,.binOp .neq t x (.const .nilFunc) tz,ty,pos,af,g⟩ d (.d (.v (.bool false))):=
 ⟨rfl,h,λS' k=>k9 rfl h (by simp) λA w I ρ C G=>by
  have K:=G.val ((k.ev (x:=x) (by simp[Op.operands])).trans O);have z:A.eval (.const .nilFunc)= .nilFunc:=rfl;have hb:binOp .neq t .nilFunc .nilFunc=(do pure (.bool (!(<-Op.equal t .nilFunc .nilFunc)))):=rfl;have D:eqGuard .neq t x (.const .nilFunc) .nilFunc .nilFunc=pure ():=rfl;simp only[execOp,K,z,hb,D,cW,dU,cX,zSU H];rfl⟩
end
end Go.AV
namespace Go
section
variable {F:Fence} {n:Nat} {P:Program} {b:Frame} {a:Act} {k:List Item} {cs:List Frame} {w:World} {Q:Exit->Act->World->Prop}
theorem zDT {c:Code}:step P (lone (b.atR a (.code (.scope c)::k)) cs w)= .next (lone (b.atR a (.code c:: .inScope c::k)) cs w):=
 step_lone_go (by simp[stepG,stepG.exec,Frame.atR])
theorem zT0 {c:Code}:step P (lone (b.atR a (.inScope c::k)) cs w)= .next (lone (b.atR a k) cs w):=
 step_lone_go (by simp[stepG,stepG.exec,Frame.atR])
def yNC (Q:Exit->Act->World->Prop):Exit->Act->World->Prop
 | .goto _,_,_=>False
 | e,a,w=>Q e a w
theorem z1J {c:Code} (h:c.wpIn F n P (yNC Q) a w):(Code.scope c).wpIn F n P Q a w:=by
 intro b k cs ab hb Z;have K:(lone (b.atR a (.code (.scope c)::k)) cs w).fenced P F:=fenced_calm hb Z rfl;obtain⟨e,D,G,O,z⟩:=h b (.inScope c::k) cs ab hb Z;cases e with
 | normal=>exact⟨.normal,D,G,O,.head K zDT (StepsIn.trans z (.one (fenced_calm hb Z rfl) zT0))⟩
 | exit H=>
  have hx:exitTo H (.inScope c::k)=exitTo H k:=by simp[exitTo]
  exact⟨.exit H,D,G,O,λk' Y=> .head K zDT (z.1 k' (by rw[hx];exact Y)),
   λaa Y=>let ⟨T,h1,h2⟩:=z.2 aa (by rw[hx];exact Y);⟨T,h1,.head K zDT h2⟩⟩
 | goto l=>exact O.elim
 | ret=>exact⟨_,D,G,O,.of_steps (.one K zDT) z⟩
 | panic ch=>exact⟨_,D,G,O,.of_steps (.one K zDT) z⟩
 | outgrown=>exact⟨_,D,G,O,.of_steps (.one K zDT) z⟩
end
end Go
namespace Go.AV
section
variable {P:Program} {r:Option Nat} {E:Env} {S:AState} {K:Exit->AState->Prop}
def yHZ (K:Exit->AState->Prop):Exit->AState->Prop
 | .goto _,_=>False
 | e,S=>K e S
theorem z5S {c:Code} (h:Avc P r E c (yHZ K) S):Avc P r E (.scope c) K S:=λa w D=>
 z1J (gR (h a w D) λe G w' ⟨S',z,k⟩=>by
  cases e with
  | goto l=>exact z
  | _=>exact⟨S',z,k⟩)
theorem z5T {l:Nat} (h:K .normal S):Avc P r E (.label l) K S:=λ_ _ k=>wpIn_label ⟨S,h,k⟩
end
end Go.AV
namespace Go.M
def zSV {h:Type} (mk:Int->Int->h):List Int->List h
 | []=>[]
 | x::l=>l.map (mk x)
theorem zZE (l:List Int):(Lib.compact l++List.replicate (l.length-(Lib.compact l).length) 0).length=l.length:=by
 have:(Lib.compact l).length<=l.length:=by
  unfold Lib.compact Lib.compactUpTo;rw[eY];exact d7 (gZ ..) (by simp)
 rw[cZ,List.length_replicate];omega
def z2S (l:List Int):Option (List Int):=if l.length<=LIM then some (Lib.compact l) else none
end Go.M
namespace Go.AV
open Go.RowKit Go.M Go.Sort
section
variable {P:Program} {α:Type} [Inhabited α]
theorem zZF (w:World):grow w #[]=w:=by simp[grow]
theorem z1K {f:FuncId} {e:Nat} {en:En α} {encV: α->Value} (hv:∀x,en.dv x= .v (encV x)) (br:en.size=1) (h1:∀x,(encV x).oneCell'=true) {l c pad:List α} (hl:(c++pad).length=l.length)
  (bm:∃fn,P.funcs[f]? =some fn/\(fn.name== "runtime.NumGoroutine")=false/\fn.body.isNone=false)
  (ay:l= []->∀(A:Option Addr) (k:Nat) (w:World),Calls P f #[.slice A 0 k] w λen w'=>en= .returned (.slice A 0 k)/\w'=w)
  (ab:∀(blk off aa:Nat) (w:World),Sort.Holds encV w blk off l.toArray->l.length<=aa->Calls P f #[.slice (some ⟨blk,off,none⟩) l.length aa] w λen w'=>
   en= .returned (.slice (some ⟨blk,off,none⟩) c.length aa)/\∃q,w'=putRow encV (Sort.ahead w q) blk off (c++pad).toArray):
  GC P f [.row 0] [(0,.win e en.size 0 (en.all l))] [] [.d (zN en c)] []:=by
 have G:∀m:List α,en.all m=m.map λx=>DV.v (encV x):=λm=>by
  have:en.cells=λx=>[DV.v (encV x)]:=by funext x;simp[En.cells,hv,w8]
  simp only[En.all,this]
  induction m with
  | nil=>rfl
  | cons x m ih=>simp[ih]
 refine⟨bm,λw I ρ vs hI hG ag ba=>?_⟩;have au:=ba.1
 match vs,au with
 | [v0],_=>
  have bt:v0= ρ 0:=ba.2 0 v0 (.row 0) rfl rfl;subst bt;have hk:=ag.ok 0;have ax:look Blk.none [(0,Blk.win e en.size 0 (en.all l))] 0= .win e en.size 0 (en.all l):=rfl;rw[ax] at hk;obtain⟨A,n,cp,xs,aj,bq,hp,ac,hr,cj,hA⟩:=hk;have hn:n=l.length:=by rw[kZ] at ac;exact(Nat.eq_of_mul_eq_mul_right hp ac).symm
  subst hn;have bu:xs=l.map encV:=by
   have ch:xs.length=l.length:=by have:=hr.1;rw[G] at this;simpa using this
   apply fV;intro j;by_cases Z:j<xs.length
   ·have bb:xs[j]? =some xs[j]:=cV Z
    have aw:l[j]? =some (l[j]'(by omega)):=cV (by omega);have:=hr.2 j xs[j] (.v (encV (l[j]'(by omega)))) bb (by rw[G];simp[aw])
    rw[bb,dX,aw,zOE this];rfl
   ·rw[fT (by omega),fT (by simp;omega)]
  have own:∀b,blockOf (ρ 0)=some b->jQ [(0,Blk.win e en.size 0 (en.all l))] ρ b:=λb hb=>⟨0,by rw[ax];simp,hb⟩
  have Y:∀b (bc:Nat->Value),¬jQ [] bc b:=by rintro b bc ⟨id,O,_⟩;exact O rfl
  have am:∀(w:World) (I:Im) (ρ:Nat->Value),Frag w I ρ []:=λw I ρ=>⟨λ_=>trivial,λid _ _ _ h=>absurd rfl h⟩;rcases hA with ⟨rfl,bo⟩ | ⟨b,off,arr,rfl,_,hh,ap,hc,an⟩
  ·have ah:l= []:=cS bo
   have ad:c= []:=cS (by rw[cZ] at hl;omega)
   subst ah;subst ad;rw[aj];refine(ay rfl none cp w).mono ?_
   rintro bi w' ⟨rfl,rfl⟩
   exact⟨_,I,ρ,rfl,Chg.refl _ _,kM _ _,λ_ _ h=>h,λb j hi=>⟨hI b j hi,.inl hi⟩,am _ _ _,.nil _ _ _,λb hb=>absurd hb (Y b ρ),λ_ h=>by cases h⟩
  ·have hb:b<w.heap.size:=(cU.1 hh).1
   rw[br,gC] at ap an;have hH:Sort.Holds encV w b off l.toArray:=by
    intro j Z;have aq:j<l.length:=by simpa using Z
    refine⟨?_,by simp[World.frozen?,hh]⟩;rw[e7 w b (off+j) arr e (0,0) hh];have:=hc j (encV (l[j])) (by rw[bu,dX,cV aq];rfl)
    rw[this];congr 2;simp[aq]
   have ao:blockOf (ρ 0)=some b:=by rw[aj];rfl
   rw[aj];refine(ab b off cp w hH bq).mono ?_
   rintro bi w' ⟨rfl,q,rfl⟩
   have H:∀k,k<w.heap.size->k≠b->(putRow encV (Sort.ahead w q) b off (c++pad).toArray).heap[k]? =w.heap[k]?:=λk hk O=>by
    have:=zGT (os:= #[]) (n:=q) (off:=off) encV (c++pad).toArray hk O
    rwa [zZF] at this
   have T:(putRow encV (Sort.ahead w q) b off (c++pad).toArray).heap[b]? =some (.cells (putCells encV off (c++pad).toArray arr) e (0,0)):=by
    have:=zST (os:= #[]) (n:=q) (off:=off) encV (c++pad).toArray hh
    rwa [zZF] at this
   have D:(putRow encV (Sort.ahead w q) b off (c++pad).toArray).heap.size=w.heap.size:=by simp[putRow,mapBlock,Sort.ahead]
   have ai:Same I w (putRow encV (Sort.ahead w q) b off (c++pad).toArray):=by
    intro K j hi;by_cases e':K=b
    ·subst e'
     have bv:j<off\/off+l.length<=j:=by
      rcases fI j off with h | h
      ·exact .inl h
      ·rcases fI j (off+l.length) with h2 | h2
       ·have:=an j h h2 hi;omega
       ·exact .inr h2
     refine KeepB.ofCell hh ?_;rw[e7 _ K j _ e (0,0) T,e7 w K j arr e (0,0) hh];simp only[putCells,iq,fZ,hl];have:¬(off<=j/\j<off+l.length):=by omega
     simp[this]
    ·exact KeepB.of (H K (hI K j hi) e')
   have ac:c.length<=l.length:=by rw[cZ] at hl;omega
   refine⟨_,λK j=>I K j\/(K=b/\off<=j/\j<off+c.length),ρ,rfl,⟨rfl,rfl,rfl,by rw[D];exact dF _,λk hk O=>H k hk (λe'=>O (own k (by rw[ao,e'])))⟩,ai,λ_ _ h=> .inl h,λK j hi=>?_,am _ _ _,?_,λK bl=>absurd bl (Y K ρ),λ_ h=>by cases h⟩
   ·rcases hi with hi | ⟨rfl,_,_⟩
    ·exact⟨by rw[D];exact hI K j hi,.inl hi⟩
    ·exact⟨by rw[D];exact hb,.inr (.inr (own _ ao))⟩
   ·by_cases hz:c= []
    ·subst hz;exact .nil _ _ _
    have az:0<c.length:=e6.2 hz;refine .sl b off c.length cp en.size (c.map encV) (en.all c) az (by omega) (by rw[kZ]) (by rw[G];simp) (λj x Z=>?_) (by simpa using λx _=>h1 x) (λj x d hx hd=>?_)
    ·rw[dX] at Z
     cases z:c[j]? with
     | none=>simp[z] at Z
     | some y=>
      simp[z] at Z;subst Z;have ar:j<c.length:=(c9.1 z).1;refine⟨?_,.inr ⟨rfl,by omega,by omega⟩⟩;rw[e7 _ b (off+j) _ e (0,0) T];simp only[putCells,iq,fZ];have bp:off+j<arr.size:=by omega
      rw[fJ bp];have bn:off<=off+j/\off+j<off+(c++pad).length:=by rw[hl];omega
      simp only[eX,bn,iv,dH];have e3:off+j-off=j:=by omega
      rw[e3];congr 2;have:c[j]? =some c[j]:=cV ar;rw[this] at z;cases z;simp only[List.getElem!_toArray,List.getElem!_eq_getElem?_getD,d5 ar,this,gO]
    ·rw[G] at hd
     rw[dX] at hx hd;cases z:c[j]? with
     | none=>simp[z] at hx
     | some y=>simp[z] at hx hd;subst hx;subst hd;exact .v _
end
open Go.RowKit Go.M
end Go.AV
namespace Go.M
end Go.M
namespace Go.AV
open Go.RowKit Go.M
section
variable {P:Program} {r:Option Nat} {E:Env} {S:AState} {d:Nat} {ty:TypeId} {pos:String} {af:Array Edge} {g:Option (Nat×Bool)}
theorem z8O {f:FuncId} {h:List Operand} {ds:List DV} (O:d<E.n) (D:unD (h.map S.ev)=some ds):
  AOp P r E S ⟨some d,.makeFunc (.func f) h.toArray #[],ty,pos,af,g⟩ d (.d (.bm f ds)):=
 ⟨rfl,O,λS' Z=>zQ rfl O (by simp) λA w I ρ C hs=>by
  have K:h.map S'.ev=h.map S.ev:=fS λx hx=>Z.ev (by simp[Op.operands];simpa using hx)
  rw[<-K] at D;obtain⟨T,Y⟩:=zD0 S' D;have k:Reps w I (h.map A.eval) ds:=by
   have:=uB hs h;generalize h.map A.eval=vs at this ⊢;generalize h.map S'.ev=H at this D;clear T Y K
   induction H generalizing vs ds with
   | nil=>simp[unD] at D;subst D;have:vs= []:=cS this.1;subst this;exact Pw.nil
   | cons c cells ih=>
    cases vs with
    | nil=>have:=this.1;simp at this
    | cons x xs=>
     cases c with
     | d y=>
      simp only[unD] at D;cases G:unD cells with
      | none=>simp[G] at D
      | some ys=>
       simp[G] at D;subst D;exact Pw.cons (this.2 0 x (.d y) rfl rfl) (ih xs ⟨by have:=this.1;simpa using this,λj u z G hz=>this.2 (j+1) u z (by simpa using G) (by simpa using hz)⟩ G)
     | _=>simp[unD] at D
  refine⟨.func (.func f) (h.map A.eval).toArray #[],?_,.bm f _ ds k.1 k.2⟩;simp[execOp,Instr.makeFunc]⟩
theorem z8P {f:FuncId} {x:Operand} {xs:List Operand} {ats:Array TypeId} {h ds rs:List DV} (hn:d<E.n) (hx:S.ev x= .d (.bm f h)) (Z:unD (xs.map S.ev)=some ds) (hc:zH P f (h++ds) rs) (hG:E.gdt=zAU P:=by rfl):
  AOp P r E S ⟨some d,.call {callee:= .value x,args:=xs.toArray,argTypes:=ats},ty,pos,af,g⟩ d (zR7 rs):=
 ⟨rfl,hn,λS' ha=>by
  have he:xs.map S'.ev=xs.map S.ev:=fS λx hx=>ha.ev (by simp[Op.operands,Call.operands,hx]);rw[<-he] at Z;obtain⟨am,an⟩:=zD0 S' Z
  rintro A w K Q ⟨I,ρ,C,hs⟩ hk
  obtain⟨⟨fn,hf,T,H⟩,O⟩:=hc;obtain⟨I1,h1,G,h3⟩:=SatAt.dvL _ hs (uB hs xs) am;rw[an] at G;have ag:=hs.ev x;rw[(ha.ev (x:=x) (by simp[Op.operands,Call.operands])).trans hx] at ag;have k:Rep w I (A.eval x) (.bm f h):=ag;generalize ar:A.eval x=vx at k;cases k with
  | bm f D h al ak=>
   have Y:Reps w I1 D h:=⟨al,λj u z hu hz=>(ak j u z hu hz).mono (kM I w) h1⟩;have aj:=O w I1 (D++xs.map A.eval) (λb j hi=>(G.old b j hi).1) (hG▸G.gl) (Pw.append Y h3);refine⟨λf _=>trivial,?_⟩;rw[Oper.semAt_eq _ _ _ (by simp)];have ac:(execOp A.eval ⟨some d,.call {callee:= .value x,args:=xs.toArray,argTypes:=ats},ty,pos,af,g⟩).run P w= .ok (.enter f (D++xs.map A.eval).toArray) w:=by
    simp only[execOp,resolve,ar,Deferred.ofValue];have ao:¬fn.name= "runtime.NumGoroutine" :=by simpa using T
    have ap:¬fn.body=none:=by intro e;simp[e] at H
    simp[invoke,callFunc,hf,ao,ap,eH]
   rw[ac];refine⟨by simp[fen,Fence.wide],?_⟩;show CallsIn Fence.wide 0 P f _ w _;refine gy.2 (aj.mono ?_)
   rintro e w' ⟨v,I',rfl,hb,ad,aa,ab⟩
   refine hk _ _ ⟨I',ρ,C,SatAt.put ?_ hn (zHF ab)⟩;have h4:=G.grow hb;exact h4.widen ad aa (λi b hi ah=>(G.blt i b hi ah).2) (E.size _ _ _ G.frame) (λb hc=>E.csize _ _ _ G.frame b hc)⟩
end
open Go.RowKit Go.Proofs Go.M
open Go.RowKit Go.M
def MapI {k:Type} (kv: k->Value) (w:World) (b:Nat) (mp:List (k×Int)):Prop:=
 ∃ents h,w.heap[b]? =some (.map ents h)/\Pw (λ(x:MapEntry) (p: k×Int)=>x.key=kv p.1/\x.val= .int .i64 p.2) ents.toList mp
theorem MapI.keep {z:Type} {kv: z->Value} {w w':World} {b:Nat} {mp:List (z×Int)} (h:MapI kv w b mp) (hb:w'.heap[b]? =w.heap[b]?):MapI kv w' b mp:=
 let ⟨ents,k,D,G⟩:=h
 ⟨ents,k,hb.trans D,G⟩
theorem MapI.lt {k:Type} {kv: k->Value} {w:World} {b:Nat} {mp:List (k×Int)} (h:MapI kv w b mp):b<w.heap.size:=
 let ⟨_,_,z,_⟩:=h
 (cU.1 z).1
theorem z1L {w:World} {B K e H s s' n m:Nat} {v u:Value} {xs ys:List Value} (h:w.ownsRow B e s v n xs) (k:w.ownsRow K H s' u m ys) (Y:e≠H):v.ownBlock=none\/v.ownBlock≠u.ownBlock:=by rcases h.2 with ⟨rfl,_⟩ | ⟨g,O,T,rfl,_,Z,_⟩;exact .inl rfl;refine .inr λhb=>?_;rcases k.2 with ⟨rfl,_⟩ | ⟨g',D,G,rfl,_,z,_⟩;cases hb;cases hb;rw[Z] at z;cases z;exact Y rfl
theorem z2T {G:Type} {kv: G->Value} {w:World} {B e s n b:Nat} {v:Value} {xs:List Value} {mp:List (G×Int)} (h:w.ownsRow B e s v n xs) (k:MapI kv w b mp):v.ownBlock≠some b:=by
 intro hb;obtain⟨ents,z,D,_⟩:=k;rcases h.2 with ⟨rfl,_⟩ | ⟨g,H,K,rfl,_,O,_⟩
 cases hb;cases hb;rw[O] at D;cases D
structure GIx (w:World) (B ts ti:Nat) (tA:Value) (vs:List Value) (gs:List (List Int)):Prop where
 row:w.ownsRow B ts 1 tA vs.length vs
 rows:Pw (λv (g:List Int)=>w.ownsRow B ti 1 v g.length (g.map (Value.int .i64))) vs gs
 dist:∀(i j:Nat) (v u:Value) (b:Nat),i≠j->vs[i]? =some v->vs[j]? =some u->v.ownBlock=some b->u.ownBlock≠some b
section
variable {w w':World} {B ts ti:Nat} {tA:Value} {vs:List Value} {gs:List (List Int)}
theorem GIx.nil (w:World) (B ts ti:Nat):GIx w B ts ti (.slice none 0 0) [] []:=⟨ij _ _ _ _,Pw.nil,λi j v u b _ h=>by simp at h⟩
theorem GIx.keep (h:GIx w B ts ti tA vs gs) {row:Option Nat} (k:w.grownBy w' row) (D:tA.ownBlock=none\/tA.ownBlock≠row) (G:∀v∈vs,v.ownBlock=none\/v.ownBlock≠row):GIx w' B ts ti tA vs gs:=
 ⟨h.row.kept k D,⟨h.rows.1,λj x y z H=>(h.rows.2 j x y z H).kept k (G x (eT z))⟩,h.dist⟩
theorem GIx.inner (h:GIx w B ts ti tA vs gs) {v:Value} (D:v∈vs):∃g,w.ownsRow B ti 1 v g.length (List.map (Value.int .i64) g):=by obtain⟨j,z,rfl⟩:=List.mem_iff_getElem.1 D;have k:j<gs.length:=h.rows.1▸z;exact⟨gs[j],h.rows.2 j _ _ (cV z) (cV k)⟩
theorem GIx.map {z:Type} {kv: z->Value} {b:Nat} {mp:List (z×Int)} (h:GIx w B ts ti tA vs gs) (k:MapI kv w b mp) (D:w.grownBy w' (some b)):GIx w' B ts ti tA vs gs:=
 h.keep D (.inr (z2T h.row k)) λv G=> .inr (let ⟨_,q⟩:=h.inner G;z2T q k)
theorem GIx.push (h:GIx w B ts ti tA vs gs) (H:ts≠ti) {k:Value} (T:w.grownBy w' tA.ownBlock) (Y:w'.ownsRow B ts 1 k (vs.length+1) (vs++ [.slice none 0 0])):GIx w' B ts ti k (vs++ [.slice none 0 0]) (gs++ [[]]):=by
 refine⟨by simpa using Y,Pw.append ⟨h.rows.1,λj x y K O=>(h.rows.2 j x y K O).kept T ?_⟩ (Pw.cons (ij _ _ _ _) Pw.nil),?_⟩
 ·rcases z1L (h.rows.2 j x y K O) h.row (Ne.symm H) with q | q
  ·exact .inl q
  ·exact .inr q
 ·intro i j v u b G D z hb
  rw[List.getElem?_append] at D z;split at D
  ·split at z
   ·exact h.dist i j v u b G D z hb
   ·have:u= .slice none 0 0:=by
     have:=eT z;simpa using this
    subst this;intro e;cases e
  ·have:v= .slice none 0 0:=by
    have:=eT D;simpa using this
   subst this;cases hb
theorem GIx.put (h:GIx w B ts ti tA vs gs) (O:ts≠ti) {w1 w2:World} {k:Nat} {v Y:Value} {g:List Int} {x:Int} (H:vs[k]? =some v) (K:gs[k]? =some g)
  (hg:w.grownBy w1 v.ownBlock) (hr:w1.ownsRow B ti 1 Y (g.length+1) (g.map (Value.int .i64)++ [.int .i64 x])) (hl:Y.ownBlock=v.ownBlock\/Y.ownBlock=some w.heap.size)
  (ad:w1.grownBy w2 tA.ownBlock) (ag:w2.ownsRow B ts 1 tA vs.length (vs.set k Y)):GIx w2 B ts ti tA (vs.set k Y) (gs.set k (g++ [x])):=by
 have ac:w1.ownsRow B ts 1 tA vs.length vs:=h.row.kept hg (z1L h.row (h.rows.2 k v g H K) O);have k2:∀{u:Value} {m:Nat} {ys:List Value},w1.ownsRow B ti 1 u m ys->w2.ownsRow B ti 1 u m ys:=λq=>q.kept ad (z1L q ac (Ne.symm O));refine⟨by simpa using ag,⟨by simp[h.rows.1],λj u y z T=>?_⟩,?_⟩
 ·rw[ii] at z T
  by_cases e:k=j
  ·subst e
   have l1:=(c9.1 H).1;have l2:=(c9.1 K).1;simp[l1] at z;simp[l2] at T;subst z;subst T;have:=k2 hr;simpa using this
  ·simp only[e,cY] at z T
   refine k2 ((h.rows.2 j u y z T).kept hg ?_);cases hb:u.ownBlock with
   | none=>exact .inl rfl
   | some b=>exact .inr λZ=>h.dist j k u v b (Ne.symm e) z H hb Z.symm
 ·have lt:∀(i:Nat) (u:Value) (b:Nat),vs[i]? =some u->u.ownBlock=some b->b<w.heap.size:=λi u b z hb=>by
   obtain⟨_,q⟩:=h.inner (eT z);exact(q.lt b hb).2
  intro i j p u b D G z hb;rw[ii] at G z;have l1:=(c9.1 H).1;by_cases e:k=i
  ·subst e
   simp[l1] at G;subst G;simp only[D,cY] at z;rcases hl with hl | hl
   ·exact h.dist k j v u b D H z (hl▸hb)
   ·intro e3
    have:=lt j u b z e3;rw[hl] at hb;cases hb;omega
  ·simp only[e,cY] at G
   by_cases Z:k=j
   ·subst Z
    simp[l1] at z;subst z;rcases hl with hl | hl
    ·rw[hl]
     exact h.dist i k p v b D G H hb
    ·rw[hl]
     intro e3;cases e3;have:=lt i p _ G hb;omega
   ·simp only[Z,cY] at z
    exact h.dist i j p u b D G z hb
end
def yDG (s:List (Str×Int)×List (List Int)) (key:Str) (i:Nat):List (Str×Int)×List (List Int):=
 match mget s.1 key with
 | some g=>(s.1,s.2.set g.toNat (s.2.getD g.toNat []++ [(i:Int)]))
 | none=>(xY s.1 key (s.2.length:Int),s.2++ [[(i:Int)]])
def yLA (h:List Str):Nat->List (Str×Int)×List (List Int)
 | 0=>([],[])
 | k+1=>yDG (yLA h k) (h.getD k []) k
def yND (l:List Int):Bool:=decide (1<l.length)
def grpE (h:List Str):List (List Int):=(yLA h h.length).2.filter yND
structure GOk (s:List (Str×Int)×List (List Int)) (k:Nat):Prop where
 val:∀p∈s.1,0<=p.2/\p.2.toNat<s.2.length
 len:s.2.length<=k
 each:∀g∈s.2,g.length<=k
open Go.RowKit Go.M
def yLB {h:Type} (e:En h):Option h->DV
 | none=> .v (.pointer none)
 | some x=> .pt (e.cells x)
theorem z8Q {h:Type} (e:En h) (o:Option h):(AV.d (yLB e o)).one=true:=by cases o<;>rfl
theorem oN {z k:Type} {a:Option k} {f: z->Option k} {r: k} (h:Option.elim (none:Option z) a f=some r):a=some r:=h
theorem oS {z k:Type} {x: z} {a:Option k} {f: z->Option k} {r: k} (h:Option.elim (some x) a f=some r):f x=some r:=h
end Go.AV


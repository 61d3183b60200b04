/- The layer of abstract values: what a temporary holds, said once; every rule of it is proved from the model. Conditions: none. -/
import Derived.Test.YtlcjeomefjmhgaaGreatDoorLa2
import Derived.ChangeArms
import Derived.OpenShut
import Derived.WideShapes
set_option linter.unusedSimpArgs false
set_option linter.unusedVariables false
set_option linter.unnecessarySimpa false
namespace Go.AV
open Go.RowKit Go.M
section
variable {P:Program} {r:Option Nat} {E:Env} {S:AState} {d:Nat} {ty:TypeId} {pos:String} {af:Array Edge} {g:Option (Nat×Bool)}
theorem z1J {t e:TypeId} {n es id:Nat} {zs:List Value} {x:Operand} {z:IntKind} (k:Nat) (O:d<E.n) (H:ArTy P t n es e zs) (hx:S.ev x= .ptr id 0) (hk:k<n):
  AOp P r E S ⟨some d,.slice t x (some (.const (.int z k))) none none,ty,pos,af,g⟩ d (.rs id (k*es) (n-k)):=
 ⟨rfl,O,fun S' Z=>zW rfl O (by simp) fun A w I ρ C hs=>by
  have h:=hs.ev x;rw[(Z.ev (x:=x) (by simp[Op.operands])).trans hx] at h;obtain⟨b,T,Y⟩:=h;refine⟨_,?_,some ⟨b,k*es,none⟩,n-k,rfl,Nat.le_refl _,fun _=>⟨b,T,rfl⟩⟩;have G:n≠k:=by omega
  have hb:(Instr.sliceBounds false n n (some (.int z k)) none none).run P w= .ok (k,n,n) w:=by
   simp[Instr.sliceBounds,xC (P:=P) w z k n _ (by omega)]
  have hc:A.eval (.const (.int z k))= .int z k:=rfl;simp only[execOp,Instr.sliceAt,Sem.run_bind,run_underlying H.und,Result.andThen_ok,Y,Option.map_some,Option.map_none,hc,Instr.sureAddr,Sem.run_pure,hb,H.size,G,if_false,w9,Nat.zero_add]⟩
def yGY (cells:List AV) (off:Nat) (news:List AV):List AV:=cells.take off++news++cells.drop (off+news.length)
theorem z4G {t e bytes:Nat} {z:Value} {x y:Operand} {id eb off n1 m:Nat} {cells:List AV} {news:List DV} (hn:d<E.n) (hT:SlTy P t e 1 bytes z) (hx:S.ev x= .rs id off n1) (hb:S.blk id= .box eb cells) (bg:off+n1≤cells.length) (hp:0<n1)
  (hy:S.ev y= .d (.sl 1 news)) (ah:news.length=m) (hE:E.wrB=true):
  k4 P r E ⟨some d,.call {callee:= .builtin .copy,args:= #[x,y],argTypes:= #[t,t]},ty,pos,af,g⟩ S ((S.setBlk id (.box eb (yGY cells off ((news.take (min m n1)).map AV.d)))).put d (.d (.v (.int .i64 (min m n1:Nat))))):=
 wM (by simp) fun A w I ρ C hs=>by
  have h1:=hs.ev x;rw[hx] at h1;obtain⟨D,c1,hv,_,ad⟩:=h1;obtain⟨b,aa,rfl⟩:=ad hp;have h2:=hs.ev y;rw[hy] at h2;obtain⟨B,G,c2,ys,ba,_,ai,ak,au,ay⟩:=Rep.sl_inv h2;have az:G=m:=by rw[←ah,ai];omega
  subst az;have ag:=hs.blks id;rw[hb] at ag;obtain⟨H,arr,T,hB,hh,ac,aj,hI⟩:=ag;have aw:H=b:=by rw[T] at aa;simpa[blockOf] using aa
  subst aw;have bl:arr.size=cells.length:=by rw[←Array.length_toList,aj.1]
  have bb:ys.length=G:=by rw[ak.1,ah]
  have k:=fun (ab:Array Value)=>xB (w:=w) (I:=I) (b:=H) (arr:=ab) hI
  let zs:=ys.take (min G n1)
  have ap:zs.length=min G n1:=by simp only[zs,List.length_take,bb];omega
  have ao:∀u∈zs,u.oneCell'=true:=fun u hu=>au u (List.mem_of_mem_take hu);have an:=run_storeCells_at P H off eb zs 0 arr w hh (by omega) ao;simp only[Nat.add_zero] at an;have am:=hs.modify (zAC w H (arr.toList.take off++zs++arr.toList.drop (off+zs.length)).toArray) (by rw[hb];simp) aa (k _) (x:= .box eb (yGY cells off ((news.take (min G n1)).map AV.d)))
   ⟨H,_,T,hB,setRow_heap w H arr _ eb _ hh,by
    intro v hv';simp only[List.mem_append] at hv';rcases hv' with (hv' | hv') | hv'
    ·exact ac v (List.mem_of_mem_take hv')
    ·exact ao v hv'
    ·exact ac v (List.mem_of_mem_drop hv'),by
    have O:=aj.imp fun _ _ h=>Holds.mono h (k (arr.toList.take off++zs++arr.toList.drop (off+zs.length)).toArray) (fun _ _ h=>h);have al:Pw (Holds (w.setRow H (arr.toList.take off++zs++arr.toList.drop (off+zs.length)).toArray) I ρ) zs ((news.take (min G n1)).map AV.d):=
     yK8 (Reps.mono (ak.take _) (k _) (fun _ _ h=>h))
    unfold yGY;rw[←al.1];exact Pw.append (Pw.append (O.take off) al) (O.drop _),hI⟩ hE
  have Z:(Builtin.firstCells 1 (min G n1) (.slice B G c2)).run P w= .ok zs.toArray w:=by
   by_cases h0:G=0
   ·subst h0
    have hz:zs= []:=List.eq_nil_of_length_eq_zero (by rw[ap];omega)
    rw[hz,Nat.zero_min];cases B<;>simp[Builtin.firstCells,loadCells,loadCellsFrom]
   ·obtain⟨b2,o2,rfl,ax⟩:=ay (by omega)
    refine run_firstCells_some w 1 (min G n1) ⟨b2,o2,none⟩ G c2 zs (by rw[ap];omega) fun j v hj=>?_
    rw[w9];simp only[zs,List.getElem?_take] at hj;split at hj
    ·exact(ax j v hj).1
    ·cases hj
  have Y:=zE6 (P:=P) (ty:=ty) hT.und w _ (hT.size w) (some ⟨H,off,none⟩) B n1 c1 G c2 zs Z an;refine⟨_,_,?_,I,ρ,C,am.put hn (.v _)⟩;simp only[execOp,resolve,invoke,builtin,Sem.run_bind,Sem.run_pure,Result.andThen_ok,List.map_toArray,List.map_cons,List.map_nil,hv,ba,Y]
def cpA (l:List Int) (i:Nat) (x:Int):Int:=(l[i]?).getD x
theorem yPJ (l:List Int) (y x0 x1 x2 x3 x4 x5 x6 x7:Int):yGY ([y,x0,x1,x2,x3,x4,x5,x6,x7].map fun v=>AV.d (di v)) 1 (((eI.all l).take (min l.length 8)).map AV.d)=
  [y,cpA l 0 x0,cpA l 1 x1,cpA l 2 x2,cpA l 3 x3,cpA l 4 x4,cpA l 5 x5,cpA l 6 x6,cpA l 7 x7].map fun v=>AV.d (di v):=by
 match l with
 | []=>rfl
 | [_]=>rfl
 | [_,_]=>rfl
 | [_,_,_]=>rfl
 | [_,_,_,_]=>rfl
 | [_,_,_,_,_]=>rfl
 | [_,_,_,_,_,_]=>rfl
 | [_,_,_,_,_,_,_]=>rfl
 | a::b::c::dd::e::f::k::h::rest=>
  have:min (a::b::c::dd::e::f::k::h::rest).length 8=8:=by simp only[List.length_cons];omega
  rw[this];rfl
section win
variable {t e size bytes k n:Nat} {z:Value} {x:Operand} {id:Nat} {cells:List DV}
theorem z1K {Z:Operand} {kk:IntKind} {i:Int} {j:Nat} (hn:d<E.n) (hT:SlTy P t e size bytes z) (hx:S.ev x= .row id) (hb:S.blk id= .win e size k cells) (hi:S.ev Z= .d (.v (.int kk i))) (hj:i=(j:Int)) (hl:cells.length=n*size) (T:j<n):
  AOp P r E S ⟨some d,.indexAddr t x Z,ty,pos,af,g⟩ d (.wp id (j*size)):=
 ⟨rfl,hn,fun S' H=>zW rfl hn (by simp) fun A w I ρ C Y=>by
  subst hj;have h1:=Y.ev x;rw[(H.ev (x:=x) (by simp[Op.operands])).trans hx] at h1;have hv:A.eval x= ρ id:=h1;have hk:=Y.blks id;rw[(H.blk id).trans hb] at hk;obtain⟨_,A',c,xs,G,ac,_,_,h⟩:=zI5 hk hl;obtain⟨b,off,arr,rfl,_⟩:=h (by omega);have O:=Y.val ((H.ev (x:=Z) (by simp[Op.operands])).trans hi);refine⟨_,?_,b,off,n,c,G,rfl⟩;simp only[execOp,hv,G,O,Sem.run_bind,zI0 w hT.und (hT.size w) b off n c kk j T];rfl⟩
theorem z9B {tt:TypeId} {off:Nat} {y:DV} (hn:d<E.n) (hT:OneTy P tt) (hx:S.ev x= .wp id off) (hb:S.blk id= .win e size k cells) (hc:cells[off]? =some y):
  AOp P r E S ⟨some d,.load tt x,ty,pos,af,g⟩ d (.d y):=
 ⟨rfl,hn,fun S' ha=>zW rfl hn (by simp) fun A w I ρ C hs=>by
  have h1:=hs.ev x;rw[(ha.ev (x:=x) (by simp[Op.operands])).trans hx] at h1;obtain⟨b,o,n0,c0,Z,hv⟩:=h1;have hk:=hs.blks id;rw[(ha.blk id).trans hb] at hk;obtain⟨A',n',c,xs,h,ao,hp,an,hr,ak,H⟩:=hk;rw[Z] at h;cases h;have Y:off<xs.length:=by rw[hr.1];exact(List.getElem?_eq_some_iff.1 hc).1
  have O:=List.getElem?_eq_getElem Y;rcases H with ⟨H,_⟩ | ⟨b',aj,arr,H,hM,hh,hf,T,hI⟩
  ·cases H
  ·cases H
   refine⟨xs[off],?_,hr.2 off _ y O hc⟩;have G:w.cell? ⟨b,o+off,none⟩=some xs[off]:=by rw[cell_of_row w b (o+off) arr e (0,0) hh];exact T off _ O
   simp only[execOp,hv,Sem.run_bind,zGR w hT b _ _ G];rfl⟩
theorem SatAt.spliceW {A:Act} {w:World} {I:Im} {ρ:Nat→Value} {C:Nat→Prop} (hs:SatAt E S A w I ρ C) {off b o:Nat} {news:List DV} {ys:List Value} {n0 c0:Nat} (hb:S.blk id= .win e size k cells) (ak: ρ id= .slice (some ⟨b,o,none⟩) n0 c0)
  (hk:k*size≤off) (aw:off+news.length≤cells.length) (ax:0<news.length) (ad:Reps w I ys news) (Y:∀u∈ys,u.oneCell'=true) (hE:E.wrB=true):
  ∃w',(storeCells ⟨b,o+off,none⟩ ys).run P w= .ok () w'∧SatAt E (S.setBlk id (.win e size k (spl cells off news))) A w' I ρ C:=by
 have aa:=hs.blks id;rw[hb] at aa;obtain⟨A',n',c,xs,O,ap,hp,ao,hr,T,Z⟩:=aa;have al:=O;rw[ak] at O;cases O;have aq:ys.length=news.length:=ad.1;rcases Z with ⟨Z,h0⟩ | ⟨b',ba,arr,Z,hM,hh,hf,ab,hI⟩
 ·cases Z
 ·cases Z
  have aj:=run_storeCells_at P b (o+off) e ys 0 arr w hh (by omega) Y;simp only[Nat.add_zero] at aj;have G:Same I w (w.setRow b (arr.toList.take (o+off)++ys++arr.toList.drop (o+off+ys.length)).toArray):=by
   intro b2 j hi;by_cases e':b2=b
   ·subst e'
    refine KeepB.ofCell hh (zRA hh _ ?_);have ac:j<o+off∨o+off+ys.length≤j:=by
     rcases Nat.lt_or_ge j o with h | h
     ·left;omega
     ·rcases Nat.lt_or_ge j (o+n0*size) with h2 | h2
      ·have:=hI j h h2 hi;left;omega
      ·right;omega
    have bd:o+off+ys.length≤arr.size:=by omega
    simp only[List.getElem?_toArray,List.append_assoc];rcases ac with h | h
    ·rw[List.getElem?_append_left (by simp;omega),List.getElem?_take,if_pos h];simp
    ·rw[List.getElem?_append_right (by simp;omega),List.getElem?_append_right (by simp;omega),List.getElem?_drop]
     simp only[List.length_take,Array.length_toList];rw[show o+off+ys.length+(j-min (o+off) arr.size-ys.length)=j by omega];simp
   ·exact KeepB.of (setRow_other w b b2 _ e')
  have ai:(spl cells off news).length=cells.length:=by simp[spl];omega
  refine⟨_,aj,hs.modify (zAC w b _) (by rw[hb];simp) (by rw[ak];rfl) G ⟨_,n0,c0,xs.take off++ys++xs.drop (off+ys.length),al,ap,hp,by rw[ai,ao],?_,?_,.inr ⟨b,o,_,rfl,hM,setRow_heap w b arr _ e _ hh,?_,?_,hI⟩⟩ hE⟩
  ·have ah:=hr.mono G (fun _ _ h=>h)
   have ag:=ad.mono G (fun _ _ h=>h);unfold spl;rw[←aq];exact Pw.append (Pw.append (ah.take off) ag) (ah.drop (off+ys.length))
  ·intro v hv'
   simp only[List.mem_append] at hv';rcases hv' with (hv' | hv') | hv'
   ·exact T v (List.mem_of_mem_take hv')
   ·exact Y v hv'
   ·exact T v (List.mem_of_mem_drop hv')
  ·simp;omega
  ·intro j u H
   have bf:xs.length=cells.length:=hr.1;have an:j<(xs.take off++ys++xs.drop (off+ys.length)).length:=(List.getElem?_eq_some_iff.1 H).1;simp only[List.length_append,List.length_take,List.length_drop] at an;simp only[List.getElem?_toArray,List.append_assoc] at H ⊢;rcases Nat.lt_or_ge j off with h | h
   ·rw[List.getElem?_append_left (by simp;omega),List.getElem?_take,if_pos h] at H
    rw[List.getElem?_append_left (by simp;omega),List.getElem?_take,if_pos (by omega)]
    have:=ab j u H;simpa using this
   ·rcases Nat.lt_or_ge j (off+ys.length) with h2 | h2
    ·rw[List.getElem?_append_right (by simp;omega),List.getElem?_append_left (by simp;omega)] at H
     rw[List.getElem?_append_right (by simp;omega),List.getElem?_append_left (by simp;omega)]
     simp only[List.length_take,Array.length_toList] at H ⊢;rw[show o+j-min (o+off) arr.size=j-min off xs.length by omega];exact H
    ·rw[List.getElem?_append_right (by simp;omega),List.getElem?_append_right (by simp;omega),List.getElem?_drop] at H
     rw[List.getElem?_append_right (by simp;omega),List.getElem?_append_right (by simp;omega),List.getElem?_drop]
     simp only[List.length_take,Array.length_toList] at H ⊢;rw[show off+ys.length+(j-min off xs.length-ys.length)=j by omega] at H;have:=ab j u H;rw[show o+off+ys.length+(o+j-min (o+off) arr.size-ys.length)=o+j by omega];simpa using this
theorem z4H {tt:TypeId} {y:Operand} {off:Nat} {u:DV} (hT:OneTy P tt) (hx:S.ev x= .wp id off) (hb:S.blk id= .win e size k cells) (hk:k*size≤off) (Y:off<cells.length) (hy:S.ev y= .d u) (h1:(AV.d u).one=true) (hE:E.wrB=true):
  k4 P r E ⟨none,.store tt x y,ty,pos,af,g⟩ S (S.setBlk id (.win e size k (cells.set off u))):=
 zFO rfl (by simp) fun A w I ρ C T=>by
  have h:=T.ev x;rw[hx] at h;obtain⟨b,o,n0,c0,aa,hv⟩:=h;have O:=T.ev y;rw[hy] at O;have G:=zS2 T.blks O h1 (by intro _ e;cases e)
  obtain⟨w',Z,H⟩:=T.spliceW (P:=P) (off:=off) (news:=[u]) (ys:=[A.eval y]) hb aa hk (by simp only[List.length_cons,List.length_nil];omega) (by simp) (Pw.cons O Pw.nil) (by simpa using G) hE
  refine⟨w',?_,I,ρ,C,?_⟩
  ·simp only[execOp,hv,Instr.storeAt,Instr.sureAddr,storeVar,Sem.run_bind,Sem.run_pure,Result.andThen_ok,hT.agg,hT.size,zJU G]
   simp[Z]
  ·have e1:spl cells off [u]=cells.set off u:=by
    unfold spl;rw[List.set_eq_take_append_cons_drop,if_pos Y];simp
   rw[e1] at H;exact H
theorem z9C {y:Operand} {n1 m off o2:Nat} {t1 t2:Bool} (hn:d<E.n) (hT:SlTy P t e size bytes z) (hx:S.ev x= .ws id (off*size) n1 t1) (hb:S.blk id= .win e size k cells) (hl:cells.length=n*size)
  (hy:S.ev y= .ws id (o2*size) m t2) (hk:k≤off) (ap:off+n1≤n) (aq:o2+m≤n) (hE:E.wrB=true):
  k4 P r E ⟨some d,.call {callee:= .builtin .copy,args:= #[x,y],argTypes:= #[t,t]},ty,pos,af,g⟩ S
   ((S.setBlk id (.win e size k (spl cells (off*size) (((cells.drop (o2*size)).take (m*size)).take (min m n1*size))))).put d (.d (.v (.int .i64 (min m n1:Nat))))):=
 wM (by simp) fun A w I ρ C hs=>by
  have h1:=hs.ev x;rw[hx] at h1;obtain⟨D,c1,hv,_,_,Z⟩:=h1;have h2:=hs.ev y;rw[hy] at h2;obtain⟨B,c2,ai,_,_,H⟩:=h2;have ab:Nat.min m n1=min m n1:=rfl;by_cases h0:min m n1=0
  ·have ao:SatAt E (S.setBlk id (.win e size k (spl cells (off*size) (((cells.drop (o2*size)).take (m*size)).take (min m n1*size))))) A w I ρ C:=by
    refine hs.congr' (fun _=>rfl) (fun i=>?_);rw[yA];by_cases e':id=i
    ·subst e'
     rw[hb,h0];simp[spl]
    ·simp[e']
   refine⟨.int .i64 (min m n1:Nat),w,?_,I,ρ,C,ao.put hn (.v _)⟩;have:=zE6 (P:=P) (ty:=ty) hT.und w w (hT.size w) D B n1 c1 m c2 [] (by rw[ab,h0];cases B<;>simp[Builtin.firstCells,loadCells,loadCellsFrom]) (by cases D<;>simp[storeCells])
   simp only[execOp,resolve,invoke,builtin,Sem.run_bind,Sem.run_pure,Result.andThen_ok,List.map_toArray,List.map_cons,List.map_nil,hv,ai,this]
  ·obtain⟨b,o,n0,c0,T,rfl⟩:=Z (by omega)
   obtain⟨b2,o3,n3,c3,G,rfl⟩:=H (by omega);rw[T] at G;cases G;have aa:=hs.blks id;rw[hb] at aa;obtain⟨hp,A',c,xs,h,bc,hr,al,hA⟩:=zI5 aa hl;rw[T] at h;cases h;obtain⟨b',bg,arr,am,hM,hh,hf,an,hI⟩:=hA (by omega);cases am;have ax:xs.length=n*size:=by rw[hr.1,hl]
   have bn:o2*size+m*size≤n*size:=by rw[←Nat.add_mul];exact Nat.mul_le_mul_right _ aq
   have bo:off*size+n1*size≤n*size:=by rw[←Nat.add_mul];exact Nat.mul_le_mul_right _ ap
   have bl:min m n1*size≤m*size:=Nat.mul_le_mul_right _ (by omega);have bm:min m n1*size≤n1*size:=Nat.mul_le_mul_right _ (by omega);have ar:0<min m n1*size:=Nat.mul_pos (by omega) hp
   let zs:=((xs.drop (o2*size)).take (m*size)).take (min m n1*size)
   have ad:Reps w I zs (((cells.drop (o2*size)).take (m*size)).take (min m n1*size)):=((hr.drop _).take _).take _;have aj:zs.length=min m n1*size:=by simp only[zs,List.length_take,List.length_drop,ax];omega
   have ac:(((cells.drop (o2*size)).take (m*size)).take (min m n1*size)).length=min m n1*size:=by rw[←ad.1,aj]
   obtain⟨w',aw,ah⟩:=hs.spliceW (P:=P) (off:=off*size) (ys:=zs) hb T (Nat.mul_le_mul_right _ hk) (by rw[ac,hl];omega) (by rw[ac];exact ar) ad (fun u hu=>al u (List.mem_of_mem_drop (List.mem_of_mem_take (List.mem_of_mem_take hu)))) hE
   have O:(Builtin.firstCells size (min m n1) (.slice (some ⟨b,o+o2*size,none⟩) m c2)).run P w= .ok zs.toArray w:=by
    refine run_firstCells_some w size (min m n1) ⟨b,o+o2*size,none⟩ m c2 zs aj fun j v Y=>?_;rw[w9,cell_of_row w b (o+o2*size+j) arr e (0,0) hh];simp only[zs,List.getElem?_take,List.getElem?_drop] at Y;split at Y
    ·split at Y
     ·rw[Nat.add_assoc];exact an _ v Y
     ·cases Y
    ·cases Y
   have:=zE6 (P:=P) (ty:=ty) hT.und w w' (hT.size w) (some ⟨b,o+off*size,none⟩) (some ⟨b,o+o2*size,none⟩) n1 c1 m c2 zs O aw;refine⟨_,w',?_,I,ρ,C,ah.put hn (.v _)⟩;simp only[execOp,resolve,invoke,builtin,Sem.run_bind,Sem.run_pure,Result.andThen_ok,List.map_toArray,List.map_cons,List.map_nil,hv,ai,this]
end win
end
end Go.AV
namespace Go.AV
open Go.RowKit Go.M
section
variable {P:Program} {r:Option Nat} {E:Env} {S:AState} {d:Nat} {ty:TypeId} {pos:String} {af:Array Edge} {g:Option (Nat×Bool)}
section win
variable {t e size bytes k n:Nat} {z:Value} {x:Operand} {id:Nat} {cells:List DV}
theorem zYN {xh xm:Operand} {k2 k3:IntKind} {ih:Int} {h:Nat} (hn:d<E.n) (hT:SlTy P t e size bytes z) (hx:S.ev x= .row id) (Z:S.blk id= .win e size k cells) (hl:cells.length=n*size)
    (h2:S.ev xh= .d (.v (.int k2 ih))) (h3:S.ev xm= .d (.v (.int k3 ih))) (e2:ih=(h:Int)) (ao:h≤n):
    AOp P r E S ⟨some d,.slice t x none (some xh) (some xm),ty,pos,af,g⟩ d (.ws id 0 h true):=
  ⟨rfl,hn,fun S' O=>zW rfl hn (by simp) fun A w I ρ C T=>by
    subst e2;have h1:=T.ev x;rw[(O.ev (x:=x) (by simp[Op.operands])).trans hx] at h1;have hv:A.eval x= ρ id:=h1;have hk:=T.blks id;rw[(O.blk id).trans Z] at hk;obtain⟨_,Y,c,xs,H,ag,_,_,G⟩:=zI5 hk hl;have v2:=T.val ((O.ev (x:=xh) (by simp[Op.operands])).trans h2);have v3:=T.val ((O.ev (x:=xm) (by simp[Op.operands])).trans h3);refine⟨_,?_,(if h=0 then Y else Y.map (·.add (0*size))),h-0,rfl,by omega,(by simp),fun h0=>?_⟩
    · simp only[execOp,hv,H,Sem.run_bind,Option.map_none,Option.map_some,v2,v3,z4D w hT.und (hT.size w) Y n c 0 h h none k2 k3 (.inl ⟨rfl,rfl⟩) (by omega) (by omega) (by omega)]
      rfl
    · obtain⟨b,off,arr,rfl,_⟩:=G (by omega)
      refine⟨b,off,n,c,H,?_⟩;rw[if_neg (by omega)];simp[w9]⟩
theorem z1L {s:Operand} {off m:Nat} {news:List DV} {h:Nat} (hn:d<E.n) (hT:SlTy P t e size bytes z) (bg:S.ev s= .ws id (off*size) h true) (hb:S.blk id= .win e size k cells) (hl:cells.length=n*size) (ao:off+h≤n)
  (hx:S.ev x= .d (.sl size news)) (ac:news.length=m*size) (hm:0<m) (ak:h+m≤maxLen) (O:(h+m)*bytes≤140737488355328) (bf:E.nm d=none):
  k4 P r E ⟨some d,.call {callee:= .builtin .append,args:= #[s,x],argTypes:= #[t,t]},ty,pos,af,g⟩ S (((S.kill d).setBlk d (.row e size false (((cells.drop (off*size)).take (h*size))++news))).put d (.row d)):=
 wM (by simp) fun A w I ρ C hs=>by
  obtain⟨i,hi,hz,rfl,rfl⟩:=hT.info;have h1:=hs.ev s;rw[bg] at h1;obtain⟨B,c,hv,_,bi,al⟩:=h1;have bb:=bi rfl;subst bb;have h2:=hs.ev x;rw[hx] at h2;obtain⟨B2,H,c2,ys,bj,_,ap,aj,ax,bc⟩:=Rep.sl_inv h2;obtain rfl:=zFN ap ac hT.pos;obtain⟨b2,o2,rfl,an⟩:=bc (by omega);have am:=hs.blks id;rw[hb] at am;obtain⟨hp,A',c3,xs,bm,bq,hr,aw,hA⟩:=zI5 am hl;have ca:off*i.size+c*i.size≤n*i.size:=by rw[←Nat.add_mul];exact Nat.mul_le_mul_right _ ao
  have bk:xs.length=n*i.size:=by rw[hr.1,hl]
  let G:=(xs.drop (off*i.size)).take (c*i.size)
  have ai:G.length=c*i.size:=by simp only[G,List.length_take,List.length_drop,bk];omega
  have ar:Reps w I G ((cells.drop (off*i.size)).take (c*i.size)):=(hr.drop _).take _;have bp:((c+H:Nat):Int)≤9223372036854775807:=by simp only[maxLen] at ak;omega
  have Y:∃T,(Builtin.append_ #[t,t] ty #[.slice B c c,.slice (some ⟨b2,o2,none⟩) H c2]).run P w= .ok (.slice (some ⟨w.heap.size,0,none⟩) (c+H) (grownCap w (c+H) T e))
    (w.drew.alloc (.cells ((G++ys).toArray++Builtin.zeroCells z.cells (grownCap w (c+H) T e-(c+H))) e)):=by
   have aa:∀(j:Nat) u,ys[j]? =some u→w.cell? ((⟨b2,o2,none⟩:Addr).add j)=some u:=fun j u hu=>by rw[w9];exact(an j u hu).1
   have ad:ys.length=H*i.size:=by rw[aj.1,ac]
   by_cases h0:c=0
   ·subst h0
    have ho:G= []:=List.eq_nil_of_length_eq_zero (by rw[ai];omega)
    rw[ho];cases B with
    | none=>
     have:=run_append_nil (P:=P) w t ty e i z hT.und hi hz ⟨b2,o2,none⟩ H c2 ys ad aa (by omega) (by omega) (by simp only[Nat.zero_add] at O;omega)
     exact⟨0,by simpa using this⟩
    | some a=>
     have:=run_append_grow (P:=P) w t ty e i z hT.und hi hz a 0 0 [] (by simp) (fun j u hu=>by simp at hu) ⟨b2,o2,none⟩ H c2 ys ad aa (by omega) (by omega) (growslice_fits (by omega) O);exact⟨0,by simpa using this⟩
   ·obtain⟨b,o,n0,c0,ag,rfl⟩:=al (by omega)
    rw[bm] at ag;cases ag;obtain⟨b',bu,arr,ay,hM,hh,hf,az,hI⟩:=hA (by omega);cases ay;have:=run_append_grow (P:=P) w t ty e i z hT.und hi hz ⟨b,o+off*i.size,none⟩ c c G ai (fun j u hu=>by
     rw[w9,cell_of_row w b _ arr e (0,0) hh];simp only[G,List.getElem?_take,List.getElem?_drop] at hu;split at hu
     ·rw[Nat.add_assoc];exact az _ u hu
     ·cases hu) ⟨b2,o2,none⟩ H c2 ys ad aa (by omega) (by omega) (growslice_fits (by omega) O)
    exact⟨c,by simpa using this⟩
  obtain⟨T,Y⟩:=Y;have be:=grownCap_ge w (c+H) T e;have ba:grownCap w (c+H) T e≤maxLen:=grownCap_le_maxLen w (c+H) T e ak;have bx:∀b j,I b j→b<w.heap.size:=fun b j h=>(hs.old b j h).1;have bd:Below w.heap.size w w.drew:=⟨rfl,rfl,rfl,Nat.le_refl _,fun _ _=>rfl⟩;have bh:=hs.grow bd;have ad:ys.length=H*i.size:=by rw[aj.1,ac]
  have aq:=bh.newRow (id:=d) (e:=e) (size:=i.size) (n:=c+H) (c:=grownCap w (c+H) T e) (xs:=G++ys) (rest:=(Builtin.zeroCells z.cells (grownCap w (c+H) T e-(c+H))).toList) (cells:=((cells.drop (off*i.size)).take (c*i.size))++news)
   hT.pos (by rw[List.length_append,←ar.1,ai,ac,Nat.add_mul]) be ba (by rw[Array.length_toList,size_zeroCells,hT.zs]) (by
    have Z:Same I w w.drew:=fun _ _ _=>KeepB.of rfl;exact Pw.append (Reps.mono ar Z fun _ _ h=>h) (aj.mono Z fun _ _ h=>h)) (by
    intro u hu;rcases List.mem_append.1 hu with h | h
    ·exact aw u (List.mem_of_mem_drop (List.mem_of_mem_take h))
    ·exact ax u h) bf
  refine⟨_,_,?_,I,_,C,aq.put hn (show Holds _ _ _ (.slice (some ⟨w.heap.size,0,none⟩) (c+H) (grownCap w (c+H) T e)) (AV.row d) from by simp[Holds,upd])⟩;simp only[execOp,resolve,invoke,builtin,Sem.run_bind,Sem.run_pure,Result.andThen_ok,List.map_toArray,List.map_cons,List.map_nil,hv,bj,Y];congr 2;congr 1;simp
end win
inductive View (S:AState):AV→DV→Prop
 | d (x:DV):View S (.d x) x
 | win {id e size k:Nat} {cells:List DV} (h:S.blk id= .win e size k cells):View S (.row id) (.sl size cells)
 | ws {id e size k off n N:Nat} {tt:Bool} {cells:List DV} (h:S.blk id= .win e size k cells) (hl:cells.length=N*size) (hf:off+n≤N):View S (.ws id (off*size) n tt) (.sl size ((cells.drop (off*size)).take (n*size)))
def ViewL (S:AState):List AV→List DV→Prop
 | [],ds=>ds= []
 | x::xs,ds=> ∃y ys,ds=y::ys∧View S x y∧ViewL S xs ys
theorem View.rep {a:Act} {w:World} {I:Im} {ρ:Nat→Value} {C:Nat→Prop} (hs:SatAt E S a w I ρ C) {v:Value} {x:AV} {y:DV} (h:View S x y) (hv:Holds w I ρ v x):Rep w (fun b _=>b<w.heap.size) v y:=by
 have z:∀b j,I b j→(fun b (_:Nat)=>b<w.heap.size) b j:=fun b j hi=>(hs.old b j hi).1;cases h with
 | d=>exact Rep.mono hv (kV I w) z
 | win hb=>
  rename_i id e size k cells;have hk:=hs.blks id;rw[hb] at hk;obtain⟨A,n,c,xs,Z,T,hp,hl,hr,h1,hA⟩:=hk;have Y:v= .slice A n c:=Eq.trans hv Z;subst Y;by_cases h0:n=0;subst h0;have:cells= []:=List.eq_nil_of_length_eq_zero (by omega);subst this;exact .nil _ _ _;rcases hA with ⟨_,h⟩ | ⟨b,off,arr,rfl,hM,hh,hf,hc,hI⟩
  omega;have O:b<w.heap.size:=(Array.getElem?_eq_some_iff.1 hh).1;have G:=hr.mono (kV I w) z;refine .sl b off n c size xs cells (by omega) T hl hr.1 (fun j x hj=>⟨?_,O⟩) h1 G.2;rw[cell_of_row w b (off+j) arr e (0,0) hh];exact hc j x hj
 | ws hb hl hf=>
  rename_i id e size k off n N tt cells;have hk:=hs.blks id;rw[hb] at hk;obtain⟨hp,A',c3,xs,Z,ap,hr,aj,hA⟩:=zI5 hk hl;obtain⟨B,c,Y,T,_,ab⟩:=hv;subst Y;have ba:off*size+n*size≤N*size:=by rw[←Nat.add_mul];exact Nat.mul_le_mul_right _ hf
  by_cases h0:n=0;subst h0;simp only[Nat.zero_mul,List.take_zero];exact .nil _ _ _;obtain⟨b,o,n0,c0,H,rfl⟩:=ab (by omega);rw[Z] at H;cases H;obtain⟨b',ar,arr,al,hM,hh,az,am,hI⟩:=hA (by omega);cases al;have O:b<w.heap.size:=(Array.getElem?_eq_some_iff.1 hh).1;have G:=Reps.mono ((hr.drop (off*size)).take (n*size)) (kV I w) z;refine .sl b (o+off*size) n c size ((xs.drop (off*size)).take (n*size)) _ (by omega) T (by rw[List.length_take,List.length_drop,hl];omega) G.1 (fun j x hj=>⟨?_,O⟩) (fun u hu=>aj u (List.mem_of_mem_drop (List.mem_of_mem_take hu))) G.2
  rw[cell_of_row w b _ arr e (0,0) hh];simp only[List.getElem?_take,List.getElem?_drop] at hj;split at hj;rw[Nat.add_assoc];exact am _ x hj;cases hj
theorem ViewL.reps {a:Act} {w:World} {I:Im} {ρ:Nat→Value} {C:Nat→Prop} (z:SatAt E S a w I ρ C):∀{vs:List Value} {xs:List AV} {ys:List DV},ViewL S xs ys→Pw (Holds w I ρ) vs xs→Reps w (fun b _=>b<w.heap.size) vs ys
 | [],[],ys,h,_=>by cases h;exact Pw.nil
 | [],x::xs,ys,_,k=>by have:=k.1;simp at this
 | v::vs,[],ys,_,k=>by have:=k.1;simp at this
 | v::vs,x::xs,ys,⟨y,zs,e,G,H⟩,k=>by
  subst e;obtain⟨q1,q2⟩:=zHO k;exact Pw.cons (G.rep z q1) (ViewL.reps z H q2)
theorem yGZ {f:FuncId} {xs:List Operand} {ats:Array TypeId} {ds rs:List DV} (hn:d<E.n) (hv:ViewL S (xs.map S.ev) ds) (hc:zE P f ds rs) (hG:E.gdt=zBO P:=by rfl):
  k4 P r E ⟨some d,.call {callee:= .value (.func f),args:=xs.toArray,argTypes:=ats},ty,pos,af,g⟩ S (S.put d (yJZ rs)):=by
 rintro A w K Q ⟨I,ρ,C,O⟩ hk
 obtain⟨⟨fn,hf,z,h⟩,k⟩:=hc;have h3:=hv.reps O (zBC O xs);have T:=k w (fun b _=>b<w.heap.size) (xs.map A.eval) (fun b j hi=>hi) ((hG▸O.gl).sub fun b j hi=>(O.old b j hi).1) h3;refine⟨fun f _=>trivial,?_⟩;rw[Oper.semAt_eq _ _ _ (by simp)];have H:(execOp A.eval ⟨some d,.call {callee:= .value (.func f),args:=xs.toArray,argTypes:=ats},ty,pos,af,g⟩).run P w= .ok (.enter f (xs.map A.eval).toArray) w:=by
  simp only[execOp,resolve,Act.eval,Deferred.ofValue];have Y:¬fn.name= "runtime.NumGoroutine" :=by simpa using z
  have Z:¬fn.body=none:=by intro e;simp[e] at h
  simp[invoke,callFunc,hf,Y,Z,List.map_toArray]
 rw[H];refine⟨by simp[fen,Fence.wide],?_⟩;show CallsIn Fence.wide 0 P f _ w _;refine callsIn_wide.2 (T.mono ?_)
 rintro e w' ⟨v,I',rfl,hb,ac,ab,G⟩
 exact hk _ _ ⟨I,ρ,C,SatAt.put (O.grow hb) hn (z1I G)⟩
theorem zNO {t e:TypeId} (h:P.underlying t=some (.slice e)) (B:Option Addr) (n c:Nat) (w:World):(Op.equal t (.slice B n c) (.slice none 0 0)).run P w= .ok B.isNone w:=by show (Op.equalIn (9999+1) t (.slice B n c) (.slice none 0 0)).run P w=_;rw[Op.equalIn];cases B<;>simp[run_underlying h]
theorem yG0 {t e:TypeId} {x:Operand} {size:Nat} {cells:List DV} {tz:TypeId} (O:d<E.n) (hu:P.underlying t=some (.slice e)) (hx:S.ev x= .d (.sl size cells)) (G:cells≠[]):
  AOp P r E S ⟨some d,.binOp .eql t x (.const (.slice none 0 0)) tz,ty,pos,af,g⟩ d (.d (.v (.bool false))):=
 ⟨rfl,O,fun S' T=>kR rfl O (by simp) fun A w I ρ C hs=>by
  have H:=hs.ev x;rw[(T.ev (x:=x) (by simp[Op.operands])).trans hx] at H;obtain⟨B,n,c,xs,hv,_,hl,_,_,k⟩:=Rep.sl_inv H;have z:0<n:=by
   rcases Nat.eq_zero_or_pos n with h | h
   ·subst h;exact absurd (List.eq_nil_of_length_eq_zero (by omega)) G
   ·exact h
  obtain⟨b,off,rfl,_⟩:=k z;have Y:A.eval (.const (.slice none 0 0))= .slice none 0 0:=rfl;have hb:binOp .eql t (.slice (some ⟨b,off,none⟩) n c) (.slice none 0 0)=(do pure (.bool (←Op.equal t (.slice (some ⟨b,off,none⟩) n c) (.slice none 0 0)))):=rfl;have Z:eqGuard .eql t x (.const (.slice none 0 0)) (.slice (some ⟨b,off,none⟩) n c) (.slice none 0 0)=pure ():=rfl;simp only[execOp,hv,Y,hb,Z,Sem.run_bind,Sem.run_pure,Result.andThen_ok,zNO hu];rfl⟩
theorem z9D {t e:TypeId} {x:Operand} {B:Option Addr} {n c:Nat} {tz:TypeId} (h:d<E.n) (O:P.underlying t=some (.slice e)) (Y:S.ev x= .d (.v (.slice B n c))):
  AOp P r E S ⟨some d,.binOp .eql t x (.const (.slice none 0 0)) tz,ty,pos,af,g⟩ d (.d (.v (.bool B.isNone))):=
 ⟨rfl,h,fun S' k=>kR rfl h (by simp) fun A w I ρ C H=>by
  have T:=H.val ((k.ev (x:=x) (by simp[Op.operands])).trans Y);have z:A.eval (.const (.slice none 0 0))= .slice none 0 0:=rfl;have hb:binOp .eql t (.slice B n c) (.slice none 0 0)=(do pure (.bool (←Op.equal t (.slice B n c) (.slice none 0 0)))):=rfl;have G:eqGuard .eql t x (.const (.slice none 0 0)) (.slice B n c) (.slice none 0 0)=pure ():=rfl;simp only[execOp,T,z,hb,G,Sem.run_bind,Sem.run_pure,Result.andThen_ok,zNO O]⟩
theorem zYO {t:Nat} {B:Option Addr} {c:Nat} (size:Nat) (z:t<E.n) (G:S.get t= .d (.v (.slice B 0 c))):zE3 E S (S.put t (.d (.sl size []))):=by
 rintro a w ⟨I,ρ,C,h⟩
 refine⟨I,ρ,C,⟨fun u=>?_,h.blks,h.dist,by rw[zCW _ _ z];exact h.frame,h.sub,h.old,h.size,h.defers,h.cI,h.cB,h.nm⟩⟩
 rw[vX];by_cases e:t=u;subst e;simp only[if_true];have:=h.tmps t;rw[G] at this;generalize a.tmps.getD t undef=v at this ⊢;have k:Rep w I v (.v (.slice B 0 c)):=this;cases k;exact .nil _ _ _;simp only[e,if_false];exact h.tmps u
end
theorem yCH {P:Program} {f:FuncId} {size:Nat} {T z:List (Nat×Blk)} {keep:List Nat} {k:List Cap} (hp:0<size) (h:∀B c,GC P f [.d (.v (.slice B 0 c))] T keep k z):GC P f [.d (.sl size [])] T keep k z:=by
 refine⟨(h none 0).1,fun w I ρ vs O hG Y H=>?_⟩
 match vs,H.1 with
 | [v],_=>
  have hr:Rep w I v (.sl size []):=H.2 0 v (.d (.sl size [])) rfl rfl;cases hr with
  | nil A c=>exact(h A c).2 w I ρ _ O hG Y (Pw.cons (show HoldsC w I ρ _ (.d (.v _)) from .v _) Pw.nil)
  | sl b off n c size xs cells hn G Z=>exact absurd Z (by have:=Nat.mul_pos hn hp;simp only[List.length_nil];omega)
end Go.AV
namespace Go.AV
open Go.RowKit Go.M
section
variable {P:Program} {r:Option Nat} {E:Env} {S:AState} {d:Nat} {ty:TypeId} {pos:String} {af:Array Edge} {g:Option (Nat×Bool)}
section win
variable {t e size bytes k n:Nat} {z:Value} {x:Operand} {id:Nat} {cells:List DV}
theorem z9E {tm h:Nat} {tt:Bool} (k':Nat) (hn:tm<E.n) (ht:S.get tm= .ws id 0 h tt) (hb:S.blk id= .win e size k cells) (hl:cells.length=n*size) (hh:h≤n) (bb:k≤k') (bc:h≤k'):
  zE3 E S ((S.setBlk id (.win e size k' cells)).put tm (.d (.sl size (cells.take (h*size))))):=by
 rintro a w ⟨I,ρ,C,T⟩
 have aj:=T.blks id;rw[hb] at aj;obtain⟨hp,A,c,xs,ad,be,hr,h1,hA⟩:=zI5 aj hl;have ac:S.blk id≠ .none:=by rw[hb];simp
 let I':Im:=fun b j=>I b j∨(∃off,A=some ⟨b,off,none⟩∧off≤j∧j<off+h*size)
 have O:∀b j,I b j→I' b j:=fun b j hi=> .inl hi;have key:∀i,((S.setBlk id (.win e size k' cells)).put tm (.d (.sl size (cells.take (h*size))))).blk i≠ .none→S.blk i≠ .none:=by
  intro i hi;rw[yGG,yA] at hi;by_cases Z:id=i
  ·subst Z;exact ac
  ·simp only[Z,if_false] at hi;exact hi
 have ai:∀b off,A=some ⟨b,off,none⟩→blockOf (ρ id)=some b:=fun b off e=>by rw[ad,e];rfl
 have bp:h*size≤n*size:=Nat.mul_le_mul_right _ hh;have bh:xs.length=n*size:=by rw[hr.1,hl]
 refine⟨I',ρ,C,⟨fun u=>?_,fun i=>?_,fun i i' b bd hi az=>T.dist i i' b bd (key i hi) (key i' az),by rw[zCW _ _ hn];exact T.frame,fun b j hi=>O b j (T.sub b j hi),fun b j hi=>?_,T.size,T.defers,fun b j hi=>?_,fun i b hi=>T.cB i b (key i hi),fun i v hv hi=>T.nm i v hv (key i hi)⟩⟩
 ·rw[vX]
  by_cases Z:tm=u
  ·subst Z
   simp only[if_true];have hv:=T.tmps tm;rw[ht] at hv;obtain⟨B,c',bg,am,_,al⟩:=hv;rw[bg];by_cases h0:h=0
   ·subst h0
    simp only[Nat.zero_mul,List.take_zero];exact .nil _ _ _
   ·obtain⟨b,o,n0,c0,ag,rfl⟩:=al (by omega)
    rw[ad] at ag;cases ag;obtain⟨b',bl,arr,G,hM,Y,ab,aa,hI⟩:=hA (by omega);cases G;have ao:=Reps.mono (hr.take (h*size)) (kV I w) O;refine .sl b (o+0) h c' size (xs.take (h*size)) _ (by omega) am (by rw[List.length_take,hl];omega) ao.1 (fun j x hj=>?_) (fun u hu=>h1 u (List.mem_of_mem_take hu)) ao.2
    have ba:=(List.getElem?_eq_some_iff.1 hj).1;rw[List.length_take] at ba;rw[List.getElem?_take,if_pos (by omega)] at hj;rw[Nat.add_zero];exact⟨by rw[cell_of_row w b (o+j) arr e (0,0) Y];exact aa j x hj,.inr ⟨o,rfl,by omega,by omega⟩⟩
  ·simp only[Z,if_false]
   exact(T.tmps u).mono (kV I w) O
 ·show BlkOk w I' ρ E.mine i ((S.setBlk id (.win e size k' cells)).blk i)
  rw[yA];by_cases Z:id=i
  ·subst Z
   simp only[if_true];refine⟨A,n,c,xs,ad,be,hp,hl,hr.mono (kV I w) O,h1,?_⟩;by_cases h0:n=0
   ·obtain⟨A2,n2,c2,bx,ah,_,_,bq,_,_,H⟩:=aj
    rw[ad] at ah;cases ah;rcases H with H | ⟨b,off,arr,H,hM,Y,ab,aa,hI⟩
    ·exact .inl H
    ·refine .inr ⟨b,off,arr,H,hM,Y,ab,fun j x hj=>?_,fun j q1 q2 _=>?_⟩
     ·have:=(List.getElem?_eq_some_iff.1 hj).1;rw[bh,h0] at this;omega
     ·rw[h0] at q2;omega
   ·obtain⟨b,off,arr,G,hM,Y,ab,aa,hI⟩:=hA (by omega)
    refine .inr ⟨b,off,arr,G,hM,Y,ab,aa,fun j q1 q2 hi=>?_⟩;have m1:k*size≤k'*size:=Nat.mul_le_mul_right _ bb;have m2:h*size≤k'*size:=Nat.mul_le_mul_right _ bc;rcases hi with hi | ⟨bm,H,q3,q4⟩
    ·have:=hI j q1 q2 hi;omega
    ·rw[G] at H;cases H;omega
  ·simp only[Z,if_false]
   refine(T.blks i).widenI O fun b j hx ay hi=>?_;rcases hi with hi | ⟨off,G,_⟩
   ·exact hi
   ·exact absurd ay (T.dist id i b Z ac hx (ai b off G))
 ·rcases hi with hi | ⟨off,G,_⟩
  ·exact T.old b j hi
  ·have:=T.blt id b ac (ai b off G);exact⟨this.2,.inr this.1⟩
 ·rcases hi with hi | ⟨off,G,_⟩
  ·exact T.cI b j hi
  ·exact T.cB id b ac (ai b off G)
theorem z4I (k':Nat) (hb:S.blk id= .win e size k cells) (hk:k≤k'):zE3 E S (S.setBlk id (.win e size k' cells)):=by
 rintro a w ⟨I,ρ,C,h⟩
 have O:=h.blks id;rw[hb] at O;have Z:S.blk id≠ .none:=by rw[hb];simp
 have key:∀i,(S.setBlk id (.win e size k' cells)).blk i≠ .none→S.blk i≠ .none:=by
  intro i hi;rw[yA] at hi;by_cases G:id=i;subst G;exact Z;simpa[G] using hi
 refine⟨I,ρ,C,⟨h.tmps,fun i=>?_,fun i i' b hn hi T=>h.dist i i' b hn (key i hi) (key i' T),h.frame,h.sub,h.old,h.size,h.defers,h.cI,fun i b hi=>h.cB i b (key i hi),fun i v hv hi=>h.nm i v hv (key i hi)⟩⟩;rw[yA];by_cases G:id=i;subst G;simp only[if_true];obtain⟨A,n,c,xs,aa,Y,hp,hl,hr,h1,H⟩:=O;refine⟨A,n,c,xs,aa,Y,hp,hl,hr,h1,?_⟩;rcases H with H | ⟨b,off,arr,H,hM,hh,hf,hc,hI⟩
 exact .inl H;exact .inr ⟨b,off,arr,H,hM,hh,hf,hc,fun j q1 q2 hi=>Nat.lt_of_lt_of_le (hI j q1 q2 hi) (Nat.add_le_add_left (Nat.mul_le_mul_right _ hk) _)⟩;simp only[G,if_false];exact h.blks i
theorem yCI {xl:Operand} {kk:IntKind} {il:Int} {l:Nat} (hn:d<E.n) (hT:SlTy P t e size bytes z) (hx:S.ev x= .row id) (hb:S.blk id= .win e size k cells) (hl:cells.length=n*size) (al:S.ev xl= .d (.v (.int kk il))) (el:il=(l:Int)) (aj:k≤l) (ak:l≤n) (an:E.nm id=none):
    k4 P r E ⟨some d,.slice t x (some xl) none none,ty,pos,af,g⟩ S (((S.kill id).setBlk id (.win e size 0 (cells.drop (l*size)))).put d (.row id)):=
  wM (by simp) fun A w I ρ C hs=>by
    subst el;have h1:=hs.ev x;rw[hx] at h1;have hv:A.eval x= ρ id:=h1;have ap:=hs.val al;have hk:=hs.blks id;rw[hb] at hk;obtain⟨G,H,c,xs,ab,am,hp,O,hr,ah,hA⟩:=hk;obtain rfl:=zFN O hl hp;have Z:H*size=(H - l)*size+l*size:=by rw[←Nat.add_mul];congr 1;omega
    have aa:(Instr.sliceAt t (.slice G H c) (some (.int kk l)) none none).run P w= .ok (.slice (if c=l then G else G.map (·.add (l*size))) (H - l) (c-l)) w:=
      zMT w hT.und (hT.size w) G H c l H _ _ (.inr ⟨kk,rfl⟩) (.inl ⟨rfl,rfl⟩) ak (Nat.le_refl _) am
    have ai:∀b,blockOf (.slice (if c=l then G else G.map (·.add (l*size))) (H - l) (c-l))=some b→blockOf (ρ id)=some b:=by
      intro b h;rw[ab];cases G with
      | none=>split at h<;>simp[blockOf] at h
      | some ad=>
        split at h
        · exact h
        · have e3:(ad.add (l*size)).block=ad.block:=by unfold Addr.add;split<;>rfl
          simpa[blockOf,e3] using h
    have ao:=hs.update (World.grownBy.refl w none) (id:=id) (u:= .slice (if c=l then G else G.map (·.add (l*size))) (H - l) (c-l)) (x:= .win e size 0 (cells.drop (l*size))) (by simp) (kV I w)
      (fun b h=> .inr ⟨by rw[hb];simp,ai b h⟩) (by
        refine⟨(if c=l then G else G.map (·.add (l*size))),H - l,c-l,xs.drop (l*size),by simp[upd],by omega,hp,by rw[List.length_drop,O];omega,hr.drop _,fun u hu=>ah u (List.mem_of_mem_drop hu),?_⟩
        rcases hA with ⟨rfl,h0⟩ | ⟨b,off,arr,rfl,hM,hh,hf,hc,hI⟩
        · left;constructor
          · split<;>rfl
          · omega
        · right
          by_cases Y:c=l
          · have T:H - l=0:=by omega
            refine⟨b,off,arr,by rw[if_pos Y],hM,hh,by rw[T];omega,fun j u hj=>?_,fun j q1 q2 _=>by rw[T] at q2;omega⟩
            have:=(List.getElem?_eq_some_iff.1 hj).1;rw[List.length_drop,hr.1,O,Z,T] at this;omega
          · refine⟨b,off+l*size,arr,by rw[if_neg Y];simp[w9],hM,hh,by omega,fun j u hj=>?_,fun j q1 q2 hi=>?_⟩
            · rw[List.getElem?_drop] at hj
              rw[Nat.add_assoc];exact hc _ u hj
            · have:=hI j (by omega) (by omega) hi
              have m1:k*size≤l*size:=Nat.mul_le_mul_right _ aj;omega) (.inl rfl) an
    refine⟨_,w,?_,I,_,C,ao.put hn (show Holds _ _ _ _ (AV.row id) from by simp[Holds,upd];rfl)⟩
    simp only[execOp,hv,ab,Sem.run_bind,Option.map_some,Option.map_none,ap,aa];rfl
end win
section lists
variable {α:Type} {en:En α} {l l':List α} {t e bytes k:Nat} {z:Value} {x:Operand} {id:Nat}
theorem yLL (G:d<E.n) (h:SlTy P t e en.size bytes z) (H:S.ev x= .row id) (hb:S.blk id= .win e en.size k (en.all l)):
  AOp P r E S ⟨some d,.call {callee:= .builtin .len,args:= #[x],argTypes:= #[t]},ty,pos,af,g⟩ d (.d (.v (.int .i64 l.length))):=z89 G h H hb (jE en l)
theorem zGT {G:Operand} {Y:IntKind} {i:Int} {v: α} (O:d<E.n) (H:SlTy P t e en.size bytes z) (T:S.ev x= .row id) (hb:S.blk id= .win e en.size k (en.all l)) (hi:S.ev G= .d (.v (.int Y i))) (h:z7 l i=some v):
  AOp P r E S ⟨some d,.indexAddr t x G,ty,pos,af,g⟩ d (.wp id (i.toNat*en.size)):=
 z1K O H T hb hi (xP h).2.1 (jE en l) (xP h).2.2.1
theorem zKQ {tt:TypeId} {i:Int} {v: α} {y:DV} (H:d<E.n) (G:OneTy P tt) (T:S.ev x= .wp id (i.toNat*en.size)) (hb:S.blk id= .win e en.size k (en.all l)) (O:z7 l i=some v) (h:(en.cells v)[0]? =some y):
  AOp P r E S ⟨some d,.load tt x,ty,pos,af,g⟩ d (.d y):=
 z9B H G T hb (by have:=zMU en (xP O).2.2.2 0 (by rw[←en.len v];exact(List.getElem?_eq_some_iff.1 h).1);rw[Nat.add_zero] at this;rw[this];exact h)
theorem zWZ {hi:Operand} {H:IntKind} {b:Int} (Y:d<E.n) (T:SlTy P t e en.size bytes z) (Z:S.ev x= .row id) (hb:S.blk id= .win e en.size k (en.all l)) (G:S.ev hi= .d (.v (.int H b))) (h:slc l 0 b=some l'):
  AOp P r E S ⟨some d,.slice t x none (some hi) none,ty,pos,af,g⟩ d (.ws id 0 b.toNat false):=by
 obtain⟨rfl,h1,h2,O⟩:=zCP h;have:=zRG (P:=P) (r:=r) (ty:=ty) (pos:=pos) (af:=af) (g:=g) Y T Z hb (jE en l) (lo:=none) (hi:=some hi) (l:=0) (h:=b.toNat) ⟨rfl,⟨H,b,G,by omega⟩,by omega,O⟩;simpa only[Nat.zero_mul,Nat.sub_zero] using this
theorem z1M {lo hi:Operand} {O T:IntKind} {a b:Int} (hn:d<E.n) (Z:SlTy P t e en.size bytes z) (hx:S.ev x= .row id) (hb:S.blk id= .win e en.size k (en.all l)) (H:S.ev lo= .d (.v (.int O a))) (G:S.ev hi= .d (.v (.int T b))) (h:slc l a b=some l'):
  AOp P r E S ⟨some d,.slice t x (some lo) (some hi) none,ty,pos,af,g⟩ d (.ws id (a.toNat*en.size) (b.toNat-a.toNat) false):=by
 obtain⟨rfl,h1,h2,Y⟩:=zCP h;exact zRG hn Z hx hb (jE en l) (lo:=some lo) (hi:=some hi) (l:=a.toNat) (h:=b.toNat) ⟨⟨O,a,H,by omega⟩,⟨T,b,G,by omega⟩,by omega,Y⟩
theorem z9F {hi O:Operand} {k2 k3:IntKind} {b:Int} (Z:d<E.n) (Y:SlTy P t e en.size bytes z) (hx:S.ev x= .row id) (hb:S.blk id= .win e en.size k (en.all l)) (G:S.ev hi= .d (.v (.int k2 b))) (H:S.ev O= .d (.v (.int k3 b))) (h:slc l 0 b=some l'):
  AOp P r E S ⟨some d,.slice t x none (some hi) (some O),ty,pos,af,g⟩ d (.ws id 0 b.toNat true):=by
 obtain⟨rfl,h1,h2,T⟩:=zCP h;exact zYN Z Y hx hb (jE en l) G H (by omega) T
theorem View.front {b:Int} {tt:Bool} (hb:S.blk id= .win e en.size k (en.all l)) (h:slc l 0 b=some l'):View S (.ws id 0 b.toNat tt) (zN en l'):=by
 obtain⟨rfl,H,O,T⟩:=zCP h;have:=View.ws (off:=0) (n:=b.toNat) (tt:=tt) hb (jE en l) (by omega);simp only[Nat.zero_mul,List.drop_zero] at this;have G:en.all ((l.take b.toNat).drop (0:Int).toNat)=(en.all l).take (b.toNat*en.size):=by simp[zDH]
 unfold zN;rw[G];exact this
theorem z1N {tt:TypeId} {y:Operand} {i:Int} {v: α} {u:DV} {w0: α} (hT:OneTy P tt) (Y:S.ev x= .wp id (i.toNat*en.size)) (hb:S.blk id= .win e en.size 0 (en.all l)) (h:en.size=1) (hi:z7 l i=some w0) (T:uQ l i v=some l') (hy:S.ev y= .d u) (hu:en.cells v= [u]) (h1:(AV.d u).one=true) (hE:E.wrB=true):
  k4 P r E ⟨none,.store tt x y,ty,pos,af,g⟩ S (S.setBlk id (.win e en.size 0 (en.all l'))):=by
 obtain⟨rfl,h2,h3⟩:=zMX T;have O:=jE en l;rw[h,Nat.mul_one] at O;have H:S.ev x= .wp id i.toNat:=by rw[Y,h,Nat.mul_one]
 have:=z4H (P:=P) (r:=r) (ty:=ty) (pos:=pos) (af:=af) (g:=g) hT H hb (by omega) (by omega) hy h1 hE;have Z:en.all (l.set i.toNat v)=(en.all l).set i.toNat u:=by
  unfold En.all;clear hi Y H O hb T this h2 h3
  induction l generalizing i with
  | nil=>rfl
  | cons a l ih=>
   have ha:(en.cells a).length=1:=by rw[en.len,h]
   match G:en.cells a,ha with
   | [q],_=>
    cases hi:i.toNat with
    | zero=>simp[G,hu]
    | succ j=>
     have:=ih (i:=(j:Int));simp only[Int.toNat_natCast] at this;simp only[List.set_cons_succ,List.flatMap_cons,G,this,List.singleton_append,List.set_cons_succ]
 rw[Z];exact this
def cpM (l:List α) (a1 b1 a2 b2:Int):List α:=l.take a1.toNat++((l.drop a2.toNat).take (b2.toNat-a2.toNat)).take (min (b2.toNat-a2.toNat) (b1.toNat-a1.toNat))++l.drop (a1.toNat+(((l.drop a2.toNat).take (b2.toNat-a2.toNat)).take (min (b2.toNat-a2.toNat) (b1.toNat-a1.toNat))).length)
theorem yG1 {y:Operand} {a1 b1 a2 b2:Int} {l1 l2:List α} {t1 t2:Bool} (H:d<E.n) (hT:SlTy P t e en.size bytes z) (hx:S.ev x= .ws id (a1.toNat*en.size) (b1.toNat-a1.toNat) t1) (hb:S.blk id= .win e en.size 0 (en.all l)) (hy:S.ev y= .ws id (a2.toNat*en.size) (b2.toNat-a2.toNat) t2)
  (Y:slc l a1 b1=some l1) (Z:slc l a2 b2=some l2) (hE:E.wrB=true):
  k4 P r E ⟨some d,.call {callee:= .builtin .copy,args:= #[x,y],argTypes:= #[t,t]},ty,pos,af,g⟩ S ((S.setBlk id (.win e en.size 0 (en.all (cpM l a1 b1 a2 b2)))).put d .top):=by
 obtain⟨rfl,p1,p2,p3⟩:=zCP Y;obtain⟨rfl,q1,q2,q3⟩:=zCP Z;have:=z9C (P:=P) (r:=r) (ty:=ty) (pos:=pos) (af:=af) (g:=g) H hT hx hb (jE en l) hy (Nat.zero_le _) (by omega) (by omega) hE;have T:spl (en.all l) (a1.toNat*en.size) ((((en.all l).drop (a2.toNat*en.size)).take ((b2.toNat-a2.toNat)*en.size)).take (min (b2.toNat-a2.toNat) (b1.toNat-a1.toNat)*en.size))=en.all (cpM l a1 b1 a2 b2):=by
  rw[zGS,zDH,zDH];unfold spl cpM;rw[jE,zDH,←Nat.add_mul,zGS,←zKL,←zKL]
 rw[T] at this;intro a w K Q hs hk;refine this a w K Q hs fun O w' ⟨I,ρ,C,h⟩=>hk O w' ⟨I,ρ,C,⟨fun u=>?_,h.blks,h.dist,by have:=h.frame;rw[zCW _ _ H] at this ⊢;exact this,h.sub,h.old,h.size,h.defers,h.cI,h.cB,h.nm⟩⟩
 have q:=h.tmps u;rw[vX] at q ⊢;by_cases G:d=u
 ·simp only[G,if_true];trivial
 ·simp only[G,if_false] at q ⊢;exact q
theorem z9G {s:Operand} {b:Int} {Z m:List α} (hn:d<E.n) (hT:SlTy P t e en.size bytes z) (hs:S.ev s= .ws id 0 b.toNat true) (hb:S.blk id= .win e en.size k (en.all l)) (Y:slc l 0 b=some Z) (hx:S.ev x= .d (zN en m)) (hm:m.length≠0) (ha:app Z m=some l') (H:bytes≤32768) (T:E.nm d=none):
  k4 P r E ⟨some d,.call {callee:= .builtin .append,args:= #[s,x],argTypes:= #[t,t]},ty,pos,af,g⟩ S (((S.kill d).setBlk d (.row e en.size false (en.all l'))).put d (.row d)):=by
 obtain⟨rfl,p1,p2,p3⟩:=zCP Y;obtain⟨rfl,G⟩:=zO0 ha;have O:((l.take b.toNat).drop (0:Int).toNat).length=b.toNat:=by simp;omega
 rw[O] at G;have:=z1L (P:=P) (r:=r) (ty:=ty) (pos:=pos) (af:=af) (g:=g) (off:=0) (h:=b.toNat) hn hT (by rw[Nat.zero_mul];exact hs) hb (jE en l) (by omega) hx (jE en m) (by omega) (by unfold LIM at G;unfold maxLen;omega) (by
  have Y:(b.toNat+m.length)*bytes≤4294967296*bytes:=Nat.mul_le_mul_right _ G;have h2:4294967296*bytes≤4294967296*32768:=Nat.mul_le_mul_left _ H;omega) T
 have e1:en.all ((l.take b.toNat).drop (0:Int).toNat++m)=((en.all l).drop (0*en.size)).take (b.toNat*en.size)++en.all m:=by
  rw[zKL];simp[zDH]
 rw[e1];exact this
theorem z4J {tm:Nat} {b:Int} {tt:Bool} (O:tm<E.n) (T:S.get tm= .ws id 0 b.toNat tt) (hb:S.blk id= .win e en.size 0 (en.all l)) (h:slc l 0 b=some l'):
  zE3 E S ((S.setBlk id (.win e en.size b.toNat (en.all l))).put tm (.d (zN en l'))):=by
 obtain⟨rfl,Y,Z,H⟩:=zCP h;have:=z9E (E:=E) (S:=S) b.toNat O T hb (jE en l) H (Nat.zero_le _) (Nat.le_refl _);have G:en.all ((l.take b.toNat).drop (0:Int).toNat)=(en.all l).take (b.toNat*en.size):=by simp[zDH]
 unfold zN;rw[G];exact this
theorem yCJ {O:Operand} {kk:IntKind} {a:Int} (hn:d<E.n) (Y:SlTy P t e en.size bytes z) (hx:S.ev x= .row id) (hb:S.blk id= .win e en.size k (en.all l)) (G:S.ev O= .d (.v (.int kk a))) (h:slc l a l.length=some l') (Z:k≤a.toNat) (H:E.nm id=none):
  k4 P r E ⟨some d,.slice t x (some O) none none,ty,pos,af,g⟩ S (((S.kill id).setBlk id (.win e en.size 0 (en.all l'))).put d (.row id)):=by
 obtain⟨rfl,h1,h2,h3⟩:=zCP h;have:=yCI (P:=P) (r:=r) (ty:=ty) (pos:=pos) (af:=af) (g:=g) (l:=a.toNat) hn Y hx hb (jE en l) G (by omega) Z (by omega) H;have T:en.all ((l.take (l.length:Int).toNat).drop a.toNat)=(en.all l).drop (a.toNat*en.size):=by simp[zGS]
 rw[T];exact this
end lists
end
end Go.AV
namespace Go.AV
open Go.RowKit Go.M
theorem yLM {k:Type} {en:En k} {x: k} {l:List k} (h:0<en.size):en.all (x::l)≠[]:=by intro z;have:=congrArg List.length z;rw[jE,List.length_cons,List.length_nil,Nat.add_mul] at this;omega
theorem zMA {P:Program} {z:Type} {w:World} {F: z→PUnit→Sem (ForInStep PUnit)}:∀(k:List z),(∀f∈k,(F f ()).run P w= .ok (.yield ()) w)→(forIn k () F).run P w= .ok () w
 | [],_=>by simp
 | f::k,h=>by
  have H:=zMA k fun g G=>h g (by simp[G]);rw[List.forIn_cons];simp only[Sem.run_bind,h f (by simp),Result.andThen_ok,H]
def zSG:TypeDesc→Bool
 | .int _ | .string | .bool=>true
 | _=>false
theorem zRH {P:Program} {t:TypeId} {ds:TypeDesc} (k:P.underlying t=some ds) (h:zSG ds=true) (v:Value) (n:Nat) (b:Bool) (w:World):(Instr.checkKey b (n+1) t v).run P w= .ok () w:=by
 simp only[Instr.checkKey,Sem.run_bind,run_underlying k,Result.andThen_ok];cases ds<;>first | (simp[zSG] at h;done) | (cases v<;>rfl)
theorem z9H {P:Program} {G e:TypeId} {n:Nat} {zs vals:List Value} {ds:TypeDesc} (H:ArTy P G n 1 e zs) (T:OneTy P e) (Z:P.underlying e=some ds) (Y:zSG ds=true) (O:vals.length=n) (b:Bool) (w:World):(Instr.checkKey b 10000 G (.agg vals.toArray)).run P w= .ok () w:=by
 show (Instr.checkKey b (9999+1) G (.agg vals.toArray)).run P w=_;rw[Instr.checkKey];simp only[Sem.run_bind,run_underlying H.und,Result.andThen_ok];rw[Std.Legacy.Range.forIn_eq_forIn_range'];have z:(Std.Legacy.Range.size [0:n])=n:=by simp[Std.Legacy.Range.size]
 simp only[z];rw[←List.range_eq_range'];refine(congrArg (fun q=>Result.andThen q _) (zMA _ fun i hi=>?_)).trans (by simp);have k:i<n:=List.mem_range.1 hi;have h:(part e vals.toArray i).run P w= .ok (vals[i]'(by omega)) w:=zH9 T.agg (by simp[O,k]) w;simp only[Sem.run_bind,H.size w,Result.andThen_ok,Nat.mul_one,h];have:=zRH Z Y (vals[i]'(by omega)) 9998 b w;simp only[show (9998+1)=9999 from rfl] at this;simp[this]
theorem z4K {P:Program} {G:TypeId} {h:Array Field} {vals:List Value} (hu:P.underlying G=some (.struct h))
  (Z:∀f∈h.toList,OneTy P f.type∧(∃ds,P.underlying f.type=some ds∧zSG ds=true)∧f.offset<vals.length) (b:Bool) (w:World):(Instr.checkKey b 10000 G (.agg vals.toArray)).run P w= .ok () w:=by
 show (Instr.checkKey b (9999+1) G (.agg vals.toArray)).run P w=_;rw[Instr.checkKey];simp only[Sem.run_bind,run_underlying hu,Result.andThen_ok];rw[←Array.forIn_toList];refine(congrArg (fun q=>Result.andThen q _) (zMA _ fun f hi=>?_)).trans (by simp);obtain⟨O,⟨ds,T,Y⟩,z⟩:=Z f hi;have:=zRH T Y (vals[f.offset]'z) 9998 b w;simp only[show (9998+1)=9999 from rfl] at this;have k:(part f.type vals.toArray f.offset).run P w= .ok (vals[f.offset]'z) w:=zH9 O.agg (by simp[z]) w;by_cases H:f.name= "_"
 ·simp[H]
 ·simp only[ne_eq,H,not_false_eq_true,if_true,Sem.run_bind,k,Result.andThen_ok,this]
  rfl
section
variable {P:Program} {r:Option Nat} {E:Env} {S:AState} {d:Nat} {ty:TypeId} {pos:String} {af:Array Edge} {g:Option (Nat×Bool)}
theorem zVF {bid eb off:Nat} {cells:List AV} (size:Nat) (hb:S.blk bid= .box eb cells) (G:cells[off]? =some (.d (.v (.slice none 0 0)))):zE3 E S (S.setBlk bid (.box eb (cells.set off (.d (.sl size []))))):=by
 rintro a w ⟨I,ρ,C,h⟩
 refine⟨I,ρ,C,h.rebox (eb:=eb) (cells:=cells) hb fun xs H=>H.set_right G fun x k=>?_⟩;have z:Rep w I x (.v (.slice none 0 0)):=k;cases z;exact Rep.nil _ _ _
theorem yG2 {t e bytes:Nat} {z:Value} {x y:Operand} {id eb:Nat} {q x0 x1 x2 x3 x4 x5 x6 x7:Int} {l:List Int} (O:d<E.n) (H:SlTy P t e eI.size bytes z) (T:S.ev x= .rs id 1 8)
  (hb:S.blk id= .box eb [.d (di q),.d (di x0),.d (di x1),.d (di x2),.d (di x3),.d (di x4),.d (di x5),.d (di x6),.d (di x7)]) (Y:S.ev y= .d (zN eI l)) (G:E.wrB=true):
  k4 P r E ⟨some d,.call {callee:= .builtin .copy,args:= #[x,y],argTypes:= #[t,t]},ty,pos,af,g⟩ S
   ((S.setBlk id (.box eb [.d (di q),.d (di (cpA l 0 x0)),.d (di (cpA l 1 x1)),.d (di (cpA l 2 x2)),.d (di (cpA l 3 x3)),.d (di (cpA l 4 x4)),.d (di (cpA l 5 x5)),.d (di (cpA l 6 x6)),.d (di (cpA l 7 x7))])).put d (.d (.v (.int .i64 (min l.length 8:Nat))))):=by
 have h:(eI.all l).length=l.length:=by rw[jE];exact Nat.mul_one _
 have:=z4G (P:=P) (r:=r) (ty:=ty) (pos:=pos) (af:=af) (g:=g) O H T hb (by simp) (by omega) Y h G;have k:=yPJ l q x0 x1 x2 x3 x4 x5 x6 x7;simp only[List.map_cons,List.map_nil] at k;rw[k] at this;exact this
end
end Go.AV
namespace Go.AV
open Go.RowKit Go.M
def QJ (E:Env) (J:AState→Prop):Exit→Act→World→Prop
 | .normal,a,w=> ∃S,J S∧Sat E S a w
 | _,_,_=>False
def zHF (P:Program) (r:Option Nat) (E:Env) (l:List Oper) (J:AState→Prop) (fuel:Nat) (listed:List Bool) (S:AState):Prop:=
 ∀a w,Sat E S a w→wpAnyIn (fen r) 0 P .any l.toArray (QJ E J) fuel listed.toArray a w
def AnyE (P:Program) (r:Option Nat) (E:Env) (l:List Oper) (J:AState→Prop) (fuel:Nat) (listed:List Bool) (S:AState):List Nat→Prop
 | []=>True
 | i::is=>(∃o S',l[i]? =some o∧zRB P r E l.toArray o S S'∧zHF P r E l J fuel (listed.set i true) S')∧AnyE P r E l J fuel listed S is
section
variable {P:Program} {r:Option Nat} {E:Env} {l:List Oper} {J:AState→Prop} {fuel:Nat} {listed:List Bool} {S:AState}
theorem AnyE.mem:∀{is:List Nat} {i:Nat},AnyE P r E l J fuel listed S is→i∈is→∃o S',l[i]? =some o∧zRB P r E l.toArray o S S'∧zHF P r E l J fuel (listed.set i true) S'
 | [],_,_,h=>by cases h
 | k::is,i,h,hi=>by
  rcases List.mem_cons.1 hi with e | hi;subst e;exact h.1;exact AnyE.mem h.2 hi
def rdy (l:List Oper) (h:List Bool):List Nat:=(List.range l.length).filter fun i=>!h.getD i true&&(match l[i]? with | none=>true | some o=>(aft o).all fun j=>h.getD j false)
theorem z6J {i:Nat} (h:i∈Region.ready .any l.toArray listed.toArray):i∈rdy l listed:=by
 obtain⟨z,H,O⟩:=zER h;simp only[rdy,List.mem_filter,List.mem_range,Bool.and_eq_true,Bool.not_eq_true'];have e:∀k b,listed.toArray.getD k b=listed.getD k b:=fun k b=>by simp[Array.getD_eq_getD_getElem?,List.getD_eq_getElem?_getD]
 refine⟨z,by rw[←e];exact H,?_⟩
 have G:=List.getElem?_eq_getElem z;rw[G];simp only[List.all_eq_true];intro j T;rw[←e];exact O _ G j T
theorem z6K {i:Nat} (h:(rdy l listed).contains i=true):i∈Region.ready .any l.toArray listed.toArray:=by
 have h:=List.contains_iff_mem.1 h;simp only[rdy,List.mem_filter,List.mem_range,Bool.and_eq_true,Bool.not_eq_true'] at h;have e:∀k b,listed.toArray.getD k b=listed.getD k b:=fun k b=>by simp[Array.getD_eq_getD_getElem?,List.getD_eq_getElem?_getD]
 obtain⟨H,O,z⟩:=h;have G:=List.getElem?_eq_getElem H;rw[G] at z;simp only[List.all_eq_true] at z;exact zTD G (by rw[e];exact O) fun j T=>by rw[e];exact z j T
theorem z6L (h:List Bool) (i:Nat):h.toArray.setIfInBounds i true=(h.set i true).toArray:=by simp
theorem yG3 (G:rdy l listed= []) (h:J S):zHF P r E l J fuel listed S:=by
 intro a w z;have k:Region.ready .any l.toArray listed.toArray= []:=List.eq_nil_iff_forall_not_mem.2 fun i hi=>by have:=z6J hi;rw[G] at this;cases this
 cases fuel with
 | zero=>exact⟨k,S,h,z⟩
 | succ n=>exact⟨fun _=>⟨S,h,z⟩,fun i hi=>by rw[k] at hi;cases hi⟩
theorem yN1 (is:List Nat) (H:rdy l listed=is) (z:is.isEmpty=false) (h:AnyE P r E l J fuel listed S is):zHF P r E l J (fuel+1) listed S:=by
 intro a w hs;refine⟨fun e=>?_,fun i hi=>?_⟩;cases is with
 | nil=>cases z
 | cons k is=>
  have:=z6K (l:=l) (listed:=listed) (i:=k) (by rw[H];simp)
  rw[e] at this;cases this
 have hi:=z6J hi;rw[H] at hi;obtain⟨o,S',T,Y,Z⟩:=h.mem hi;unfold wpOpIn;simp only[List.getElem?_toArray,T];refine Y a w _ _ hs fun O w' G=>?_;rw[z6L];exact Z O w' G
theorem z6M:AnyE P r E l J fuel listed S []:=trivial
theorem yJ0 {i:Nat} {is:List Nat} {o:Oper} {S':AState} (G:l[i]? =some o) (z:o.guard=none) (h:k4 P r E o S S') (k:zHF P r E l J fuel (listed.set i true) S') (H:AnyE P r E l J fuel listed S is):AnyE P r E l J fuel listed S (i::is):=
 ⟨⟨o,S',G,zOQ z h,k⟩,H⟩
theorem yJ1 {i d:Nat} {is:List Nat} {o:Oper} {x:AV} (G:l[i]? =some o) (z:o.guard=none) (h:AOp P r E S o d x) (k:zHF P r E l J fuel (listed.set i true) (S.put d x)) (H:AnyE P r E l J fuel listed S is):AnyE P r E l J fuel listed S (i::is):=
 ⟨⟨o,_,G,zOQ z h.step,k⟩,H⟩
def z9I (l:List Oper) (listed:List Bool) (i:Nat) (oi:Oper):Bool:=
 (List.range l.length).all fun j=>Nat.beq j i ||listed.getD j true ||(match l[j]? with
  | none=>true
  | some h=>(aft h).contains i ||oi.apart l.toArray h)
def zW0 (l:List Oper):Bool:=l.all fun o=>match o.op with | .select _ _=>false | _=>true
theorem zMZ {i d:Nat} {oi:Oper} {x:AV} (hr:r=none) (hi:l[i]? =some oi) (hg:oi.guard=none) (hd:oi.dst=some d) (H:zW0 l=true) (O:z9I l listed i oi=true) (ab:(rdy l listed).contains i=true)
  (hy:∀a w,Sat E S a w→∃v,(∀w',(execOp a.eval oi).run P w'= .ok (.value v) w')∧(∀w',oi.about P w' a.eval=none)∧Sat E (S.put d x) (a.put (some d) v) w) (k:zHF P r E l J fuel (listed.set i true) (S.put d x)):zHF P r E l J (fuel+1) listed S:=by
 subst hr;intro a w hs;obtain⟨v,h1,h2,h3⟩:=hy a w hs;have T:l.toArray[i]? =some oi:=by simpa using hi
 refine wpAnyIn_first (i:=i) (oi:=oi) (v:=v) rfl T (fun j o cs b ho e=>?_) (fun c a w h=>h.elim) fuel listed.toArray a w (fun j oj hj aa hl G=>?_) (z6K ab) ⟨.inl ⟨?_,h1⟩,h2⟩ (by rw[hd,z6L];exact k _ w h3)
 ·have:=List.all_eq_true.1 H o (List.mem_of_getElem? (by simpa using ho))
  rw[e] at this;cases this
 ·have z:l[j]? =some oj:=by simpa using hj
  have Z:=(List.getElem?_eq_some_iff.1 z).1;have:=List.all_eq_true.1 O j (List.mem_range.2 Z);have Y:listed.getD j true=false:=by rw[←hl];simp[Array.getD_eq_getD_getElem?,List.getD_eq_getElem?_getD]
  simp only[Bool.or_eq_true,Nat.beq_eq,Y,z] at this;rcases this with (h | h) | h | h
  ·exact absurd h aa
  ·cases h
  ·exfalso
   have h:=List.contains_iff_mem.1 h;simp only[aft,List.mem_map,List.mem_filter] at h;obtain⟨q,⟨hq,hb⟩,he⟩:=h;exact G q (by simpa using hq) hb he
  ·exact h
 ·unfold Region.wanted
  rw[hg]
section
variable {d:Nat} {ty:TypeId} {pos:String} {af:Array Edge} {x:Operand}
theorem yCK {i:Nat} (hi:l[i]? =some ⟨some d,.move x,ty,pos,af,none⟩) (O:d<E.n) (T:r=none) (h:zW0 l=true) (z:z9I l listed i ⟨some d,.move x,ty,pos,af,none⟩=true) (G:(rdy l listed).contains i=true)
  (k:zHF P r E l J fuel (listed.set i true) (S.put d (S.ev x))):zHF P r E l J (fuel+1) listed S:=
 zMZ T hi rfl rfl h z G (fun a w ⟨I,ρ,C,H⟩=>⟨a.eval x,fun w'=>by simp[execOp],fun w'=>rfl,I,ρ,C,H.put O (H.ev x)⟩) k
theorem zKR {i:Nat} {y:Operand} {tx tz:TypeId} {a b:Int} (hi:l[i]? =some ⟨some d,.binOp .sub tx x y tz,ty,pos,af,none⟩) (O:d<E.n) (Y:S.ev x= .d (.v (.int .i64 a))) (Z:S.ev y= .d (.v (.int .i64 b))) (T:r=none) (h:zW0 l=true) (z:z9I l listed i ⟨some d,.binOp .sub tx x y tz,ty,pos,af,none⟩=true) (G:(rdy l listed).contains i=true)
  (k:zHF P r E l J fuel (listed.set i true) (S.put d (.d (.v (.int .i64 (wi (a-b))))))):zHF P r E l J (fuel+1) listed S:=
 zMZ T hi rfl rfl h z G (fun A w ⟨I,ρ,C,H⟩=>⟨.int .i64 (wi (a-b)),fun w'=>by
  simp only[execOp,H.val Y,H.val Z];simp[binOp,eqGuard,Op.intArith,wi],fun w'=>rfl,I,ρ,C,SatAt.put (x:= .d (.v _)) H O (Rep.v _)⟩) k
theorem zM0 {i:Nat} {y:Operand} {tx tz:TypeId} {a b:Int} (hi:l[i]? =some ⟨some d,.binOp .add tx x y tz,ty,pos,af,none⟩) (O:d<E.n) (Y:S.ev x= .d (.v (.int .i64 a))) (Z:S.ev y= .d (.v (.int .i64 b))) (T:r=none) (h:zW0 l=true) (z:z9I l listed i ⟨some d,.binOp .add tx x y tz,ty,pos,af,none⟩=true) (G:(rdy l listed).contains i=true)
  (k:zHF P r E l J fuel (listed.set i true) (S.put d (.d (.v (.int .i64 (wi (a+b))))))):zHF P r E l J (fuel+1) listed S:=
 zMZ T hi rfl rfl h z G (fun A w ⟨I,ρ,C,H⟩=>⟨.int .i64 (wi (a+b)),fun w'=>by
  simp only[execOp,H.val Y,H.val Z];simp[binOp,eqGuard,Op.intArith,wi],fun w'=>rfl,I,ρ,C,SatAt.put (x:= .d (.v _)) H O (Rep.v _)⟩) k
theorem zW1 {α:Type} {en:En α} {G:List α} {i t e bytes:Nat} {z:Value} {ix:Operand} {kk:IntKind} {q:Int} {v: α} (hi:l[i]? =some ⟨some d,.indexAddr t x ix,ty,pos,af,none⟩) (hn:d<E.n) (Y:SlTy P t e en.size bytes z) (hx:S.ev x= .d (zN en G)) (aa:S.ev ix= .d (.v (.int kk q))) (hv:z7 G q=some v)
  (hr:r=none) (T:zW0 l=true) (Z:z9I l listed i ⟨some d,.indexAddr t x ix,ty,pos,af,none⟩=true) (ag:(rdy l listed).contains i=true)
  (k:zHF P r E l J fuel (listed.set i true) (S.put d (.ip (en.all G) (q.toNat*en.size)))):zHF P r E l J (fuel+1) listed S:=
 zMZ hr hi rfl rfl T Z ag (fun A w ⟨I,ρ,C,hs⟩=>by
  have h:=hs.ev x;rw[hx] at h;obtain⟨B,n,c,xs,ai,_,hl,ad,h1,H⟩:=Rep.sl_inv h;have ac:n=G.length:=zFN hl (jE en G) Y.pos;subst ac;have hq:=(xP hv).2.1;have ab:=(xP hv).2.2.1;obtain⟨b,off,rfl,hc⟩:=H (by omega);have O:=hs.val aa;refine⟨.pointer (some ⟨b,off+q.toNat*en.size,none⟩),fun w'=>?_,fun w'=>rfl,I,ρ,C,hs.put hn ⟨b,off,xs,rfl,ad,h1,hc⟩⟩;rw[hq] at O;simp only[execOp,ai,O,Sem.run_bind,zI0 w' Y.und (Y.size w') b off G.length c kk q.toNat ab];rfl) k
end
theorem zGJ {id:Nat} {K:Exit→AState→Prop} (G:P.follows .mixedOrders=true) (h:zHF P r E l (K .normal) l.length (List.replicate l.length false) S):Avc P r E (.region id l.toArray true) K S:=by
 intro a w H;have z:=h a {w with drawn:=w.drawn+1} (zTC H);refine wpIn_mono (wpIn_region_any (Q:=QJ E (K .normal)) G (by simpa[←List.toArray_replicate] using z)) ?_;intro e O w' k;cases e with
 | normal=>exact k
 | _=>exact k.elim
end
end Go.AV
namespace Go.AV
open Go.RowKit Go.M
def CapsOf:List AV→List Cap→Prop
 | [],cs=>cs= []
 | x::xs,cs=> ∃c ds,cs=c::ds∧CapOf x c∧CapsOf xs ds
section
variable {P:Program} {r:Option Nat} {E:Env} {S:AState} {d:Nat} {ty:TypeId} {pos:String} {af:Array Edge} {g:Option (Nat×Bool)}
theorem CapsOf.holds {w:World} {I:Im} {ρ:Nat→Value}:∀{vs:List Value} {xs:List AV} {cs:List Cap},CapsOf xs cs→Pw (Holds w I ρ) vs xs→Pw (HoldsC w I ρ) vs cs
 | [],[],cs,h,_=>by cases h;exact Pw.nil
 | [],x::xs,cs,_,k=>by have:=k.1;simp at this
 | v::vs,[],cs,_,k=>by have:=k.1;simp at this
 | v::vs,x::xs,cs,⟨c,ds,e,z,G⟩,k=>by
  subst e;obtain⟨q1,q2⟩:=zHO k;exact Pw.cons (z.holds q1) (CapsOf.holds G q2)
theorem zQM {f:FuncId} {h:List Operand} {cs:List Cap} (z:d<E.n) (k:CapsOf (h.map S.ev) cs):
  AOp P r E S ⟨some d,.makeFunc (.func f) #[] h.toArray,ty,pos,af,g⟩ d (.clo f cs):=
 ⟨rfl,z,fun S' G=>zW rfl z (by simp) fun A w I ρ C O=>by
  have H:h.map S'.ev=h.map S.ev:=List.map_congr_left fun x T=>G.ev (by simp[Op.operands];simpa using T)
  rw[←H] at k;exact⟨.func (.func f) #[] (h.map A.eval).toArray,by simp[execOp,Instr.makeFunc],_,rfl,k.holds (zBC O h)⟩⟩
theorem zMB {t:TypeId} {x y:Operand} {id off eb:Nat} {cells:List AV} {av:AV} (G:OneTy P t) (O:S.ev x= .ptr id off) (hb:S.blk id= .box eb cells) (h:off<cells.length) (T:S.ev y=av) (k:av.one=true) (H:zV5 S av=true) (z:E.wrB=true):
  k4 P r E ⟨none,.store t x y,ty,pos,af,g⟩ S (S.setBlk id (.box eb (cells.set off av))):=by
 subst T;exact zH3 G O hb h k H z
theorem z4L {a t id e b u h k:Nat} {x y:DV} (z:(S.get a).un= .ptr id 0) (G:S.blk id= .box e [.d x]) (H:OneTy P t) (T:(S.get b).un= .ptr h 0) (Y:S.blk h= .box k [.d y]) (O:OneTy P u):RetS P S [.cell a t,.cell b u] [x,y]:=
 ⟨_,_,id,e,_,rfl,z,G,.inl ⟨H,_,rfl,rfl⟩,_,_,h,k,_,rfl,T,Y,.inl ⟨O,_,rfl,rfl⟩,rfl⟩
end
end Go.AV
namespace Go.AV
open Go.RowKit Go.M
theorem BlkOk.lt {w:World} {I:Im} {ρ:Nat→Value} {M:Nat→Prop} {i b:Nat} {x:Blk} (h:BlkOk w I ρ M i x) (Z:x≠ .none) (hb:blockOf (ρ i)=some b):b<w.heap.size:=by
 cases x with
 | none=>exact absurd rfl Z
 | row e size sh cells=>
  obtain⟨hM,n,xs,hl,O,_⟩:=h;rcases O.2 with ⟨hn,_⟩ | ⟨g,ac,ad,z,Y,G,_⟩;rw[hn] at hb;simp[blockOf] at hb;rw[z] at hb;simp[blockOf] at hb;subst hb;exact(Array.getElem?_eq_some_iff.1 G).1
 | box e cells=>
  obtain⟨b',arr,z,Y,G,_⟩:=h;rw[z] at hb;simp[blockOf] at hb;subst hb;exact(Array.getElem?_eq_some_iff.1 G).1
 | map es=>
  obtain⟨b',ab,T,z,Y,G,_⟩:=h;rw[z] at hb;simp[blockOf] at hb;subst hb;exact(Array.getElem?_eq_some_iff.1 G).1
 | win e size k cells=>
  obtain⟨A,n,c,xs,z,_,_,_,_,_,H⟩:=h;rcases H with ⟨H,_⟩ | ⟨b',off,arr,H,Y,G,_⟩;rw[z,H] at hb;simp[blockOf] at hb;rw[z,H] at hb;simp[blockOf] at hb;subst hb;exact(Array.getElem?_eq_some_iff.1 G).1
end Go.AV
namespace Go.AV
open Go.RowKit Go.M
section
variable {P:Program} {r:Option Nat} {E:Env} {S:AState} {d ty:Nat} {pos:String} {af:Array Edge} {g:Option (Nat×Bool)}
theorem zTW {z:Type} {c ys:List z} {off n N:Nat} (h:ys.length=n) (G:off+n≤N) (H:N≤c.length):(c.take off++ys++c.drop (off+n)).take N=(c.take N).take off++ys++(c.take N).drop (off+n):=by
 have k:(c.take off++ys).length=off+n:=by simp;omega
 rw[List.take_append,List.take_of_length_le (by omega),k,List.take_take,Nat.min_eq_left (by omega),List.drop_take]
theorem zRV {t n:Nat} {x y:Operand} {id off e size:Nat} {cells ds:List DV} (hT:AggTy P t n) (hx:S.ev x= .ptr id off) (hb:S.blk id= .row e size false cells) (bm:off+n≤cells.length)
  (hy:S.ev y= .d (.agg ds)) (au:ds.length=n) (hE:E.wrB=true):
  k4 P r E ⟨none,.store t x y,ty,pos,af,g⟩ S (S.setBlk id (.row e size false (cells.take off++ds++cells.drop (off+n)))):=
 zFO rfl (by simp) fun A w I ρ C hs=>by
  have h:=hs.ev x;rw[hx] at h;obtain⟨b,z,hv⟩:=h;have ab:=hs.blks id;rw[hb] at ab;obtain⟨h0,n',xs,hl,H,aa,aw,hI⟩:=ab;have ak:=hs.ev y;rw[hy] at ak;have O:Rep w I (A.eval y) (.agg ds):=ak;generalize he:A.eval y=vy at O;cases O with
  | agg ys al ac h1 hr=>
   have ay:Reps w I ys ds:=⟨ac,hr⟩;rcases H.2 with ⟨Z,_⟩ | ⟨T,ao,k,Z,hB,hh,ad,aq,ar,ba⟩
   ·rw[Z] at z;cases z
   ·have ap:T=b:=by rw[Z] at z;simpa[blockOf] using z
    subst ap;have G:∀j,¬I T j:=fun j hj=>by have:=(hI T j (by rw[Z];rfl) hj).1;cases this
    have br:xs.length=n'*size:=H.1;have be:cells.length≤k.size:=by rw[ar,hl];exact Nat.mul_le_mul_right _ ad
    have aj:ys.length=n:=by rw[ac];exact au
    have az:=zS1 (P:=P) w hT (b:=T) (off:=off) (vs:=ys) hh (by omega) aj h1;have bp:cells.length=n'*size:=hl;refine⟨_,?_,I,ρ,C,hs.modify (zAC w T (k.toList.take off++ys++k.toList.drop (off+n)).toArray) (by rw[hb];simp) z (xB G) ⟨h0,n',xs.take off++ys++xs.drop (off+n),by simp;omega,⟨by simp;omega,.inr ⟨T,ao,_,Z,hB,setRow_heap w T k _ e _ hh,ad,aq,?_,?_⟩⟩,?_,?_,?_⟩ hE⟩
    ·simp only[execOp,hv,he,Sem.run_bind,az]
     rfl
    ·simp;omega
    ·have ah:k.toList.take (n'*size)=xs:=ba
     rw[←ah];exact zTW aj (by omega) (by simp;omega)
    ·intro v ai
     simp only[List.mem_append] at ai;rcases ai with (hu | hu) | hu
     ·exact aa v (List.mem_of_mem_take hu)
     ·exact h1 v hu
     ·exact aa v (List.mem_of_mem_drop hu)
    ·have ag:=aw.imp fun _ _ h=>h.mono (xB (arr:=(k.toList.take off++ys++k.toList.drop (off+n)).toArray) G) (fun _ _ h=>h)
     have ax:=Reps.mono ay (xB (arr:=(k.toList.take off++ys++k.toList.drop (off+n)).toArray) G) (fun _ _ h=>h);exact((ag.take off).append ax).append (ag.drop (off+n))
    ·intro g' j Y hi
     rw[Z] at Y;simp[Value.ownBlock] at Y;subst Y;exact absurd hi (G j)
theorem yCL {h:Type} (en:En h) (l:List h) (v: h):∀(i:Nat),i<l.length→en.all (l.set i v)=(en.all l).take (i*en.size)++en.cells v++(en.all l).drop (i*en.size+en.size):=by
 induction l with
 | nil=>intro i hi;simp at hi
 | cons a l H=>
  intro i hi;have G:(en.cells a).length=en.size:=en.len a;cases i with
  | zero=>
   simp only[List.set_cons_zero,En.all,List.flatMap_cons,Nat.zero_mul,List.take_zero,List.nil_append,Nat.zero_add];rw[List.drop_append_of_le_length (by omega),List.drop_of_length_le (by omega)];simp
  | succ j=>
   have:=H j (by simpa using hi);simp only[List.set_cons_succ,En.all,List.flatMap_cons] at this ⊢;rw[this,Nat.add_mul,Nat.one_mul];rw[List.take_append,List.drop_append,G];rw[List.take_of_length_le (l:=en.cells a) (by omega),List.drop_of_length_le (l:=en.cells a) (by omega)];have k:j*en.size+en.size-en.size=j*en.size:=by omega
   have z:j*en.size+en.size+en.size-en.size=j*en.size+en.size:=by omega
   rw[k,z];simp[List.append_assoc]
theorem yCM {k:Type} {en:En k} {l z:List k} {e tt:Nat} {x y:Operand} {id:Nat} {i:Int} {v: k} (H:AggTy P tt en.size) (Y:S.ev x= .ptr id (i.toNat*en.size)) (hb:S.blk id= .row e en.size false (en.all l)) (Z:S.ev y= .d (en.dv v)) (O:en.dv v= .agg (en.cells v))
  (T:uQ l i v=some z) (G:E.wrB=true):
  k4 P r E ⟨none,.store tt x y,ty,pos,af,g⟩ S (S.setBlk id (.row e en.size false (en.all z))):=by
 obtain⟨rfl,h0,h⟩:=zMX T;rw[yCL en l v i.toNat h];refine zRV H Y hb ?_ (by rw[Z,O]) (en.len v) G;rw[jE];have:(i.toNat+1)*en.size≤l.length*en.size:=Nat.mul_le_mul_right _ h;rw[Nat.add_mul] at this;omega
def Blk.is:Blk→Bool
 | .none=>false
 | _=>true
theorem Blk.is_ne {b:Blk} (h:b.is=true):b≠ .none:=by cases b<;>simp_all [Blk.is]
def nmB (h:List Nat) (σ:List (Nat×Nat)) (keep:List Nat) (T k:List (Nat×Blk)):Bool:=
 σ.all fun p=>!h.contains p.2 ||(keep.contains p.1&&((look Blk.none T p.1).is&&(look Blk.none k p.1).is))
theorem zDU {G:Nat→Option (List Value)} {w0:World} {I0:Im} {Y:GlI G w0 I0} {ab:Nat→Value} {T0:List (Nat×Blk)} {h:List Nat} {n0:Nat} {aa:n0≤1000000} {f:FuncId} {xs:List Operand} {ats:Array TypeId} {args z:List Cap} {T O:List (Nat×Blk)} {keep:List Nat} (σ:List (Nat×Nat)) (hc:GC P f args T keep z O) (hn:d<n0) (al:(σ.map Prod.fst).Nodup∧(σ.map Prod.snd).Nodup)
  (H:ArgsAs σ (xs.map S.ev) args) (ah:args.all (Cap.idsLt σ)=true) (ak:z.all (Cap.idsLt σ)=true) (hT:BlksAs S σ T) (ag:zCG σ T=true) (Z:zCG σ O=true)
  (ai:zQK S σ T=true) (aj:nmB h σ keep T O=true) (hG:G=zBO P:=by rfl):
  k4 P r (Env.gen G w0 I0 Y ab T0 h n0 aa) ⟨some d,.call {callee:= .value (.func f),args:=xs.toArray,argTypes:=ats},ty,pos,af,g⟩ S
   (((S.killL (zJL σ keep O)).setL (renL σ O++zNC σ T O)).put d ((zNZ z).ren σ)):=
 z6F (E:=Env.gen G w0 I0 Y ab T0 h n0 aa) σ hn (zTT al) H ah ak hT ag Z (zL7 ai) (fun k hk=>by
  have:=List.all_eq_true.1 aj _ (zET hk);by_cases hc:h.contains (look 0 σ k)=true
  ·simp only[hc,Bool.not_true,Bool.false_or,Bool.and_eq_true] at this
   exact .inr ⟨this.1,Blk.is_ne this.2.1,Blk.is_ne this.2.2⟩
  ·refine .inl ?_
   show (if h.contains (look 0 σ k)=true then _ else _)=_;rw[if_neg hc]) hc rfl hG
theorem zYP {f:FuncId} {xf:Operand} {cs:List Cap} {xs:List Operand} {ats:Array TypeId} {args h:List Cap} {T G:List (Nat×Blk)} {keep:List Nat} (σ:List (Nat×Nat)) (hc:GC P f args T keep h G) (hn:d<E.n) (ad:(σ.map Prod.fst).Nodup∧(σ.map Prod.snd).Nodup) (ac:S.ev xf= .clo f cs)
  (z:ArgsAs σ (xs.map S.ev++cs.map Cap.av) args) (Y:args.all (Cap.idsLt σ)=true) (ab:h.all (Cap.idsLt σ)=true) (hT:BlksAs S σ T) (O:zCG σ T=true) (H:zCG σ G=true)
  (Z:zQK S σ T=true) (aa:∀k,E.nm k=none) (hE:E.wrB=true) (hG:E.gdt=zBO P:=by rfl):
  k4 P r E ⟨some d,.call {callee:= .value xf,args:=xs.toArray,argTypes:=ats},ty,pos,af,g⟩ S
   (((S.killL (zJL σ keep G)).setL (renL σ G++zNC σ T G)).put d ((zNZ h).ren σ)):=
 z09 σ hn (zTT ad) ac z Y ab hT O H (zL7 Z) (fun k _=> .inl (aa _)) hc hE hG
theorem z1O {G:Nat→Option (List Value)} {w0:World} {I0:Im} {Y:GlI G w0 I0} {ab:Nat→Value} {T0:List (Nat×Blk)} {h:List Nat} {n0:Nat} {aa:n0≤1000000} {f:FuncId} {xf:Operand} {cs:List Cap} {xs:List Operand} {ats:Array TypeId} {args z:List Cap} {T O:List (Nat×Blk)} {keep:List Nat} (σ:List (Nat×Nat)) (hc:GC P f args T keep z O) (hn:d<n0) (am:(σ.map Prod.fst).Nodup∧(σ.map Prod.snd).Nodup) (al:S.ev xf= .clo f cs)
  (H:ArgsAs σ (xs.map S.ev++cs.map Cap.av) args) (ah:args.all (Cap.idsLt σ)=true) (ak:z.all (Cap.idsLt σ)=true) (hT:BlksAs S σ T) (ag:zCG σ T=true) (Z:zCG σ O=true)
  (ai:zQK S σ T=true) (aj:nmB h σ keep T O=true) (hG:G=zBO P:=by rfl):
  k4 P r (Env.gen G w0 I0 Y ab T0 h n0 aa) ⟨some d,.call {callee:= .value xf,args:=xs.toArray,argTypes:=ats},ty,pos,af,g⟩ S
   (((S.killL (zJL σ keep O)).setL (renL σ O++zNC σ T O)).put d ((zNZ z).ren σ)):=
 z09 (E:=Env.gen G w0 I0 Y ab T0 h n0 aa) σ hn (zTT am) al H ah ak hT ag Z (zL7 ai) (fun k hk=>by
  have:=List.all_eq_true.1 aj _ (zET hk);by_cases hc:h.contains (look 0 σ k)=true
  ·simp only[hc,Bool.not_true,Bool.false_or,Bool.and_eq_true] at this
   exact .inr ⟨this.1,Blk.is_ne this.2.1,Blk.is_ne this.2.2⟩
  ·refine .inl ?_
   show (if h.contains (look 0 σ k)=true then _ else _)=_;rw[if_neg hc]) hc rfl hG
end
end Go.AV
namespace Go.M
def yM {h:Type} [DecidableEq h] (items:List h) (k:Nat) (x: h):Option Unit:=if items[k]? =some x then some () else none
def zVG {h:Type} (items:List h) (k:Nat):Option Unit:=if k=items.length then some () else none
end Go.M
namespace Go.AV
open Go.M
theorem z4M {z:Type} [DecidableEq z] {H:Type} {items:List z} {k:Nat} {x: z} {u:Unit} (f: z→H) (h:yM items k x=some u):(items.map f)[k]? =some (f x):=by unfold yM at h;split at h;rename_i G;rw[List.getElem?_map,G];rfl;cases h
theorem zMC {z:Type} {H:Type} {items:List z} {k:Nat} {u:Unit} (f: z→H) (h:zVG items k=some u):k=(items.map f).length:=by unfold zVG at h;split at h;rename_i G;rw[List.length_map,G];cases h
end Go.AV
namespace Go.AV
open Go.M
section
variable {P:Program} {r:Option Nat} {E:Env} {S:AState} {K:Exit→AState→Prop} {c:Code} {A B C D:Type}
def yPK (E:Env) (z:Exit) (k:A→AState) (G:Exit) (S2:B→AState):A⊕B→Exit→AState→Prop
 | .inl y,h,S'=>h=z∧zE3 E S' (k y)
 | .inr y,h,S'=>h=G∧zE3 E S' (S2 y)
theorem zO (y:A⊕B) (G:Exit) (k:A→AState) (H:Exit) (S2:B→AState) (h:Avc P r E c (yPK E G k H S2 y) S) (O:∀z,y= .inl z→K G (k z)) (T:∀z,y= .inr z→K H (S2 z)):Avc P r E c K S:=by rcases y with y | y;exact zTK (e:=G) (S2:=k y) h (O y rfl);exact zTK (e:=H) (S2:=S2 y) h (T y rfl)
end
end Go.AV
namespace Go.AV
open Go.RowKit Go.M
section
variable {P:Program} {r:Option Nat} {E:Env} {S:AState} {d ty:Nat} {pos:String} {af:Array Edge} {g:Option (Nat×Bool)}
theorem z6N {f:FuncId} {xs:List Operand} {ats:Array TypeId} {args:List Cap} {z:AV} {T G:List (Nat×Blk)} {keep:List Nat} (σ:List (Nat×Nat)) (hc:GCA P f args T keep z G) (hn:d<E.n) (ac:(σ.map Prod.fst).Nodup∧(σ.map Prod.snd).Nodup)
  (h:ArgsAs σ (xs.map S.ev) args) (Y:args.all (Cap.idsLt σ)=true) (ab:z.idsLt σ =true) (hT:BlksAs S σ T) (O:zCG σ T=true) (H:zCG σ G=true)
  (Z:zQK S σ T=true) (aa:∀k,E.nm k=none) (hE:E.wrB=true) (hG:E.gdt=zBO P:=by rfl):
  k4 P r E ⟨some d,.call {callee:= .value (.func f),args:=xs.toArray,argTypes:=ats},ty,pos,af,g⟩ S
   (((S.killL (zJL σ keep G)).setL (renL σ G++zNC σ T G)).put d (z.ren σ)):=
 zWT σ hn (zTT ac) (extra:=[]) (fun A w I ρ C _=>⟨[],by simp[Act.eval],Pw.nil⟩) (by rw[List.append_nil];exact h) Y ab hT O H (zL7 Z) (fun k _=> .inl (aa _)) hc hE hG
theorem yG4 {w:World} {I z:Im} {ys:List Value} {cells:List DV} (h:Reps w z ys cells) (G:∀x∈cells,∃u,x= .v u):Reps w I ys cells:=
 ⟨h.1,fun j y x H k=>by
  obtain⟨u,rfl⟩:=G x (List.mem_of_getElem? k);have:=h.2 j y _ H k;cases this;exact .v _⟩
theorem yLN {f e size n off id k0:Nat} {x y:Operand} {ats:Array TypeId} {L z:List DV} {fv:DV} (hn:d<E.n) (hx:S.ev x= .rs id off n) (hy:S.ev y= .d fv) (hb:S.blk id= .row e size false L) (h0:0<n) (bk:off+n*size≤L.length)
  (hv:∀x∈z,∃u,x= .v u) (hc:GC P f [.row k0,.d fv] [(k0,.win e size 0 ((L.drop off).take (n*size)))] [k0] [] [(k0,.win e size 0 z)]) (hE:E.wrB=true) (hG:E.gdt=zBO P:=by rfl):
  k4 P r E ⟨some d,.call {callee:= .value (.func f),args:= #[x,y],argTypes:=ats},ty,pos,af,g⟩ S
   ((S.setBlk id (.row e size false (L.take off++z++L.drop (off+n*size)))).put d (.tupc [])):=by
 rintro A w K Q ⟨I,ρ,C,hs⟩ hk
 obtain⟨⟨fn,hf,bd,aw⟩,ax⟩:=hc;have cz:S.blk id≠ .none:=by rw[hb];simp
 have bj:=hs.blks id;rw[hb] at bj;obtain⟨⟨hp,hM⟩,n0,xs,hl,br,h1,hr,hI⟩:=bj;have aj:=hs.ev x;rw[hx] at aj;obtain⟨A',c,aj,bq,hA⟩:=aj;obtain⟨O,ah,rfl⟩:=hA h0;have aq:=hs.ev y;rw[hy] at aq;have aq:Rep w I (A.eval y) fv:=aq;have dn:0<n*size:=Nat.mul_pos h0 hp;have eq:xs.length=L.length:=hr.1;rcases br.2 with ⟨ac,_⟩ | ⟨gb,cd,G,ac,hB,hh,be,cp,ay,bw⟩
 ·rw[ac] at ah;cases ah
 have ck:O=gb:=by rw[ac] at ah;simpa[blockOf] using ah.symm
 subst ck;have ak:∀j,¬I O j:=fun j T=>by have:=(hI O j (by rw[ac];rfl) T).1;cases this
 have bl:O<w.heap.size:=(Array.getElem?_eq_some_iff.1 hh).1;have cj:L.length≤G.size:=by rw[ay,hl];exact Nat.mul_le_mul_right _ be
 have bg:∀(j:Nat) v,xs[j]? =some v→G[j]? =some v:=fun j v T=>by
  rw[←bw,List.getElem?_take] at T;split at T
  ·simpa using T
  ·cases T
 let I1:Im:=fun b j=>I b j∨(b=O∧(j<off∨off+n*size≤j))
 let ca:Nat→Value:=fun _=>A.eval x
 have ad:∀b j,I b j→I1 b j:=fun b j h=> .inl h;have an:Same I w w:=fun _ _ _=>KeepB.refl;have az:Frag w I1 ca [(k0,.win e size 0 ((L.drop off).take (n*size)))]:=by
  refine⟨fun k=>?_,fun k k' b al ab au _=>?_⟩
  ·by_cases ap:k=k0
   ·subst ap
    rw[kU,if_pos rfl];refine⟨_,n,c,(xs.drop off).take (n*size),aj,bq,hp,by simp;omega,Reps.mono ((hr.drop off).take (n*size)) an ad,fun u hu=>h1 u (List.mem_of_mem_drop (List.mem_of_mem_take hu)),.inr ⟨O,off,G,rfl,trivial,hh,by omega,fun j u T=>?_,fun j ei ej T=>?_⟩⟩
    ·rw[List.getElem?_take] at T
     split at T
     ·rw[List.getElem?_drop] at T;exact bg _ u T
     ·cases T
    ·rcases T with T | ⟨_,T⟩
     ·exact absurd T (ak j)
     ·omega
   ·rw[kU,if_neg (fun e=>ap e.symm)]
    trivial
  ·exfalso
   have e1:k=k0:=by
    by_cases e:k=k0
    ·exact e
    ·exfalso;apply ab;rw[kU,if_neg (fun q=>e q.symm)];rfl
   have e2:k'=k0:=by
    by_cases e:k'=k0
    ·exact e
    ·exfalso;apply au;rw[kU,if_neg (fun q=>e q.symm)];rfl
   exact al (e1.trans e2.symm)
 have ci:∀b j,I1 b j→b<w.heap.size:=by
  rintro b j (h | ⟨rfl,_⟩)
  ·exact(hs.old b j h).1
  ·exact bl
 have cn:=ax w I1 ca [A.eval x,A.eval y] ci ((hG▸hs.gl).sub ad) az (Pw.cons rfl (Pw.cons (Rep.mono aq an ad) Pw.nil));refine⟨fun f _=>trivial,?_⟩;rw[Oper.semAt_eq _ _ _ (by simp)];have bv:(execOp A.eval ⟨some d,.call {callee:= .value (.func f),args:= #[x,y],argTypes:=ats},ty,pos,af,g⟩).run P w= .ok (.enter f #[A.eval x,A.eval y]) w:=by
  have cx:¬fn.name= "runtime.NumGoroutine" :=by simpa using bd
  have cy:¬fn.body=none:=by intro e;simp[e] at aw
  simp[execOp,resolve,Act.eval,Deferred.ofValue,invoke,callFunc,hf,cx,cy]
 rw[bv];refine⟨by simp[fen,Fence.wide],?_⟩;show CallsIn Fence.wide 0 P f _ w _;refine callsIn_wide.2 (cn.mono ?_)
 rintro e' w' ⟨v,I',ez,rfl,Z,am,dp,dm,ao,bu,da,bc⟩
 have bn:look Blk.none [(k0,Blk.win e size 0 z)] k0= .win e size 0 z:=by rw[kU,if_pos rfl]
 have ap:=bc k0 (by simp) (by rw[bn];simp)
 have ar:=ao.ok k0;rw[bn] at ar;obtain⟨A2,n2,c2,ys,aa,_,_,cv,bt,cg,ch⟩:=ar;rw[ap] at aa;have aa:A.eval x= .slice A2 n2 c2:=aa;rw[aj] at aa;cases aa;rcases ch with ⟨bf,_⟩ | ⟨b2,dr,H,bf,_,bm,cq,cm,_⟩
 ·cases bf
 cases bf;have dg:ys.length=n*size:=by rw[bt.1];exact cv
 have ag:∀j,(j<off∨off+n*size≤j)→H[j]? =G[j]?:=fun j T=>by
  have:=(am O j (.inr ⟨rfl,T⟩)).cell;rw[cell_of_row w' O j H e (0,0) bm,cell_of_row w O j G e (0,0) hh] at this;exact this
 have df:H.size=G.size:=by
  have ab:H[G.size]? =none:=by rw[ag G.size (.inr (by omega))];simp
  have au:H.size≤G.size:=by
   by_cases bo:G.size<H.size
   ·rw[Array.getElem?_eq_getElem bo] at ab;cases ab
   ·omega
  by_cases bo:off+n*size<G.size
  ·have:=ag (G.size-1) (.inr (by omega))
   rw[Array.getElem?_eq_getElem (by omega:G.size-1<G.size)] at this;have:=(Array.getElem?_eq_some_iff.1 this).1;omega
  ·omega
 have bi:H.toList=G.toList.take off++ys++G.toList.drop (off+n*size):=by
  apply List.ext_getElem?;intro j;by_cases ab:j<off
  ·rw[List.append_assoc,List.getElem?_append_left (by simp;omega),List.getElem?_take,if_pos ab]
   have:=ag j (.inl ab);simpa using this
  ·by_cases au:j<off+n*size
   ·have bb:(G.toList.take off).length=off:=by simp;omega
    rw[List.append_assoc,List.getElem?_append_right (by omega),List.getElem?_append_left (by omega),bb];have bz:ys[j-off]? =some ys[j-off]:=List.getElem?_eq_getElem (by omega);have:=cm (j-off) _ bz;rw[bz,show off+(j-off)=j by omega] at*;simpa using this
   ·have bb:(G.toList.take off++ys).length=off+n*size:=by simp;omega
    rw[List.getElem?_append_right (by omega),bb,List.getElem?_drop,show off+n*size+(j-(off+n*size))=j by omega];have:=ag j (.inr (by omega));simpa using this
 have Y:Same I w w':=fun b j h=>am b j (.inl h);have cr:w.grownBy w' (some O):=⟨Z.os,Z.tape,Z.output,Z.size,fun k hk al=>Z.block k hk (by
  rintro⟨i,_,hi⟩
  have hi:blockOf (A.eval x)=some k:=hi;rw[aj] at hi;exact al (by simpa[blockOf] using hi.symm))⟩
 have bx:xs.take off++ys++xs.drop (off+n*size)=H.toList.take (n0*size):=by
  rw[bi,←bw];have hL:off+n*size≤n0*size:=by rw[←hl];exact bk
  exact(zTW dg hL (by simp;rw[ay];exact Nat.mul_le_mul_right _ be)).symm
 have de:Reps w' I (xs.take off++ys++xs.drop (off+n*size)) (L.take off++z++L.drop (off+n*size)):=
  ((Reps.mono (hr.take off) Y fun _ _ h=>h).append (yG4 bt hv)).append (Reps.mono (hr.drop _) Y fun _ _ h=>h)
 have bp:=hs.modify (id:=id) (x:= .row e size false (L.take off++z++L.drop (off+n*size))) cr cz (by rw[ac];rfl) Y ⟨⟨hp,hM⟩,n0,xs.take off++ys++xs.drop (off+n*size),by simp;omega,⟨by simp;omega,.inr ⟨O,cd,H,ac,hB,bm,be,cp,by rw[df];exact ay,bx.symm⟩⟩,by
   intro u hu;simp only[List.mem_append] at hu;rcases hu with (hu | hu) | hu
   ·exact h1 u (List.mem_of_mem_take hu)
   ·exact cg u hu
   ·exact h1 u (List.mem_of_mem_drop hu),de,by
   intro g' j ba hi;rw[ac] at ba;simp[Value.ownBlock] at ba;subst ba;exact absurd hi (ak j)⟩ hE
 refine hk _ _ ⟨I,ρ,C,bp.put hn ?_⟩;obtain⟨zs,hz,dh⟩:=bu;exact⟨zs,hz,List.eq_nil_of_length_eq_zero dh.1▸Pw.nil⟩
end
end Go.AV
namespace Go.M
def zK6 {h:Type} (f:List h→Option (List h)) (l:List h) (a b:Int):Option (List h):=
 if 0≤a∧a<b∧b.toNat≤l.length then (f ((l.drop a.toNat).take (b.toNat-a.toNat))).map fun m=>l.take a.toNat++m++l.drop b.toNat else none
end Go.M
namespace Go.AV
open Go.RowKit Go.M
section
variable {P:Program} {r:Option Nat} {E:Env} {S:AState} {d ty:Nat} {pos:String} {af:Array Edge} {g:Option (Nat×Bool)}
theorem yPL (l:List Int):∀x∈eI.all l,∃u,x= .v u:=by intro x k;obtain⟨n,_,h⟩:=List.mem_flatMap.1 k;have h:x∈[di n]:=h;simp at h;exact⟨_,h⟩
theorem yLO {z:Type} {en:En z} {f e id H:Nat} {x y:Operand} {ats:Array TypeId} {l Z:List z} {a b:Int} {T:DV} {mf:List z→Option (List z)} (hn:d<E.n) (hx:S.ev x= .rs id (a.toNat*en.size) (b.toNat-a.toNat)) (hy:S.ev y= .d T) (hb:S.blk id= .row e en.size false (en.all l))
  (G:zK6 mf l a b=some Z) (hv:∀(m:List z),∀x∈en.all m,∃u,x= .v u) (hc:∀m h,mf m=some h→GC P f [.row H,.d T] [(H,.win e en.size 0 (en.all m))] [H] [] [(H,.win e en.size 0 (en.all h))]) (hE:E.wrB=true) (hG:E.gdt=zBO P:=by rfl):
  k4 P r E ⟨some d,.call {callee:= .value (.func f),args:= #[x,y],argTypes:=ats},ty,pos,af,g⟩ S ((S.setBlk id (.row e en.size false (en.all Z))).put d (.tupc [])):=by
 unfold zK6 at G;split at G
 ·rename_i O
  obtain⟨h,hm,rfl⟩:=Option.map_eq_some_iff.1 G;have Y:=hc _ _ hm;have e0:en.all ((l.drop a.toNat).take (b.toNat-a.toNat))=((en.all l).drop (a.toNat*en.size)).take ((b.toNat-a.toNat)*en.size):=by rw[zGS,zDH]
  rw[e0] at Y;have k:a.toNat*en.size+(b.toNat-a.toNat)*en.size=b.toNat*en.size:=by rw[←Nat.add_mul];congr 1;omega
  have h2:=yLN (P:=P) (r:=r) (E:=E) (S:=S) (d:=d) (ty:=ty) (pos:=pos) (af:=af) (g:=g) (ats:=ats) hn hx hy hb (by omega) (by rw[k,jE];exact Nat.mul_le_mul_right _ O.2.2) (hv h) Y hE hG
  have e1:en.all (l.take a.toNat++h++l.drop b.toNat)=(en.all l).take (a.toNat*en.size)++en.all h++(en.all l).drop (a.toNat*en.size+(b.toNat-a.toNat)*en.size):=by
   rw[k,zGS,zDH];simp[En.all,List.flatMap_append]
  rw[e1];exact h2
 ·cases G
theorem z1P {T:Type} {en:En T} {t e bytes:Nat} {z:Value} {x lo hi:Operand} {id:Nat} {sh:Bool} {l:List T} {H O:IntKind} {a b:Int} (hn:d<E.n) (Z:SlTy P t e en.size bytes z) (hx:S.ev x= .row id) (hb:S.blk id= .row e en.size sh (en.all l)) (G:S.ev lo= .d (.v (.int H a))) (k:S.ev hi= .d (.v (.int O b)))
  (h0:0≤a) (h1:a<b) (Y:b.toNat≤l.length):AOp P r E S ⟨some d,.slice t x (some lo) (some hi) none,ty,pos,af,g⟩ d (.rs id (a.toNat*en.size) (b.toNat-a.toNat)):=
 zL0 hn Z hx hb (jE en l) (lo:=some lo) (hi:=some hi) (l:=a.toNat) (h:=b.toNat) ⟨⟨H,a,G,by omega⟩,⟨O,b,k,by omega⟩,by omega,Y⟩
end
end Go.AV
namespace Go.M
def zAD {h k:Type} (f:List h→Option (List h)) (lo hi: k→Int) (l:List h) (items:List k):Option (List h):=items.foldl (fun o x=>o.bind fun l=>zK6 f l (lo x) (hi x)) (some l)
theorem zNP {h k:Type} (f:List h→Option (List h)) (lo hi: k→Int):∀items:List k,items.foldl (fun (o:Option (List h)) x=>o.bind fun l=>zK6 f l (lo x) (hi x)) none=none
 | []=>rfl
 | _::r=>zNP f lo hi r
noncomputable def outK {h z:Type} (f:List h→Option (List h)) (lo hi: z→Int) (l:List h) (items:List z) (k:Nat):List h:=(zAD f lo hi l (items.take k)).getD []
theorem z9J {H O:Type} {f:List H→Option (List H)} {lo hi: O→Int} {l r:List H} {items:List O} (h:zAD f lo hi l items=some r) {k:Nat} {v: O} (Y:items[k]? =some v):zK6 f (outK f lo hi l items k) (lo v) (hi v)=some (outK f lo hi l items (k+1)):=by
 have hk:=(List.getElem?_eq_some_iff.1 Y).1;have e:zAD f lo hi l (items.take (k+1))=(zAD f lo hi l (items.take k)).bind fun l=>zK6 f l (lo v) (hi v):=by
  unfold zAD;rw[List.take_add_one,Y,List.foldl_append];rfl
 have Z:∃x,zAD f lo hi l (items.take (k+1))=some x:=by
  cases z:zAD f lo hi l (items.take (k+1)) with
  | some x=>exact⟨x,rfl⟩
  | none=>
   exfalso;have G:=h;rw[←List.take_append_drop (k+1) items] at G;unfold zAD at G z;rw[List.foldl_append,z,zNP] at G;cases G
 obtain⟨x,z⟩:=Z;rw[z] at e;unfold outK;rw[z];cases T:zAD f lo hi l (items.take k) with
 | none=>rw[T] at e;cases e
 | some y=>rw[T] at e;exact e.symm
theorem yCN {k z:Type} {f:List k→Option (List k)} {lo hi: z→Int} {l r:List k} {items:List z} (h:zAD f lo hi l items=some r):outK f lo hi l items items.length=r:=by unfold outK;rw[List.take_length,h];rfl
theorem yCO {k:Type} {f:List k→Option (List k)} {l z:List k} {a b:Int} (h:zK6 f l a b=some z):0≤a∧a<b∧b.toNat≤l.length:=by unfold zK6 at h;split at h;assumption;cases h
end Go.M
namespace Go.AV
open Go.RowKit Go.M
section
variable {P:Program} {r:Option Nat} {E:Env} {S:AState} {d:Nat} {ty:TypeId} {pos:String} {af:Array Edge} {g:Option (Nat×Bool)}
theorem NilL.app:∀{as bs cs ds:List DV},NilL as bs→NilL cs ds→NilL (as++cs) (bs++ds)
 | [],[],_,_,_,h=>h
 | [],_::_,_,_,h,_=>h.elim
 | _::_,[],_,_,h,_=>h.elim
 | _::_,_::_,_,_,h,k=>⟨h.1,NilL.app h.2 k⟩
theorem NilL.len:∀{as bs:List DV},NilL as bs→as.length=bs.length
 | [],[],_=>rfl
 | [],_::_,h=>h.elim
 | _::_,[],h=>h.elim
 | _::_,_::_,h=>by simp[NilL.len h.2]
theorem zVH {id e size:Nat} {as bs:List DV} (hb:S.blk id= .row e size false as) (z:NilL as bs):zE3 E S (S.setBlk id (.row e size false bs)):=by
 rintro a w ⟨I,ρ,C,h⟩
 have T:=h.blks id;rw[hb] at T;obtain⟨hp,n,xs,hl,G,Z,hr,hI⟩:=T;have O:S.blk id≠ .none:=by rw[hb];simp
 have key:∀i,(S.setBlk id (.row e size false bs)).blk i≠ .none→S.blk i≠ .none:=by
  intro i hi;rw[yA] at hi;by_cases k:id=i;subst k;exact O;simpa[k] using hi
 refine⟨I,ρ,C,⟨h.tmps,fun i=>?_,fun i Y b z hi H=>h.dist i Y b z (key i hi) (key Y H),h.frame,h.sub,h.old,h.size,h.defers,h.cI,fun i b hi=>h.cB i b (key i hi),fun i v hv hi=>h.nm i v hv (key i hi)⟩⟩;rw[yA];by_cases k:id=i;subst k;simp only[if_true];exact⟨hp,n,xs,by rw[←z.len];exact hl,G,Z,zO1 z hr,by rw[←z.len];exact hI⟩
 simp only[k,if_false];exact h.blks i
variable {α:Type} {en:En α} {l:List α} {t e bytes:Nat} {z:Value} {x:Operand}
theorem yG5 {n:Int} {zero: α} (Z:d<E.n) (Y:SlTy P t e en.size bytes z) (hx:S.ev x= .d (.v (.int .i64 n))) (k:mkM zero n=some l) (h:bytes≤32768) (G:E.nm d=none):
  k4 P r E ⟨some d,.makeSlice t x x,ty,pos,af,g⟩ S (((S.kill d).setBlk d (.row e en.size false (zE5 z l.length))).put d (.row d)):=by
 unfold mkM at k;split at k
 ·rename_i T
  cases k;have H:n=((n.toNat:Nat):Int):=by omega
  have O:n.toNat*bytes≤140737488355328:=by
   have H:n.toNat*bytes≤4294967296*bytes:=Nat.mul_le_mul_right _ T.2;have O:4294967296*bytes≤4294967296*32768:=Nat.mul_le_mul_left _ h;omega
  have:=zQC (P:=P) (r:=r) (ty:=ty) (pos:=pos) (af:=af) (g:=g) Z Y hx H O (by have:=T.2;unfold LIM at this;unfold maxLen;omega) G
  rw[List.length_replicate];exact this
 ·cases k
theorem z9K {n:Int} {zero: α} (G:NilL (z.cells.toList.map DV.v) (en.cells zero)) (h:mkM zero n=some l):NilL (zE5 z l.length) (en.all l):=by
 unfold mkM at h;split at h;cases h;rw[List.length_replicate]
 induction n.toNat with
 | zero=>trivial
 | succ k H=>exact G.app H
 cases h
end
end Go.AV
namespace Go.AV
open Go.M
theorem wc {E:Env} {S S':AState} (ht:Cov S S'.tmps:=by repeat (first | exact trivial | refine⟨rfl,?_⟩)) (hb:zOS S S'.blks:=by repeat (first | exact trivial | refine⟨rfl,?_⟩)) (hgh:∀C w,E.fr S.ghost C w→E.fr S'.ghost C w:=by exact fun _ _ h=>h):zE3 E S S':=zOT ht hb hgh
abbrev GdO (o:Oper) (ops:Array Oper) (S:AState) (E:Env) (j t d:Nat) (b q:Bool):Prop:=(o.guard,(ops[j]?).bind (·.dst),o.dst,S.get t,Nat.blt d E.n,Nat.blt t E.n)=(some (j,q),some t,some d,AV.d (.v (.bool b)),true,true)
section
variable {P:Program} {r:Option Nat} {E:Env} {S S':AState} {l:List Oper} {J:AState→Prop} {fuel i d j t:Nat} {listed:List Bool} {is:List Nat} {o:Oper} {x:AV} {b:Bool} {ops:Array Oper} {rest:List Oper}
theorem xa (G:l[i]? =some o) (h:AOp P r E S o d x) (k:zHF P r E l J fuel (listed.set i true) (S.put d x)) (H:AnyE P r E l J fuel listed S is) (z:o.guard=none:=by rfl):AnyE P r E l J fuel listed S (i::is):=yJ1 G z h k H
theorem xb (G:l[i]? =some o) (h:k4 P r E o S S') (k:zHF P r E l J fuel (listed.set i true) S') (H:AnyE P r E l J fuel listed S is) (z:o.guard=none:=by rfl):AnyE P r E l J fuel listed S (i::is):=yJ0 G z h k H
theorem xc (G:l[i]? =some o) (h:AOp P r E S o d x) (k:zHF P r E l J fuel (listed.set i true) (S.put d x)) (z:o.guard=none:=by rfl):AnyE P r E l J fuel listed S [i]:=yJ1 G z h k z6M
theorem xd (G:l[i]? =some o) (h:k4 P r E o S S') (k:zHF P r E l J fuel (listed.set i true) S') (z:o.guard=none:=by rfl):AnyE P r E l J fuel listed S [i]:=yJ0 G z h k z6M
theorem xn (is:List Nat) (h:AnyE P r E l J fuel listed S is) (z:rdy l listed=is:=by kernel_rfl) (k:is.isEmpty=false:=by rfl):zHF P r E l J (fuel+1) listed S:=yN1 is z k h
theorem sqt (x:AV) (z:GdO o ops S E j t d b true) (h:b=true→AOp P r E S o d x) (k:Sq P r E ops rest (S.put d (.cond (gd true b) x)) J):Sq P r E ops (o::rest) S J:=by injection z with G z;injection z with H z;injection z with O z;injection z with T z;injection z with Y Z;exact yGK G H O (lq Y) (lq Z) T h k
theorem sqf (x:AV) (z:GdO o ops S E j t d b false) (h:b=false→AOp P r E S o d x) (k:Sq P r E ops rest (S.put d (.cond (gd false b) x)) J):Sq P r E ops (o::rest) S J:=by injection z with G z;injection z with H z;injection z with O z;injection z with T z;injection z with Y Z;exact yGK G H O (lq Y) (lq Z) T (fun hb=>h (gF hb)) k
theorem dat (x:AV) (z:GdO o ops S E j t d b true) (h:b=true→AOp P r E S o d x) (k:DA P r E ops rest (S.put d (.cond (gd true b) x)) J):DA P r E ops (o::rest) S J:=by injection z with G z;injection z with H z;injection z with O z;injection z with T z;injection z with Y Z;exact yNQ G H O (lq Y) (lq Z) T h k
theorem daf (x:AV) (z:GdO o ops S E j t d b false) (h:b=false→AOp P r E S o d x) (k:DA P r E ops rest (S.put d (.cond (gd false b) x)) J):DA P r E ops (o::rest) S J:=by injection z with G z;injection z with H z;injection z with O z;injection z with T z;injection z with Y Z;exact yNQ G H O (lq Y) (lq Z) T (fun hb=>h (gF hb)) k
theorem zV {c:Operand} {y z:Code} {K:Exit→AState→Prop} {k:Type} {A B:Option k} {q:Option k} (h:cond b A B=q) (H:A=q→Avc P r E y K S) (O:B=q→Avc P r E z K S) (G:S.ev c= .d (.v (.bool b)):=by rfl):Avc P r E (.cond c y z) K S:=
 zHE G ⟨fun e=>H (cT e h),fun e=>O (cF e h)⟩
end
section
variable {P:Program} {r:Option Nat} {E:Env} {S S':AState} {l:List Oper} {J:AState→Prop} {fuel d:Nat} {listed:List Bool} {x:Operand} {ty:TypeId} {pos:String} {af:Array Edge}
theorem xm (i:Nat) (k:zHF P r E l J fuel (listed.set i true) (S.put d (S.ev x))) (hi:l[i]? =some ⟨some d,.move x,ty,pos,af,none⟩:=by rfl) (H:d<E.n:=by exact lq rfl) (O:r=none:=by rfl) (h:zW0 l=true:=by rfl) (z:z9I l listed i ⟨some d,.move x,ty,pos,af,none⟩=true:=by rfl) (G:(rdy l listed).contains i=true:=by rfl):zHF P r E l J (fuel+1) listed S:=yCK hi H O h z G k
end
theorem fx {F G:Prop} (f:F) (h:F→G:=by first | exact fun f=>OneTy.of f rfl (by kernel_rfl) | exact fun f=>AggTy.of f rfl (by kernel_rfl) | exact fun f=>FldTy.of f rfl (by kernel_rfl) (by decide) | exact fun f=>SlTy.of f (by kernel_rfl) rfl (by decide) rfl | exact fun f=>StTy.of f (by kernel_rfl) (by kernel_rfl) rfl):G:=h f
theorem co {F H G:Prop} (f:F) (k:H) (h:F→H→G:=by exact fun f k=>z0O f (by kernel_rfl) rfl (lq rfl) (lq rfl) k):G:=h f k
theorem ae {E:Env} {P:Program} {r:Option Nat} {l:List Oper} {fuel:Nat} {listed:List Bool} {S S2:AState} {e:Exit} (k:rdy l listed= []:=by rfl) (h:zE3 E S S2:=by exact wc):zHF P r E l (outK E e S2 e) fuel listed S:=yG3 k (z39 h)
theorem tl {E:Env} {P:Program} {r:Option Nat} {S:AState} {K:Exit→AState→Prop} {c:Code} (e:Exit) (S2:AState) (h:Avc P r E c (outK E e S2) S) (k:K e S2):Avc P r E c K S:=zTK h k
theorem oi {k:Type} {a b: k} (h:some a=some b):a=b:=Option.some.inj h
end Go.AV
namespace Go.AV
open Go.RowKit Go.M
def pnd (a:Act) (vs:Nat→Value):List (Nat×Nat)→Act
 | []=>a
 | u::U=>(pnd a vs U).put (some u.2) (vs u.2)
def unf (listed:List Bool) (U:List (Nat×Nat)):List Bool:=(List.range listed.length).map fun k=>listed.getD k true&& !U.any fun u=>u.1==k
section
variable {P:Program} {r:Option Nat} {E:Env} {l:List Oper} {J:AState→Prop} {S:AState}
def FlS (P:Program) (r:Option Nat) (E:Env) (l:List Oper) (S:AState) (u:Nat×Nat):Prop:= ∃o,l[u.1]? =some o∧o.guard=none∧u.2∉o.looksAt l.toArray∧AOp P r E S o u.2 (S.get u.2)
def yN2 (P:Program) (r:Option Nat) (E:Env) (l:List Oper) (J:AState→Prop) (h:List (Nat×Nat)) (fuel:Nat) (listed:List Bool) (S:AState):Prop:=
 ∀(U:List (Nat×Nat)),U.Nodup→(∀u∈U,u∈h)→∀(vs:Nat→Value) (a:Act) (w:World),Sat E S (pnd a vs U) w→wpAnyIn (fen r) 0 P .any l.toArray (QJ E J) (fuel+U.length) (unf listed U).toArray a w
end
end Go.AV
namespace Go.AV
open Go.RowKit Go.M
section
variable {P:Program} {r:Option Nat} {E:Env} {l:List Oper} {J:AState→Prop} {S:AState} {fl:List (Nat×Nat)} {listed:List Bool} {fuel:Nat}
def FlA (P:Program) (r:Option Nat) (E:Env) (l:List Oper) (S:AState):List (Nat×Nat)→Prop
 | []=>True
 | u::fl=>FlS P r E l S u∧FlA P r E l S fl
theorem FlA.mem:∀{fl:List (Nat×Nat)},FlA P r E l S fl→∀u∈fl,FlS P r E l S u
 | [],_,u,h=>by cases h
 | v::fl,h,u,k=>by
  rcases List.mem_cons.1 k with e | k;rw[e];exact h.1;exact h.2.mem u k
def AnyG (P:Program) (r:Option Nat) (E:Env) (l:List Oper) (J:AState→Prop) (fl:List (Nat×Nat)) (fuel:Nat) (listed:List Bool) (S:AState):List Nat→Prop
 | []=>True
 | i::is=>(∃o S',l[i]? =some o∧o.guard=none∧k4 P r E o S S'∧yN2 P r E l J fl fuel (listed.set i true) S')∧AnyG P r E l J fl fuel listed S is
theorem AnyG.mem:∀{is:List Nat} {i:Nat},AnyG P r E l J fl fuel listed S is→i∈is→∃o S',l[i]? =some o∧o.guard=none∧k4 P r E o S S'∧yN2 P r E l J fl fuel (listed.set i true) S'
 | [],_,_,h=>by cases h
 | k::is,i,h,hi=>by
  rcases List.mem_cons.1 hi with e | hi;subst e;exact h.1;exact AnyG.mem h.2 hi
end
end Go.AV
namespace Go.M
def yN3 (l:List Int):Str:=l.map fun n=>UInt8.ofNat n.toNat
end Go.M
namespace Go.AV
open Go.RowKit Go.M
section
variable {P:Program} {r:Option Nat} {E:Env} {S:AState} {d:Nat} {ty:TypeId} {pos:String} {af:Array Edge} {g:Option (Nat×Bool)}
theorem yLP (l:List Int):e8.all l=l.map dby:=by
 induction l with
 | nil=>rfl
 | cons x l h=>
  show e8.cells x++e8.all l=dby x::l.map dby;rw[h];rfl
theorem yLQ {k h e:TypeId} {x:Operand} {id eb:Nat} {sh:Bool} {l:List Int} (H:d<E.n) (O:P.underlying k=some (.slice e)) (z:P.underlying h=some .string) (G:P.underlying e=some (.int .u8)) (T:S.ev x= .row id)
  (hb:S.blk id= .row eb e8.size sh (e8.all l)):AOp P r E S ⟨some d,.convert k h x,ty,pos,af,g⟩ d (.d (ds (yN3 l))):=
 zTE H O z G T (sh:=sh) (l:=l) (by rw[hb,←yLP];rfl)
theorem z4N {α:Type} {en:En α} {l l':List α} {t e:TypeId} {n:Nat} {zs:List Value} {x hi:Operand} {k2:IntKind} {b:Int} (hn:d<E.n) (Z:ArTy P t n en.size e zs) (ad:l.length=n) (hp:0<n) (hx:S.ev x= .d (.pt (en.all l))) (ac:S.ev hi= .d (.v (.int k2 b))) (h:slc l 0 b=some l'):
  AOp P r E S ⟨some d,.slice t x none (some hi) none,ty,pos,af,g⟩ d (.d (zN en l')):=
 ⟨rfl,hn,fun S' ha=>zW rfl hn (by simp) fun A w I ρ C hs=>by
  obtain⟨rfl,h0,h1,h2⟩:=zCP h;have Y:=hs.ev x;rw[(ha.ev (x:=x) (by simp[Op.operands])).trans hx] at Y;have h4:=hs.val ((ha.ev (x:=hi) (by simp[Op.operands])).trans ac);have ab:b=(b.toNat:Int):=by omega
  generalize b.toNat=k at*;subst ab;generalize hv:A.eval x=v at Y;cases Y with
  | pt O off xs _ ag hc T hr=>
   have z:=jE en l;have aa:(Instr.sliceBounds false n n none (some (.int k2 k)) none).run P w= .ok (0,k,n) w:=by
    simp[Instr.sliceBounds,xC (P:=P) w k2 k n _ (by omega)]
   rw[ad] at z;have hR:Rep w I (.slice (some ⟨O,off,none⟩) n n) (.sl en.size (en.all l)):= .sl O off n n en.size xs _ hp (Nat.le_refl _) z ag hc T hr;have H:=zWK (l:=0) (h:=k) hR z Z.pos (Nat.zero_le _) (by omega);rw[if_neg (by omega)] at H;have G:n≠0:=by omega
   simp only[Option.map_some,w9,Nat.zero_mul,Nat.add_zero,Nat.sub_zero,List.drop_zero] at H;refine⟨.slice (some ⟨O,off,none⟩) k n,?_,?_⟩
   ·simp only[execOp,Instr.sliceAt,Sem.run_bind,run_underlying Z.und,Result.andThen_ok,hv,Option.map_some,Option.map_none,h4,Instr.sureAddr,Sem.run_pure,aa,Z.size,G.symm,G,if_false,w9,Nat.zero_mul,Nat.add_zero,Nat.sub_zero]
   ·rw[zDH] at H
    exact H⟩
theorem zW2 {Y:Type} {en:En Y} {l:List Y} {t e:TypeId} {n off:Nat} {zs:List Value} {cells:List DV} {x O:Operand} {kk:IntKind} {i:Int} {v: Y} (hn:d<E.n) (hT:ArTy P t n en.size e zs) (G:l.length=n) (hx:S.ev x= .ip cells off) (hi:S.ev O= .d (.v (.int kk i))) (hv:z7 l i=some v):
  AOp P r E S ⟨some d,.indexAddr t x O,ty,pos,af,g⟩ d (.ip cells (off+i.toNat*en.size)):=
 ⟨rfl,hn,fun S' ha=>zW rfl hn (by simp) fun A w I ρ C hs=>by
  have h:=hs.ev x;rw[(ha.ev (by simp[Op.operands])).trans hx] at h;have Z:=hs.ev O;rw[(ha.ev (by simp[Op.operands])).trans hi] at Z;have k:=zTS Z;obtain⟨b,T,xs,H,hr,h1,z⟩:=h;have hk:=(xP hv).2.2.1;rw[(xP hv).2.1] at k;rw[G] at hk;refine⟨.pointer (some ⟨b,T+(off+i.toNat*en.size),none⟩),?_,b,T,xs,rfl,hr,h1,z⟩;simp only[execOp,H,k,Sem.run_bind,zKP hT hk kk w b (T+off),Nat.add_assoc];rfl⟩
theorem yCP {G H:Type} {en:En G} {h:En H} {Z:List G} {l:List H} {t:TypeId} {x:Operand} {i j:Int} {v: G} {u: H} (hn:d<E.n) (hT:OneTy P t) (hx:S.ev x= .ip (en.all Z) (i.toNat*en.size+j.toNat*h.size)) (hv:z7 Z i=some v) (hu:z7 l j=some u)
  (Y:en.cells v=h.all l) (O:h.cells u= [h.dv u]):AOp P r E S ⟨some d,.load t x,ty,pos,af,g⟩ d (.d (h.dv u)):=
 xT hn hT hx (by
  have z:h.size=1:=by have:=zTL (h.ok u);rw[show vH (h.dv u)=h.cells u from rfl,O] at this;simpa using this.symm
  have hj:=(xP hu).2.2;have k:j.toNat*h.size<en.size:=by
   have:=zTL (en.ok v);rw[show vH (en.dv v)=en.cells v from rfl,Y,jE] at this;rw[←this,z];omega
  rw[zMU en (xP hv).2.2.2 _ k,Y];have T:=zMU h hj.2 0 (by omega);rw[Nat.add_zero] at T;rw[T,O];rfl)
end
end Go.AV
namespace Go.AV
open Go.RowKit Go.M
section
variable {P:Program} {r:Option Nat} {E:Env} {S:AState} {d:Nat} {ty:TypeId} {pos:String} {af:Array Edge} {g:Option (Nat×Bool)}
theorem z9L {α:Type} {en:En α} {t e bytes:Nat} {z:Value} {m l':List α} {x s:Operand} {id:Nat} (hn:d<E.n) (hT:SlTy P t e en.size bytes z) (hs:S.ev s= .d (.v (.slice none 0 0))) (O:((S.kill id).setBlk id (.row e en.size false [])).ev x= .d (zN en m)) (ha:app [] m=some l') (aj:0<bytes) (H:bytes≤32768)
  (hE:E.wrB=true) (T:E.nm id=none):
  k4 P r E ⟨some d,.call {callee:= .builtin .append,args:= #[s,x],argTypes:= #[t,t]},ty,pos,af,g⟩ S (((((S.kill id).setBlk id (.row e en.size false [])).kill id).setBlk id (.row e en.size false (en.all l'))).put d (.row id)):=
 wM (by simp) fun A w I ρ C h=>by
  obtain⟨hl,k⟩:=zO0 ha;rw[show l'=m from hl];have h2:=h.update (World.grownBy.refl w none) (id:=id) (u:= .slice none 0 0) (x:= .row e en.size false []) (by simp) (kV I w) (by simp[blockOf])
   ⟨⟨hT.pos,by simp[upd,Value.ownBlock]⟩,0,[],by simp,by simp only[upd,if_true];exact World.ownsRow_nil w _ e en.size,by simp,Pw.nil,by simp[upd,Value.ownBlock]⟩ (.inl rfl) T
  have G:((S.kill id).setBlk id (.row e en.size false [])).blk id= .row e en.size false []:=by rw[yA,if_pos rfl]
  have hb:=zWV (bytes:=bytes) H k;have Z:0+m.length≤maxLen:=by unfold maxLen;unfold LIM at k;simp at k;omega
  obtain⟨v,w',h3,Y⟩:=zWB (ty:=ty) (pos:=pos) (af:=af) (g:=g) (s:=s) (x:=x) hn hT G (news:=en.all m) (n:=0) (m:=m.length) (by rw[O];rfl) (by simp) (jE en m) (by simpa using hb) Z hE T h2 (by rw[h.val hs];simp[upd])
  rw[O] at Y;simp only[AState.shareAV,G,Blk.appended,List.nil_append] at Y;exact⟨v,w',h3,Y⟩
end
end Go.AV
namespace Go.M
theorem yCQ {k:Type} {a b:Int} {x y:Option k} {r: k} (h:cond (decide (a=b)) x y=some r):(a=b∧x=some r)∨y=some r:=by by_cases e:a=b;simp only[e,decide_true,cond_true] at h;exact .inl ⟨e,h⟩;simp only[e,decide_false,cond_false] at h;exact .inr h
end Go.M
namespace Go.M
end Go.M
namespace Go.AV
open Go.RowKit Go.M
end Go.AV
namespace Go.M
theorem yPM {k:Type} {a b:Option k} {r: k} (h:cond true a b=some r):a=some r:=h
theorem yPN {k:Type} {a b:Option k} {r: k} (h:cond false a b=some r):b=some r:=h
def goB (h:Bool) (n k:Nat):Bool:=!(h&&Nat.beq (k+1) n)
def zO4 {A S:Type} (body:S→A→Option (Bool×S)):S→List A→Option (Nat×Bool×S)
 | s,[]=>some (0,true,s)
 | s,x::xs=>match body s x with
  | none=>none
  | some (false,h)=>some (1,false,h)
  | some (true,h)=>(zO4 body h xs).map fun r=>(r.1+1,r.2)
def zO5 {A S:Type} (body:S→A→Option (Bool×S)):Nat→S→List A→S
 | 0,s,_=>s
 | _+1,s,[]=>s
 | k+1,s,x::xs=>match body s x with
  | none=>s
  | some (_,h)=>zO5 body k h xs
theorem zYQ {A S:Type} {body:S→A→Option (Bool×S)}:∀{l:List A} {s k:S} {n:Nat} {b:Bool},zO4 body s l=some (n,b,k)→n≤l.length
 | [],s,k,n,b,h=>by cases h;exact Nat.le_refl _
 | x::xs,s,k,n,b,h=>by
  simp only[zO4] at h;cases hb:body s x with
  | none=>rw[hb] at h;cases h
  | some p=>
   obtain⟨g,G⟩:=p;rw[hb] at h;cases g with
   | false=>cases h;simp
   | true=>
    simp only[Option.map_eq_some_iff,Prod.exists,Prod.mk.injEq] at h;obtain⟨m,b2,H,z,rfl,rfl,rfl⟩:=h;have:=zYQ z;simp;omega
theorem z1Q {A S:Type} {body:S→A→Option (Bool×S)}:∀{l:List A} {s O:S} {n:Nat} {b:Bool},zO4 body s l=some (n,b,O)→
  ∀{k:Nat} {x:A},(l.take n)[k]? =some x→body (zO5 body k s l) x=some (goB (!b) (l.take n).length k,zO5 body (k+1) s l)
 | [],s,O,n,b,h,k,x,H=>by simp at H
 | y::xs,s,O,n,b,h,k,x,H=>by
  have Z:=zYQ h;simp only[zO4] at h;cases hb:body s y with
  | none=>rw[hb] at h;cases h
  | some p=>
   obtain⟨g,s2⟩:=p;rw[hb] at h;cases g with
   | false=>
    cases h;cases k with
    | zero=>
     simp only[List.take_succ_cons,List.take_zero,List.getElem?_cons_zero,Option.some.injEq] at H;subst H;simp only[zO5,hb];rfl
    | succ k=>simp at H
   | true=>
    simp only[Option.map_eq_some_iff,Prod.exists,Prod.mk.injEq] at h;obtain⟨m,b2,s3,G,rfl,rfl,rfl⟩:=h;rw[List.take_succ_cons] at H ⊢;cases k with
    | zero=>
     simp only[List.getElem?_cons_zero,Option.some.injEq] at H;subst H;have Y:goB (!b2) ((y::xs.take m).length) 0=true:=by
      unfold goB;cases b2 with
      | true=>rfl
      | false=>
       have hm:xs.take m≠[]:=fun e=>by
        cases xs with
        | nil=>simp only[zO4] at G;cases G
        | cons z zs=>
         have h2:=zYQ G;cases m with
         | zero=>
          simp only[zO4] at G;cases T:body s2 z with
          | none=>rw[T] at G;cases G
          | some p=>
           obtain⟨g,s4⟩:=p;rw[T] at G;cases g with
           | false=>cases G
           | true=>
            simp only[Option.map_eq_some_iff,Prod.exists,Prod.mk.injEq] at G;obtain⟨_,_,_,_,e1,_⟩:=G;omega
         | succ m=>simp at e
       cases hq:xs.take m with
       | nil=>exact absurd hq hm
       | cons _ _=>rfl
     simp only[zO5,hb,Y]
    | succ k=>
     simp only[List.getElem?_cons_succ] at H;have:=z1Q G H;simp only[zO5,hb];rw[this];have:goB (!b2) (xs.take m).length k=goB (!b2) (y::xs.take m).length (k+1):=by
      unfold goB;rw[List.length_cons];congr 2
     rw[this]
theorem z6O {A S:Type} {body:S→A→Option (Bool×S)}:∀{l:List A} {s k:S} {n:Nat} {b:Bool},zO4 body s l=some (n,b,k)→zO5 body n s l=k
 | [],s,k,n,b,h=>by cases h;rfl
 | y::xs,s,k,n,b,h=>by
  simp only[zO4] at h;cases hb:body s y with
  | none=>rw[hb] at h;cases h
  | some p=>
   obtain⟨g,G⟩:=p;rw[hb] at h;cases g with
   | false=>cases h;simp only[zO5,hb]
   | true=>
    simp only[Option.map_eq_some_iff,Prod.exists,Prod.mk.injEq] at h;obtain⟨m,b2,H,z,rfl,rfl,rfl⟩:=h;simp only[zO5,hb];exact z6O z
theorem z9M {A S B:Type} {body:S→A→Option (Bool×S)} (f:A→B) {l:List A} {s G:S} {n:Nat} {b:Bool} (h:zO4 body s l=some (n,b,G)) {k:Nat} {x:A} (z:(l.take n)[k]? =some x):
  body (zO5 body k s l) x=some (goB (!b) ((l.take n).map f).length k,zO5 body (k+1) s l):=by
 rw[List.length_map];exact z1Q h z
theorem yG6 {A S B:Type} {body:S→A→Option (Bool×S)} {f:A→B} {l:List A} {s k:S} {n:Nat} {b:Bool} (h:zO4 body s l=some (n,b,k)):zO5 body ((l.take n).map f).length s l=k:=by rw[List.length_map,List.length_take,Nat.min_eq_left (zYQ h)];exact z6O h
end Go.M
namespace Go.AV
open Go.RowKit Go.M
theorem yPO {Sg:Type} {z:Exit} {n k:Nat} {s H:Sg} {Tf:Sg→List (Nat×Blk)} {S:AState} (h:some (true,s)=some (goF z n k,H)) (O:zOS S (Tf s)):yB0 z n k (Tf H) .normal S:=by
 cases G:goF z n k with
 | false=>rw[G] at h;cases h
 | true=>
  rw[G] at h;cases h;unfold yB0;rw[G];exact O
end Go.AV
namespace Go.M
def zA3:List Int→List (Int×Int)
 | []=>[]
 | x::l=>match zA3 l with
  | []=>[(x,1)]
  | (y,n)::r=>if x=y then (y,n+1)::r else (x,1)::(y,n)::r
end Go.M
namespace Go.AV
open Go.RowKit Go.M
end Go.AV
namespace Go.AV
def rp (v:Int) (k n:Nat):List DV:=List.replicate k (di v)++List.replicate (n-k) (di 0)
theorem zW3 (n:Nat):zE5 (.int .i64 0) n=List.replicate n (di 0):=by
 have:((Value.int .i64 0).cells.toList.map DV.v)= [di 0]:=rfl;simp only[zE5,this]
 induction n with
 | zero=>rfl
 | succ n h=>simp[List.replicate_succ,h]
theorem zTX (v:Int) {k n:Nat} (h:k≤n):(rp v k n).length=n*1:=by simp[rp];omega
theorem yG7 (v:Int) (n:Nat):spl (zE5 (.int .i64 0) n) 0 (([v].map di).take (min 1 n*1))=rp v (min 1 n) n:=by
 rw[zW3];cases n with
 | zero=>rfl
 | succ n=>
  have:min 1 (n+1)=1:=by omega
  simp[this,spl,rp,List.replicate_succ]
theorem z6P (v:Int) {k n:Nat} (h:k≤n):spl (rp v k n) (k*1) ((((rp v k n).drop (0*1)).take (k*1)).take (min k (n-k)*1))=rp v (k+min k (n-k)) n:=by
 have z:(rp v k n).take k=List.replicate k (di v):=by simp[rp]
 simp only[Nat.mul_one,List.drop_zero,Nat.zero_mul,z,spl];rw[List.take_replicate,List.length_replicate];have G:min (min k (n-k)) k=min k (n-k):=by omega
 rw[G,rp,List.drop_append,List.drop_replicate,List.drop_replicate,List.length_replicate];have H:k-(k+min k (n-k))=0:=by omega
 have O:n-k-(k+min k (n-k)-k)=n-(k+min k (n-k)):=by omega
 rw[H,O,rp,←List.replicate_append_replicate];simp
theorem yG8 (v:Int) (n:Nat):rp v n n=(List.replicate n v).map di:=by simp[rp]
end Go.AV
namespace Go.M
open Go.AV
def yLR (l:List Int) (n:Int):Option (List Int):=match l with
 | [v]=>if 0≤n∧n<2147483648 then some (List.replicate n.toNat v) else none
 | _=>none
end Go.M
namespace Go.AV
theorem z1R (l:List Int):zN eI l= .ints l:=by
 unfold zN En.all DV.ints;have:l.flatMap eI.cells=l.map di:=by
  induction l with
  | nil=>rfl
  | cons x l h=>rw[List.flatMap_cons,h];rfl
 rw[this];rfl
end Go.AV
namespace Go.AV
open Go.M
theorem lr {a b:Nat} (h:Nat.blt a b=true:=by exact rfl):a<b:=lq h
section
variable {α:Type} {x y: α} {G:Prop}
theorem er (h:some x=some y) (k:x=y→G:=by intro e;cases e;refine zQ ?_;exact zTR rfl):G:=k (oi h)
theorem es (h:some x=some y) (k:x=y→G:=by intro e;cases e;exact zTR rfl):G:=k (oi h)
theorem ex (h:some x=some y) (k:x=y→G:=by intro e;cases e;intro q;cases q;exact z39 wc):G:=k (oi h)
theorem eo (h:some x=some y) (k:x=y→G:=by intro e;cases e;exact z39 wc):G:=k (oi h)
theorem ew (h:some x=some y) (k:x=y→G:=by intro e;cases e;exact wc):G:=k (oi h)
theorem ep (h:some x=some y) (k:x=y→G:=by intro e;cases e;exact⟨rfl,wc⟩):G:=k (oi h)
end
end Go.AV
namespace Go.AV
open Go.RowKit Go.M
def zFM (P:Program) (t:TypeId) {G:Type} (en:En G) (ok: G→Prop):Prop:=
 ∀(H:Type) (enc:TypeId×Value→H) (w:World) (k:Nat) (h:Nat→Bool) (z:Bool) (fuel:Nat) (cs:List Value) (x:DataW H×List MemPlace),DataW.trod enc P w k h z fuel t cs=some x→
  ∃a,ok a∧Reps w (zTJ w) cs (en.cells a)∧∀c∈cs,c.oneCell'=true
section
variable {P:Program} {t:TypeId}
theorem j7 (T:P.underlying t=some (.int .i64)):zFM P t eI (fun n=> -9223372036854775808≤n∧n≤9223372036854775807):=by intro H enc w z k G fuel cs x h;obtain⟨n,rfl,_,O⟩:=DataW.trod_int T h;refine⟨n,?_,Pw.cons (.v _) Pw.nil,by simp[Value.oneCell']⟩;simp only[Lit.wf,Bool.and_eq_true,decide_eq_true_eq] at O;exact O
theorem zN1 (O:P.underlying t=some .bool):zFM P t eB (fun _=>True):=by intro H enc w z k G fuel cs x h;obtain⟨b,rfl,_⟩:=DataW.trod_bool O h;exact⟨b,trivial,Pw.cons (.v _) Pw.nil,by simp[Value.oneCell']⟩
theorem zW4 (T:P.underlying t=some .string):zFM P t eS (fun s=>s.length≤9223372036854775807):=by
 intro H enc w z k G fuel cs x h;obtain⟨s,rfl,_,O⟩:=DataW.trod_string T h;refine⟨s.data.toList,O,Pw.cons ?_ Pw.nil,by simp[Value.oneCell']⟩;have:ds s.data.toList= .v (.string s):=by simp[ds]
 show Rep _ _ _ (ds s.data.toList);rw[this];exact .v _
theorem zMD {w:World} {I:Im} {z:Type} (en:En z):∀(k:List (List Value)) (l:List z),Pw (fun cs a=>Reps w I cs (en.cells a)) k l→Reps w I k.flatten (en.all l)
 | [],l,h=>by cases l with
  | nil=>exact Pw.nil
  | cons a l=>have:=h.1;simp at this
 | cs::k,l,h=>by cases l with
  | nil=>have:=h.1;simp at this
  | cons a l=>
   obtain⟨G,H⟩:=zHO h;exact Pw.append G (zMD en k l H)
theorem z1S {T Y:Type} {R:Nat→T→Y→Prop} (n:Nat) (h:∀i,i<n→∃a b,R i a b):∃(as:List T) (bs:List Y),as.length=n∧bs.length=n∧∀i a b,as[i]? =some a→bs[i]? =some b→R i a b:=by
 induction n with
 | zero=>exact⟨[],[],rfl,rfl,fun i a b h=>by simp at h⟩
 | succ n ih=>
  obtain⟨as,bs,G,O,Z⟩:=ih fun i hi=>h i (by omega);obtain⟨a,b,H⟩:=h n (by omega);refine⟨as++ [a],bs++ [b],by simp[G],by simp[O],fun i x y k z=>?_⟩;by_cases hi:i<n
  ·rw[List.getElem?_append_left (by omega)] at k z;exact Z i x y k z
  ·have:i=n:=by
    have:=(List.getElem?_eq_some_iff.1 k).1;simp[G] at this;omega
   subst this;rw[List.getElem?_append_right (by omega),G] at k;rw[List.getElem?_append_right (by omega),O] at z;simp at k z;subst k;subst z;exact H
theorem z1T {Y:Type} {k:List (List Y)} {n:Nat} (h:∀cs∈k,cs.length=n) {j:Nat} {x: Y} (z:k.flatten[j]? =some x):∃cs,k[j/n]? =some cs∧cs[j%n]? =some x∧0<n:=by
 induction k generalizing j with
 | nil=>simp at z
 | cons cs k ih=>
  have hl:=h cs (by simp);rw[List.flatten_cons] at z;by_cases H:j<cs.length;rw[List.getElem?_append_left H] at z;have G:0<n:=by omega
  refine⟨cs,?_,?_,G⟩;rw[Nat.div_eq_of_lt (by omega)];rfl;rw[Nat.mod_eq_of_lt (by omega)];exact z;rw[List.getElem?_append_right (by omega)] at z;obtain⟨c2,O,T,G⟩:=ih (fun c Z=>h c (by simp[Z])) z;rw[hl] at O T;have e:j=(j-n)+n:=by omega
  refine⟨c2,?_,?_,G⟩;rw[e,Nat.add_div_right _ G];simpa using O;rw[e,Nat.add_mod_right];exact T
theorem uR {e:TypeId} {α:Type} {en:En α} {ok: α→Prop} (ht:P.underlying t=some (.slice e)) (hc:P.cellsOf e=en.size) (hp:0<en.size) (he:zFM P e en ok):
  zFM P t (eL en) (fun l=>l.length≤9223372036854775807∧∀x∈l,ok x):=by
 intro H enc w ba ay bb fuel cs x h;rcases DataW.trod_slice ht h with ⟨rfl,_⟩ | ⟨a,len,al,Z,rest,n,_,rfl,_,hb,hl,hm,bc,am,_,_⟩
 ·exact⟨[],⟨by simp,by simp⟩,Pw.cons (.nil _ _ _) Pw.nil,by simp[Value.oneCell']⟩
 ·obtain⟨G,l,h1,h2,h3⟩:=z1S (R:=fun i (Y:List Value) (y: α)=>ok y∧Reps w (zTJ w) Y (en.cells y)∧(∀c∈Y,c.oneCell'=true)∧Y.length=en.size∧∀j,j<en.size→w.cell? ((a.add (i*en.size)).add j)=Y[j]?) len (fun i hi=>by
   have h1:=am i hi;have h2:Z[i]? =some (Z[i]'(by omega)):=List.getElem?_eq_getElem (by omega);rw[h2,Option.bind_eq_some_iff] at h1;obtain⟨Y,O,hy⟩:=h1;obtain⟨y,q1,q2,q3⟩:=he _ _ _ _ _ _ _ _ _ hy;rw[hc] at O;obtain⟨_,r1,r2⟩:=World.cells?_some O;exact⟨Y,y,q1,q2,q3,r1,r2⟩)
  have aa:∀cs∈G,cs.length=en.size:=fun cs O=>by
   obtain⟨i,hi⟩:=List.getElem?_of_mem O;have ad:=(List.getElem?_eq_some_iff.1 hi).1;have:l[i]? =some (l[i]'(by omega)):=List.getElem?_eq_getElem (by omega);exact(h3 i cs _ hi this).2.2.2.1
  refine⟨l,⟨by unfold maxLen at hm;omega,fun y hy=>?_⟩,Pw.cons ?_ Pw.nil,by simp[Value.oneCell']⟩
  ·obtain⟨i,hi⟩:=List.getElem?_of_mem hy
   have ad:=(List.getElem?_eq_some_iff.1 hi).1;have:G[i]? =some (G[i]'(by omega)):=List.getElem?_eq_getElem (by omega);exact(h3 i _ y this hi).1
  ·show Rep w (zTJ w) _ (zN en l)
   by_cases h0:len=0
   ·subst h0
    have:l= []:=List.eq_nil_of_length_eq_zero h2;subst this;exact .nil _ _ _
   ·obtain⟨b,off,ac⟩:=a
    have T:∀(j:Nat) v,G.flatten[j]? =some v→∃i k,j=i*en.size+k∧k<en.size∧w.cell? (((⟨b,off,ac⟩:Addr).add (i*en.size)).add k)=some v:=by
     intro j v hj;obtain⟨cs,q1,q2,_⟩:=z1T aa hj;have ad:=(List.getElem?_eq_some_iff.1 q1).1;have ar:l[j/en.size]? =some (l[j/en.size]'(by omega)):=List.getElem?_eq_getElem (by omega);have:=(h3 _ cs _ q1 ar).2.2.2.2 (j%en.size) (Nat.mod_lt _ hp);exact⟨j/en.size,j%en.size,(Nat.div_add_mod' j en.size).symm,Nat.mod_lt _ hp,by rw[this];exact q2⟩
    have ag:ac=none:=by
     have au:G.flatten≠[]:=by
      intro e;have:=congrArg List.length e;cases G with
      | nil=>simp at h1;omega
      | cons c G=>
       have:=aa c (by simp);simp at e;have:=e.1;rw[this] at*
       simp_all
     obtain⟨v,hv⟩:∃v,G.flatten[0]? =some v:=by
      cases hf:G.flatten with
      | nil=>exact absurd hf au
      | cons v _=>exact⟨v,rfl⟩
     obtain⟨i,k,ao,hk,z⟩:=T 0 v hv;have an:i*en.size=0:=by omega
     have aq:k=0:=by omega
     rw[an,aq] at z;simp only[Addr.add,if_true,World.cell?] at z;cases ac with
     | none=>rfl
     | some s=>cases hb:w.heap[b]? with
      | none=>simp[hb] at z
      | some o=>cases o<;>simp[hb] at z
    subst ag;have ab:=zMD (w:=w) (I:=zTJ w) en G l ⟨by omega,fun j cs y O hy=>(h3 j cs y O hy).2.1⟩;refine .sl b off len al en.size G.flatten (en.all l) (by omega) hl (by rw[jE,h2]) ab.1 (fun j v hj=>?_) (fun v hv=>?_) ab.2
    ·obtain⟨i,k,ao,hk,z⟩:=T j v hj
     rw[w9,w9] at z;have e2:off+i*en.size+k=off+j:=by omega
     rw[e2] at z;refine⟨z,?_⟩;show b<w.heap.size;unfold World.cell? at z;cases hb:w.heap[b]? with
     | none=>simp[hb] at z
     | some o=>exact(Array.getElem?_eq_some_iff.1 hb).1
    ·obtain⟨cs,O,ax⟩:=List.mem_flatten.1 hv
     obtain⟨i,hi⟩:=List.getElem?_of_mem O;have ad:=(List.getElem?_eq_some_iff.1 hi).1;have:l[i]? =some (l[i]'(by omega)):=List.getElem?_eq_getElem (by omega);exact(h3 i cs _ hi this).2.2.1 v ax
theorem yY {Y:Array Field} {H:Type} {enc:TypeId×Value→H} {w:World} {G:Nat} {z:Nat→Bool} {O:Bool} {fuel:Nat} {cs:List Value} {x:DataW H×List MemPlace} (ht:P.underlying t=some (.struct Y))
  (h:DataW.trod enc P w G z O fuel t cs=some x) {k:Nat} {α:Type} {en:En α} {ok: α→Prop} {Z:TypeId} {off:Nat} (hf:(Y[k]?).map (fun f=>(f.offset,f.type))=some (off,Z)) (hc:P.cellsOf Z=en.size) (he:zFM P Z en ok):
  ∃a,ok a∧Reps w (zTJ w) ((cs.drop off).take en.size) (en.cells a)∧∀c∈(cs.drop off).take en.size,c.oneCell'=true:=by
 obtain⟨xs,n,_,_,hl,ad,aa⟩:=DataW.trod_struct ht h;cases T:Y[k]? with
 | none=>simp[T] at hf
 | some f=>
  simp[T] at hf;obtain⟨rfl,rfl⟩:=hf;have h1:=aa k f T;have ac:k<xs.length:=by rw[ad];exact(Array.getElem?_eq_some_iff.1 T).1
  rw[List.getElem?_eq_getElem ac,hc] at h1;exact he _ _ _ _ _ _ _ _ _ h1
theorem zAE {O:Array Field} {H:Type} {enc:TypeId×Value→H} {w:World} {z:Nat} {k:Nat→Bool} {G:Bool} {fuel:Nat} {cs:List Value} {x:DataW H×List MemPlace} (Y:P.underlying t=some (.struct O))
  (h:DataW.trod enc P w z k G fuel t cs=some x):cs.length=P.cellsOf t:=by
 obtain⟨xs,n,_,_,T,_⟩:=DataW.trod_struct Y h;exact T
theorem zBP {w:World} {I:Im} {cs:List Value} {off:Nat} (h:cs.length=off):Reps w I (cs.drop off) []∧∀c∈cs.drop off,c.oneCell'=true:=by rw[List.drop_eq_nil_of_le (by omega)];exact⟨Pw.nil,by simp⟩
theorem yL {w:World} {I:Im} {cs:List Value} {off n:Nat} {k z:List DV} (H:Reps w I ((cs.drop off).take n) k) (T:∀c∈(cs.drop off).take n,c.oneCell'=true) (G:Reps w I (cs.drop (off+n)) z∧∀c∈cs.drop (off+n),c.oneCell'=true):Reps w I (cs.drop off) (k++z)∧∀c∈cs.drop off,c.oneCell'=true:=by
 have e:cs.drop off=(cs.drop off).take n++cs.drop (off+n):=by rw[←List.drop_drop,List.take_append_drop]
 rw[e];exact⟨Pw.append H G.1,fun c O=>by rcases List.mem_append.1 O with h | h;exact T c h;exact G.2 c h⟩
theorem zYR {H:Type} {enc:TypeId×Value→H} {w:World} {G:Nat} {k:Nat→Bool} {T:Bool} {v:Value} {x:DataW H} {ps:List MemPlace} {Z:Type} {en:En Z} {ok: Z→Prop} (he:zFM P t en ok) (h:DataW.Trod enc P w G k T t v x ps)
  (hv:(v.cells= #[v]∧en.size=1∧(∀a,vH (en.dv a)= [en.dv a]))∨(∃cs,v= .agg cs∧∀a,∃es,en.dv a= .agg es)):∃a,ok a∧Rep w (zTJ w) v (en.dv a):=by
 obtain⟨fuel,hf⟩:=h;obtain⟨a,h1,z,Y⟩:=he _ _ _ _ _ _ _ _ _ hf;refine⟨a,h1,?_⟩;rcases hv with ⟨e1,e2,e3⟩ | ⟨cs,rfl,e⟩
 ·rw[e1] at z
  simp only[En.cells,e3] at z;exact z.2 0 v (en.dv a) rfl rfl
 ·obtain⟨es,O⟩:=e a
  simp only[En.cells,O,vH,Value.cells] at z Y;rw[O];have:=Rep.agg (w:=w) (I:=zTJ w) cs.toList es z.1 Y z.2
  rwa [Array.toArray_toList] at this
end
end Go.AV


/- The layer of abstract values: what a temporary holds, said once; every rule of it is proved from the model. Conditions: none. -/
import Derived.Test.YtjnpmmedmedokaaGreatDoorLa3
import Derived.Test.YtjnpmmedmedokaaGreatDoorLa2
import Derived.ChangeArms
import Derived.OpenShut
import Derived.WideShapes
set_option linter.unusedSimpArgs false
set_option linter.unusedVariables false
set_option linter.unnecessarySimpa false
namespace Go.AV
open Go.RowKit Go.M
theorem zRE {ents:Array MapEntry} {c j:Nat} {q:MapEntry} (T:Born ents c) (K:ents[j]? =some q):ents.findIdx? (λe=>(e.born:Int)==(q.born:Int))=some j:=by
 have H:=(cU.1 K).1;have h:ents[j]=q:=(cU.1 K).2;rw[Array.findIdx?_eq_some_iff_getElem];refine⟨H,by simp[h],λi hi=>?_⟩;have k:=T.nd;intro e;have D:(ents[i]'(by omega)).born=q.born:=by
  have Y:(((ents[i]'(by omega)).born:Nat):Int)=(q.born:Int):=by simpa using e
  omega
 have O:(ents.toList.map (·.born))[i]'(by simp;omega)=(ents.toList.map (·.born))[j]'(by simpa using H):=by simp[D,h]
 have:=(List.getElem_inj k).1 O;omega
section
variable {P:Program} {r:Option Nat} {E:Env} {l:List Oper} {J:AState->Prop} {fuel:Nat} {listed:List Bool} {S:AState}
theorem z0Y {Φ Ψ:Act->World->Prop} {i:Nat} {o:Oper} (O:rdy l listed= [i]) (Y:l[i]? =some o) (T:o.guard=none) (H:∀c,o.op≠ .defer c)
  (h:∀a w,Φ a w->(∃v w',(execOp a.eval o).run P w= .ok (.value v) w'/\Ψ (a.put o.dst v) w')\/∃w',(execOp a.eval o).run P w= .ok .skip w'/\Ψ (a.put o.dst undef) w')
  (k:∀a w,Ψ a w->wpAnyIn (fen r) 0 P .any l.toArray (QJ E J) fuel (listed.set i true).toArray a w):∀a w,Φ a w->wpAnyIn (fen r) 0 P .any l.toArray (QJ E J) (fuel+1) listed.toArray a w:=by
 intro a w Z;refine⟨λe=>?_,λi' hi=>?_⟩
 ·have:=z0V (l:=l) (listed:=listed) (i:=i) (by rw[O];simp)
  rw[e] at this;cases this
 ·have hi:=z0U hi
  rw[O] at hi;obtain rfl:i'=i:=by simpa using hi
  unfold wpOpIn;simp only[eX,Y,Region.wanted,T,dH];refine⟨λf _=>trivial,?_⟩;rw[Oper.semAt_eq _ _ _ H];rcases h a w Z with ⟨v,w',D,K⟩ | ⟨w',D,K⟩
  ·rw[D]
   show wpAnyIn _ _ _ _ _ _ _ _ _ _;rw[zUZ];exact k _ _ K
  ·rw[D]
   show wpAnyIn _ _ _ _ _ _ _ _ _ _;rw[zUZ];exact k _ _ K
section
variable {κ:Type} [DecidableEq κ] {kv: κ->Value} {ν:Type} {ev:En ν} {mp:List (κ×ν)} {k: κ} {kt vt t:TypeId} {zv:Value} {km kk x:Operand} {id:Nat} {v: ν} {u:DV}
theorem yT {i1 i2 i3 T O:Nat} {bp bq bc:TypeId} {p1 p2 p3:String} {f1 f2 f3:Array Edge} (h1:rdy l listed= [i1]) (h2:rdy l (listed.set i1 true)= [i2]) (h3:rdy l ((listed.set i1 true).set i2 true)= [i3])
    (o1:l[i1]? =some ⟨some T,.mapEntry t km kk,bp,p1,f1,none⟩) (o2:l[i2]? =some ⟨some O,.extract (.tmp T) 1,bq,p2,f2,none⟩) (o3:l[i3]? =some ⟨none,.entryStore t km (.tmp O) x,bc,p3,f3,none⟩)
    (az:T<E.n) (ad:O<E.n) (hT:MapTy P t kt vt zv) (hK:KeyTy P kt kv) (hm:S.ev km= .row id) (hb:S.blk id= .map (wK kv ev mp)) (hk:S.ev kk= .d (.v (kv k))) (hx:S.ev x= .d u) (hu:u=ev.dv v)
    (ap:km≠ .tmp T/\km≠ .tmp O) (aq:x≠ .tmp T/\x≠ .tmp O) (hE:E.wrB=true)
    (kn:zG1 P r E l J fuel (((listed.set i1 true).set i2 true).set i3 true) (((S.setBlk id (.map (wK kv ev (vD mp k v)))).put T .top).put O .top)):zG1 P r E l J (fuel+3) listed S:=by
  subst hu
  let S':=((S.setBlk id (.map (wK kv ev (vD mp k v)))).put T .top).put O .top
  let O3:Oper:=⟨none,.entryStore t km (.tmp O) x,bc,p3,f3,none⟩
  let al:Act->World->Prop:=λa w=> ∃Z,(execOp a.eval O3).run P w= .ok .skip Z/\Sat E S' (a.put none undef) Z
  let ak:Act->World->Prop:=λa w=> ∃(z:Value) (n:Nat),a.eval (.tmp T)= .tuple #[z,.int .i64 n]/\al (a.put (some O) (.int .i64 n)) w
  refine z0Y (Φ:=Sat E S) (Ψ:=ak) h1 o1 rfl (by simp) ?_ (z0Y (Φ:=ak) (Ψ:=al) h2 o2 rfl (by simp) ?_ (z0Y (Φ:=al) (Ψ:=Sat E S') h3 o3 rfl (by simp) ?_ kn))
  · rintro a w ⟨I,ρ,C,hs⟩
    refine .inl ?_;have ar:=hs.blks id;rw[hb] at ar;obtain⟨b,ents,H,aj,hM,hh,hp,hI,hN⟩:=ar;have hv:=hs.ev km;rw[hm] at hv;have ah:a.eval km= .map (some b):=Eq.trans hv aj;have aw:=hs.val hk;have ai:=hs.ev x;rw[hx] at ai;have ax:=(cU.1 hh).1;have hf:=hK.find k _ ents.toList w (zUX hp);have aa:(getObj b).run P w= .ok (.map ents H) w:=by simp[getObj,Sem.run,hh]
    have an:∀(K:Array MapEntry) (D n j:Nat) (z:Value),K.findIdx? (λe=>(e.born:Int)==(n:Int))=some j->
        Pw (λ(x:MapEntry) (y:Value×DV)=>x.key=y.1/\Rep w I x.val y.2) (K.modify j λe=>{e with val:=a.eval x}).toList (wK kv ev (vD mp k v))->Born (K.modify j λe=>{e with val:=a.eval x}) D->
        ak (a.put (some T) (.tuple #[z,.int .i64 n])) {w with heap:=w.heap.setIfInBounds b (.map K D)}:=by
      intro K D n j z bl bn bj;have bo:T<a.tmps.size:=by rw[hs.size];exact az
      have bv:O<(a.put (some T) (.tuple #[z,.int .i64 n])).tmps.size:=by simp[Act.put,hs.size,ad]
      refine⟨z,n,by simp[Act.eval,Act.put,bo],?_⟩
      let Z:World:={w with heap:=w.heap.setIfInBounds b (.map (K.modify j λe=>{e with val:=a.eval x}) D)}
      refine⟨Z,?_,?_⟩
      · have e1:((a.put (some T) (.tuple #[z,.int .i64 n])).put (some O) (.int .i64 n)).eval km= .map (some b):=by
          rw[Act.eval_put (λd hd=>by cases hd;exact ap.2),Act.eval_put (λd hd=>by cases hd;exact ap.1),ah]
        have e2:((a.put (some T) (.tuple #[z,.int .i64 n])).put (some O) (.int .i64 n)).eval (.tmp O)= .int .i64 n:=by
          have:O<a.tmps.size:=by rw[hs.size];exact ad
          simp[Act.eval,Act.put,this]
        have e3:((a.put (some T) (.tuple #[z,.int .i64 n])).put (some O) (.int .i64 n)).eval x=a.eval x:=by
          rw[Act.eval_put (λd hd=>by cases hd;exact aq.2),Act.eval_put (λd hd=>by cases hd;exact aq.1)]
        have bb:({w with heap:=w.heap.setIfInBounds b (.map K D)}:World).heap[b]? =some (.map K D):=Array.getElem?_setIfInBounds_self_of_lt ax;have bm:(getObj b).run P {w with heap:=w.heap.setIfInBounds b (.map K D)}= .ok (.map K D) {w with heap:=w.heap.setIfInBounds b (.map K D)}:=by simp[getObj,Sem.run,bb]
        simp only[O3,execOp,e1,e2,e3,Instr.entryStore,cQ,bm,cV,asInt,asIntOf,dT,bl];rw[zFO bb];simp[Z]
      · have hg:w.grownBy Z (some b):=⟨rfl,rfl,rfl,by simp[Z],λq _ hq=>dX (λe=>hq (by rw[e]))⟩
        have Y:Same I w Z:=λb' j hi=>by
          have:b'≠b:=λe=>hI j (e▸hi);exact KeepB.of (dX (λe=>this e.symm))
        have ay:=hs.modify (x:= .map (wK kv ev (vD mp k v))) hg (by rw[hb];simp) (by rw[aj];rfl) Y ⟨b,_,D,aj,hM,by simp[Z,ax],bn.imp λ_ _ h=>⟨h.1,h.2.mono Y (λ_ _ h=>h)⟩,hI,bj⟩ hE
        exact⟨I,ρ,C,(ay.put az (x:= .top) trivial).put ad (x:= .top) trivial⟩
    rcases zJM (a:=k) (i:=0) hp with ⟨e1,e2⟩ | ⟨v0,j,x0,e1,e2,e3,⟨q,q1,q2,q3⟩,e4⟩
    · rw[e2] at hf
      refine⟨_,_,?_,an (ents.push {key:=kv k,val:=zv,born:=H}) (H+1) H ents.size zv ?_ ?_ ?_⟩
      · simp only[execOp,ah,aw,Instr.mapEntry,cQ,dJ hT.und,cV,aa,hK.check,hf,hT.zero,zFO hh,dT]
        rfl
      · have:=zRE (ents:=ents.push {key:=kv k,val:=zv,born:=H}) (c:=H+1) (j:=ents.size) (q:={key:=kv k,val:=zv,born:=H}) hN.push (by simp)
        exact this
      · rw[zV2 e1]
        have e5:((ents.push {key:=kv k,val:=zv,born:=H}).modify ents.size λe=>{e with val:=a.eval x}).toList=ents.toList++ [{key:=kv k,val:=a.eval x,born:=H}]:=by
          apply fR;intro m;rw[gL,List.getElem?_modify,iw];rcases Nat.lt_trichotomy m ents.toList.length with h | h | h
          · have:¬ents.size=m:=by have:=ents.length_toList;omega
            rw[dY h,dY h];simp[this]
          · have:ents.size=m:=by have:=ents.length_toList;omega
            subst this;rw[dV (l₁:=ents.toList) (by simp),dV (l₁:=ents.toList) (by simp)];simp
          · have q:m-ents.toList.length=(m-ents.toList.length-1)+1:=by omega
            rw[dV (l₁:=ents.toList) (by omega),dV (l₁:=ents.toList) (by omega),q];simp
        rw[e5];simp only[wK,gW,eA,fD];exact Pw.append hp (Pw.cons ⟨rfl,ai⟩ Pw.nil)
      · exact hN.push.modify λ_=>rfl
    · rw[e2] at hf
      have hq:ents[0+j]? =some q:=by rw[em];simpa using q1
      have au:(Instr.keyThatStays (((ents[0+j]?).map (·.key)).getD (kv k)) (kv k)).run P w= .ok (kv k) w:=by
        rw[hq];simp only[e6,gR,q2,Instr.keyThatStays,hK.same,dH,dT]
      have ci:((ents[0+j]?).map (·.born)).getD 0=q.born:=by rw[hq];rfl
      have ao:Born (ents.modify (0+j) λe=>{e with key:=kv k}) H:=hN.modify λ_=>rfl;refine⟨_,_,?_,an (ents.modify (0+j) λe=>{e with key:=kv k}) H q.born j x0 ?_ ?_ ?_⟩
      · simp only[execOp,ah,aw,Instr.mapEntry,cQ,dJ hT.und,cV,aa,hK.check,hf,au,zFO hh,dT]
        rw[hq];rfl
      · refine zRE (q:={q with key:=kv k}) ao ?_
        rw[em,Array.getElem?_modify,dG rfl];have:ents[j]? =some q:=by simpa using q1
        rw[this];rfl
      · have e5:((ents.modify (0+j) λe=>{e with key:=kv k}).modify j λe=>{e with val:=a.eval x}).toList=ents.toList.modify j λe=>{e with key:=kv k,val:=a.eval x}:=by
          rw[em,gL,gL];apply fR;intro m;simp only[List.getElem?_modify];split
          · cases ents.toList[m]? <;> rfl
          · cases ents.toList[m]? <;> rfl
        rw[e5];exact e4 (a.eval x) v _ (λ_=> .inr rfl) (λ_=>rfl) ai
      · exact ao.modify λ_=>rfl
  · rintro a w ⟨z,n,he,hp⟩
    refine .inl ⟨.int .i64 n,w,?_,hp⟩;simp only[execOp,he];simp[Instr.extract]
  · rintro a w ⟨Z,hr,hp⟩
    exact .inr ⟨Z,hr,hp⟩
end
end
section
variable {P:Program} {r:Option Nat} {E:Env} {S:AState} {d:Nat} {ty:TypeId} {pos:String} {af:Array Edge} {g:Option (Nat×Bool)}
theorem yCL {t:TypeId} {places:List (Nat×Nat)} {zs:List Value} (ps:List (Nat×Operand)) (i:Nat) (x:Operand) (j:Nat) (y:Operand) {ds:List (Nat×DV)} {cells:List DV} {id off O k:Nat} (hn:d<E.n) (hT:StTy P t places zs) (an:dvP S ps=some ds) (hf:zPS places (zs.map DV.v) ds=some cells)
  (hx:S.ev x= .row id) (hr:zTL S (.row id)=true) (hi:places[i]? =some (off,1)) (ap:Nat.ble (off+1) cells.length=true)
  (hy:S.ev y= .row O) (au:zTL S (.row O)=true) (hj:places[j]? =some (k,1)) (ag:Nat.ble (k+1) cells.length=true):
  AOp P r E S ⟨some d,.build t (ps++ [(i,x),(j,y)]).toArray,ty,pos,af,g⟩ d (.aggc (((cells.map Cap.d).set off (.row id)).set k (.row O))):=
 ⟨rfl,hn,λS' ha=>z7 rfl hn (by simp) λA w I ρ C hs=>by
  obtain⟨ak,hu,hp⟩:=hT.und;have ad:off<cells.length:=gZ ap;have Z:k<cells.length:=gZ ag;have ac:dvP S' ps=some ds:=(zLQ ha (λp hp=>by simp only[Op.operands];simp;exact .inl ⟨p.1,hp⟩)).trans an
  obtain⟨D,h1,h2,h3⟩:=zQ8 (places:=places) ds (ps.map λp=>(p.1,A.eval p.2)) zs.toArray (zs.map DV.v) cells (by simpa using zP3 w I zs) (by simpa using hT.one) (zLP hs ac) hf;have hv:=hs.ev x;rw[(ha.ev (x:=x) (by simp[Op.operands])).trans hx] at hv;have hw:=hs.ev y;rw[(ha.ev (x:=y) (by simp[Op.operands])).trans hy] at hw;have T:(A.eval x).oneCell'=true:=zP2 hs.blks hv rfl (λi' e=>by
   cases e;have:=zMA hr id rfl
   rwa [ha.blk])
  have K:(A.eval y).oneCell'=true:=zP2 hs.blks hw rfl (λi' e=>by
   cases e;have:=zMA au O rfl
   rwa [ha.blk])
  have aw:off<D.size:=by rw[<-eN,h2.1];exact ad
  have ai:k<(D.setIfInBounds off (A.eval x)).size:=by rw[Array.size_setIfInBounds,<-eN,h2.1];exact Z
  have ao:=zOX (f:=λi=>places[i]?) (ps.map λp=>(p.1,A.eval p.2)) zs.toArray D i (A.eval x) off h1 hi T aw;have H:=zOX (f:=λi=>places[i]?) _ zs.toArray _ j (A.eval y) k ao hj K ai;rw[c9] at H;refine⟨.agg ((D.toList.set off (A.eval x)).set k (A.eval y)).toArray,?_,_,rfl,?_,?_⟩
  ·have hz:=hT.zero w
   simp only[fH,dO] at H;simp only[execOp,Instr.build,eO,cQ,hz,cV,dJ hu,hp w,Value.cells,eX,gW,eA,fD,H,dT];congr 2;congr 1;rw[<-Array.toList_inj];simp
  ·have ar:Pw (HoldsC w I ρ) D.toList (cells.map Cap.d):=by
    refine⟨by rw[h2.1,e7],λj u c hu hc=>?_⟩;rw[dW] at hc;cases Y:cells[j]? with
    | none=>rw[Y] at hc;cases hc
    | some q=>rw[Y] at hc;cases hc;exact h2.2 j u q hu Y
   exact(ar.set (y:=Cap.row id) hv off).set (y:=Cap.row O) hw k
  ·intro z hz
   rcases gu hz with h | h
   ·rcases gu h with h | h
    ·exact h3 z h
    ·rw[h];exact T
   ·rw[h];exact K⟩
end
open Go.RowKit Go.M
def jK (P:Program) (t:TypeId) {K:Type} (en:En K) (ok: K->Prop):Prop:=
 ∀(H:Type) (enc:TypeId×Value->H) (w:World) (k:Nat) (h:Nat->Bool) (D:Bool) (fuel:Nat) (cs:List Value) (x:DataW H×List MemPlace),DataW.trod enc P w k h D fuel t cs=some x->
  ∃a,ok a/\Reps w (zP7 w) cs (en.cells a)/\∀c∈cs,c.oneCell'=true
section
variable {P:Program} {t:TypeId}
theorem zH (T:P.underlying t=some (.int .i64)):jK P t eI (λn=> -9223372036854775808<=n/\n<=9223372036854775807):=by intro H enc w D k K fuel cs x h;obtain⟨n,rfl,_,O⟩:=DataW.trod_int T h;refine⟨n,?_,Pw.cons (.v _) Pw.nil,by simp[Value.oneCell']⟩;simp only[Lit.wf,dL,cZ] at O;exact O
theorem vA (O:P.underlying t=some .bool):jK P t eB (λ_=>True):=by intro H enc w D k K fuel cs x h;obtain⟨b,rfl,_⟩:=DataW.trod_bool O h;exact⟨b,trivial,Pw.cons (.v _) Pw.nil,by simp[Value.oneCell']⟩
theorem zDS (T:P.underlying t=some .string):jK P t eS (λs=>s.length<=9223372036854775807):=by
 intro H enc w D k K fuel cs x h;obtain⟨s,rfl,_,O⟩:=DataW.trod_string T h;refine⟨s.data.toList,O,Pw.cons ?_ Pw.nil,by simp[Value.oneCell']⟩;have:ds s.data.toList= .v (.string s):=by simp[ds]
 show Rep _ _ _ (ds s.data.toList);rw[this];exact .v _
theorem zN8 {w:World} {I:Im} {D:Type} (en:En D):∀(k:List (List Value)) (l:List D),Pw (λcs a=>Reps w I cs (en.cells a)) k l->Reps w I k.flatten (en.all l)
 | [],l,h=>by cases l with
  | nil=>exact Pw.nil
  | cons a l=>have:=h.1;simp at this
 | cs::k,l,h=>by cases l with
  | nil=>have:=h.1;simp at this
  | cons a l=>
   obtain⟨H,K⟩:=zI1 h;exact Pw.append H (zN8 en k l K)
theorem z37 {T Y:Type} {R:Nat->T->Y->Prop} (n:Nat) (h:∀i,i<n->∃a b,R i a b):∃(as:List T) (bs:List Y),as.length=n/\bs.length=n/\∀i a b,as[i]? =some a->bs[i]? =some b->R i a b:=by
 induction n with
 | zero=>exact⟨[],[],rfl,rfl,λi a b h=>by simp at h⟩
 | succ n ih=>
  obtain⟨as,bs,H,O,Z⟩:=ih λi hi=>h i (by omega);obtain⟨a,b,K⟩:=h n (by omega);refine⟨as++ [a],bs++ [b],by simp[H],by simp[O],λi x y k D=>?_⟩;by_cases hi:i<n
  ·rw[dY (by omega)] at k D;exact Z i x y k D
  ·have:i=n:=by
    have:=(c8.1 k).1;simp[H] at this;omega
   subst this;rw[dV (by omega),H] at k;rw[dV (by omega),O] at D;simp at k D;subst k;subst D;exact K
theorem z38 {Y:Type} {k:List (List Y)} {n:Nat} (h:∀cs∈k,cs.length=n) {j:Nat} {x: Y} (D:k.flatten[j]? =some x):∃cs,k[j/n]? =some cs/\cs[j%n]? =some x/\0<n:=by
 induction k generalizing j with
 | nil=>simp at D
 | cons cs k ih=>
  have hl:=h cs (by simp);rw[gK] at D;by_cases K:j<cs.length;rw[dY K] at D;have H:0<n:=by omega
  refine⟨cs,?_,?_,H⟩;rw[Nat.div_eq_of_lt (by omega)];rfl;rw[Nat.mod_eq_of_lt (by omega)];exact D;rw[dV (by omega)] at D;obtain⟨Z,O,T,H⟩:=ih (λc hc=>h c (by simp[hc])) D;rw[hl] at O T;have e:j=(j-n)+n:=by omega
  refine⟨Z,?_,?_,H⟩;rw[e,Nat.add_div_right _ H];simpa using O;rw[e,Nat.add_mod_right];exact T
theorem zR {e:TypeId} {α:Type} {en:En α} {ok: α->Prop} (ht:P.underlying t=some (.slice e)) (hc:P.cellsOf e=en.size) (hp:0<en.size) (he:jK P e en ok):
  jK P t (eL en) (λl=>l.length<=9223372036854775807/\∀x∈l,ok x):=by
 intro H enc w ba ay bb fuel cs x h;rcases DataW.trod_slice ht h with ⟨rfl,_⟩ | ⟨a,len,al,Z,rest,n,_,rfl,_,hb,hl,hm,bc,am,_,_⟩
 ·exact⟨[],⟨by simp,by simp⟩,Pw.cons (.nil _ _ _) Pw.nil,by simp[Value.oneCell']⟩
 ·obtain⟨K,l,h1,h2,h3⟩:=z37 (R:=λi (Y:List Value) (y: α)=>ok y/\Reps w (zP7 w) Y (en.cells y)/\(∀c∈Y,c.oneCell'=true)/\Y.length=en.size/\∀j,j<en.size->w.cell? ((a.add (i*en.size)).add j)=Y[j]?) len (λi hi=>by
   have h1:=am i hi;have h2:Z[i]? =some (Z[i]'(by omega)):=cS (by omega);rw[h2,Option.bind_eq_some_iff] at h1;obtain⟨Y,O,hy⟩:=h1;obtain⟨y,q1,q2,q3⟩:=he _ _ _ _ _ _ _ _ _ hy;rw[hc] at O;obtain⟨_,r1,r2⟩:=World.cells?_some O;exact⟨Y,y,q1,q2,q3,r1,r2⟩)
  have aa:∀cs∈K,cs.length=en.size:=λcs O=>by
   obtain⟨i,hi⟩:=List.getElem?_of_mem O;have ad:=(c8.1 hi).1;have:l[i]? =some (l[i]'(by omega)):=cS (by omega);exact(h3 i cs _ hi this).2.2.2.1
  refine⟨l,⟨by unfold maxLen at hm;omega,λy hy=>?_⟩,Pw.cons ?_ Pw.nil,by simp[Value.oneCell']⟩
  ·obtain⟨i,hi⟩:=List.getElem?_of_mem hy
   have ad:=(c8.1 hi).1;have:K[i]? =some (K[i]'(by omega)):=cS (by omega);exact(h3 i _ y this hi).1
  ·show Rep w (zP7 w) _ (zI en l)
   by_cases h0:len=0
   ·subst h0
    have:l= []:=cP h2;subst this;exact .nil _ _ _
   ·obtain⟨b,off,ac⟩:=a
    have T:∀(j:Nat) v,K.flatten[j]? =some v->∃i k,j=i*en.size+k/\k<en.size/\w.cell? (((⟨b,off,ac⟩:Addr).add (i*en.size)).add k)=some v:=by
     intro j v hj;obtain⟨cs,q1,q2,_⟩:=z38 aa hj;have ad:=(c8.1 q1).1;have ar:l[j/en.size]? =some (l[j/en.size]'(by omega)):=cS (by omega);have:=(h3 _ cs _ q1 ar).2.2.2.2 (j%en.size) (Nat.mod_lt _ hp);exact⟨j/en.size,j%en.size,(Nat.div_add_mod' j en.size).symm,Nat.mod_lt _ hp,by rw[this];exact q2⟩
    have ag:ac=none:=by
     have au:K.flatten≠[]:=by
      intro e;have:=congrArg List.length e;cases K with
      | nil=>simp at h1;omega
      | cons c K=>
       have:=aa c (by simp);simp at e;have:=e.1;rw[this] at*
       simp_all
     obtain⟨v,hv⟩:∃v,K.flatten[0]? =some v:=by
      cases hf:K.flatten with
      | nil=>exact absurd hf au
      | cons v _=>exact⟨v,rfl⟩
     obtain⟨i,k,ao,hk,D⟩:=T 0 v hv;have an:i*en.size=0:=by omega
     have aq:k=0:=by omega
     rw[an,aq] at D;simp only[Addr.add,dH,World.cell?] at D;cases ac with
     | none=>rfl
     | some s=>cases hb:w.heap[b]? with
      | none=>simp[hb] at D
      | some o=>cases o<;>simp[hb] at D
    subst ag;have ab:=zN8 (w:=w) (I:=zP7 w) en K l ⟨by omega,λj cs y O hy=>(h3 j cs y O hy).2.1⟩;refine .sl b off len al en.size K.flatten (en.all l) (by omega) hl (by rw[jH,h2]) ab.1 (λj v hj=>?_) (λv hv=>?_) ab.2
    ·obtain⟨i,k,ao,hk,D⟩:=T j v hj
     rw[zAC,zAC] at D;have e2:off+i*en.size+k=off+j:=by omega
     rw[e2] at D;refine⟨D,?_⟩;show b<w.heap.size;unfold World.cell? at D;cases hb:w.heap[b]? with
     | none=>simp[hb] at D
     | some o=>exact(cU.1 hb).1
    ·obtain⟨cs,O,ax⟩:=List.mem_flatten.1 hv
     obtain⟨i,hi⟩:=List.getElem?_of_mem O;have ad:=(c8.1 hi).1;have:l[i]? =some (l[i]'(by omega)):=cS (by omega);exact(h3 i cs _ hi this).2.2.1 v ax
theorem zC {Y:Array Field} {H:Type} {enc:TypeId×Value->H} {w:World} {K:Nat} {D:Nat->Bool} {O:Bool} {fuel:Nat} {cs:List Value} {x:DataW H×List MemPlace} (ht:P.underlying t=some (.struct Y))
  (h:DataW.trod enc P w K D O fuel t cs=some x) {k:Nat} {α:Type} {en:En α} {ok: α->Prop} {Z:TypeId} {off:Nat} (hf:(Y[k]?).map (λf=>(f.offset,f.type))=some (off,Z)) (hc:P.cellsOf Z=en.size) (he:jK P Z en ok):
  ∃a,ok a/\Reps w (zP7 w) ((cs.drop off).take en.size) (en.cells a)/\∀c∈(cs.drop off).take en.size,c.oneCell'=true:=by
 obtain⟨xs,n,_,_,hl,ad,aa⟩:=DataW.trod_struct ht h;cases T:Y[k]? with
 | none=>simp[T] at hf
 | some f=>
  simp[T] at hf;obtain⟨rfl,rfl⟩:=hf;have h1:=aa k f T;have ac:k<xs.length:=by rw[ad];exact(cU.1 T).1
  rw[cS ac,hc] at h1;exact he _ _ _ _ _ _ _ _ _ h1
theorem zV {O:Array Field} {H:Type} {enc:TypeId×Value->H} {w:World} {D:Nat} {k:Nat->Bool} {K:Bool} {fuel:Nat} {cs:List Value} {x:DataW H×List MemPlace} (Y:P.underlying t=some (.struct O))
  (h:DataW.trod enc P w D k K fuel t cs=some x):cs.length=P.cellsOf t:=by
 obtain⟨xs,n,_,_,T,_⟩:=DataW.trod_struct Y h;exact T
theorem z6 {w:World} {I:Im} {cs:List Value} {off:Nat} (h:cs.length=off):Reps w I (cs.drop off) []/\∀c∈cs.drop off,c.oneCell'=true:=by rw[List.drop_eq_nil_of_le (by omega)];exact⟨Pw.nil,by simp⟩
theorem zB {w:World} {I:Im} {cs:List Value} {off n:Nat} {k D:List DV} (K:Reps w I ((cs.drop off).take n) k) (T:∀c∈(cs.drop off).take n,c.oneCell'=true) (H:Reps w I (cs.drop (off+n)) D/\∀c∈cs.drop (off+n),c.oneCell'=true):Reps w I (cs.drop off) (k++D)/\∀c∈cs.drop off,c.oneCell'=true:=by
 have e:cs.drop off=(cs.drop off).take n++cs.drop (off+n):=by rw[<-List.drop_drop,ey]
 rw[e];exact⟨Pw.append K H.1,λc O=>by rcases eK.1 O with h | h;exact T c h;exact H.2 c h⟩
theorem zRF {H:Type} {enc:TypeId×Value->H} {w:World} {K:Nat} {k:Nat->Bool} {T:Bool} {v:Value} {x:DataW H} {ps:List MemPlace} {Z:Type} {en:En Z} {ok: Z->Prop} (he:jK P t en ok) (h:DataW.Trod enc P w K k T t v x ps)
  (hv:(v.cells= #[v]/\en.size=1/\(∀a,vN (en.dv a)= [en.dv a]))\/(∃cs,v= .agg cs/\∀a,∃es,en.dv a= .agg es)):∃a,ok a/\Rep w (zP7 w) v (en.dv a):=by
 obtain⟨fuel,hf⟩:=h;obtain⟨a,h1,D,Y⟩:=he _ _ _ _ _ _ _ _ _ hf;refine⟨a,h1,?_⟩;rcases hv with ⟨e1,e2,e3⟩ | ⟨cs,rfl,e⟩
 ·rw[e1] at D
  simp only[En.cells,e3] at D;exact D.2 0 v (en.dv a) rfl rfl
 ·obtain⟨es,O⟩:=e a
  simp only[En.cells,O,vN,Value.cells] at D Y;rw[O];have:=Rep.agg (w:=w) (I:=zP7 w) cs.toList es D.1 Y D.2
  rwa [Array.toArray_toList] at this
end
end Go.AV


/- The layer of abstract values: what a temporary holds, said once; every rule of it is proved from the model. Conditions: none. -/
import Derived.Test.YtjnpmmedmedokaaGreatDoorLa3
import Derived.Test.YtjnpmmedmedokaaGreatDoorLa2
import Derived.ChangeArms
import Derived.OpenShut
import Derived.WideShapes
set_option linter.unusedSimpArgs false
set_option linter.unusedVariables false
set_option linter.unnecessarySimpa false
namespace Go.AV
open Go.RowKit Go.M
theorem zQ6 {ents:Array MapEntry} {c j:Nat} {q:MapEntry} (O:Born ents c) (H:ents[j]? =some q):ents.findIdx? (λe=>(e.born:Int)==(q.born:Int))=some j:=by
 have G:=(cQ.1 H).1;have h:ents[j]=q:=(cQ.1 H).2;rw[Array.findIdx?_eq_some_iff_getElem];refine⟨G,by simp[h],λi hi=>?_⟩;have k:=O.nd;intro e;have D:(ents[i]'(by omega)).born=q.born:=by
  have T:(((ents[i]'(by omega)).born:Nat):Int)=(q.born:Int):=by simpa using e
  omega
 have K:(ents.toList.map (·.born))[i]'(by simp;omega)=(ents.toList.map (·.born))[j]'(by simpa using G):=by simp[D,h]
 have:=(List.getElem_inj k).1 K;omega
section
variable {P:Program} {r:Option Nat} {E:Env} {l:List Oper} {J:AState->Prop} {fuel:Nat} {listed:List Bool} {S:AState}
theorem z0W {Φ Ψ:Act->World->Prop} {i:Nat} {o:Oper} (K:rdy l listed= [i]) (T:l[i]? =some o) (O:o.guard=none) (G:∀c,o.op≠ .defer c)
  (h:∀a w,Φ a w->(∃v w',(execOp a.eval o).run P w= .ok (.value v) w'/\Ψ (a.put o.dst v) w')\/∃w',(execOp a.eval o).run P w= .ok .skip w'/\Ψ (a.put o.dst undef) w')
  (k:∀a w,Ψ a w->wpAnyIn (fen r) 0 P .any l.toArray (QJ E J) fuel (listed.set i true).toArray a w):∀a w,Φ a w->wpAnyIn (fen r) 0 P .any l.toArray (QJ E J) (fuel+1) listed.toArray a w:=by
 intro a w Y;refine⟨λe=>?_,λZ hi=>?_⟩
 ·have:=zUM (l:=l) (listed:=listed) (i:=i) (by rw[K];simp)
  rw[e] at this;cases this
 ·have hi:=z0R hi
  rw[K] at hi;obtain rfl:Z=i:=by simpa using hi
  unfold wpOpIn;simp only[eX,T,Region.wanted,O,dG];refine⟨λf _=>trivial,?_⟩;rw[Oper.semAt_eq _ _ _ G];rcases h a w Y with ⟨v,w',D,H⟩ | ⟨w',D,H⟩
  ·rw[D]
   show wpAnyIn _ _ _ _ _ _ _ _ _ _;rw[zMG];exact k _ _ H
  ·rw[D]
   show wpAnyIn _ _ _ _ _ _ _ _ _ _;rw[zMG];exact k _ _ H
section
variable {κ:Type} [DecidableEq κ] {kv: κ->Value} {ν:Type} {ev:En ν} {mp:List (κ×ν)} {k: κ} {kt vt t:TypeId} {zv:Value} {km kk x:Operand} {id:Nat} {v: ν} {u:DV}
theorem yR {i1 i2 i3 O K:Nat} {bo bp bb:TypeId} {p1 p2 p3:String} {f1 f2 f3:Array Edge} (h1:rdy l listed= [i1]) (h2:rdy l (listed.set i1 true)= [i2]) (h3:rdy l ((listed.set i1 true).set i2 true)= [i3])
    (o1:l[i1]? =some ⟨some O,.mapEntry t km kk,bo,p1,f1,none⟩) (o2:l[i2]? =some ⟨some K,.extract (.tmp O) 1,bp,p2,f2,none⟩) (o3:l[i3]? =some ⟨none,.entryStore t km (.tmp K) x,bb,p3,f3,none⟩)
    (ay:O<E.n) (ac:K<E.n) (hT:MapTy P t kt vt zv) (hK:KeyTy P kt kv) (hm:S.ev km= .row id) (hb:S.blk id= .map (wG kv ev mp)) (hk:S.ev kk= .d (.v (kv k))) (hx:S.ev x= .d u) (hu:u=ev.dv v)
    (ao:km≠ .tmp O/\km≠ .tmp K) (ap:x≠ .tmp O/\x≠ .tmp K) (hE:E.wrB=true)
    (kn:zFY P r E l J fuel (((listed.set i1 true).set i2 true).set i3 true) (((S.setBlk id (.map (wG kv ev (wX mp k v)))).put O .top).put K .top)):zFY P r E l J (fuel+3) listed S:=by
  subst hu
  let S':=((S.setBlk id (.map (wG kv ev (wX mp k v)))).put O .top).put K .top
  let O3:Oper:=⟨none,.entryStore t km (.tmp K) x,bb,p3,f3,none⟩
  let ak:Act->World->Prop:=λa w=> ∃Y,(execOp a.eval O3).run P w= .ok .skip Y/\Sat E S' (a.put none undef) Y
  let aj:Act->World->Prop:=λa w=> ∃(z:Value) (n:Nat),a.eval (.tmp O)= .tuple #[z,.int .i64 n]/\ak (a.put (some K) (.int .i64 n)) w
  refine z0W (Φ:=Sat E S) (Ψ:=aj) h1 o1 rfl (by simp) ?_ (z0W (Φ:=aj) (Ψ:=ak) h2 o2 rfl (by simp) ?_ (z0W (Φ:=ak) (Ψ:=Sat E S') h3 o3 rfl (by simp) ?_ kn))
  · rintro a w ⟨I,ρ,C,hs⟩
    refine .inl ?_;have aq:=hs.blks id;rw[hb] at aq;obtain⟨b,ents,G,ai,hM,hh,hp,hI,hN⟩:=aq;have hv:=hs.ev km;rw[hm] at hv;have ag:a.eval km= .map (some b):=Eq.trans hv ai;have au:=hs.val hk;have ah:=hs.ev x;rw[hx] at ah;have aw:=(cQ.1 hh).1;have hf:=hK.find k _ ents.toList w (zUK hp);have Z:(getObj b).run P w= .ok (.map ents G) w:=by simp[getObj,Sem.run,hh]
    have am:∀(H:Array MapEntry) (D n j:Nat) (z:Value),H.findIdx? (λe=>(e.born:Int)==(n:Int))=some j->
        Pw (λ(x:MapEntry) (y:Value×DV)=>x.key=y.1/\Rep w I x.val y.2) (H.modify j λe=>{e with val:=a.eval x}).toList (wG kv ev (wX mp k v))->Born (H.modify j λe=>{e with val:=a.eval x}) D->
        aj (a.put (some O) (.tuple #[z,.int .i64 n])) {w with heap:=w.heap.setIfInBounds b (.map H D)}:=by
      intro H D n j z bk bm bi;have bn:O<a.tmps.size:=by rw[hs.size];exact ay
      have bu:K<(a.put (some O) (.tuple #[z,.int .i64 n])).tmps.size:=by simp[Act.put,hs.size,ac]
      refine⟨z,n,by simp[Act.eval,Act.put,bn],?_⟩
      let Y:World:={w with heap:=w.heap.setIfInBounds b (.map (H.modify j λe=>{e with val:=a.eval x}) D)}
      refine⟨Y,?_,?_⟩
      · have e1:((a.put (some O) (.tuple #[z,.int .i64 n])).put (some K) (.int .i64 n)).eval km= .map (some b):=by
          rw[Act.eval_put (λd hd=>by cases hd;exact ao.2),Act.eval_put (λd hd=>by cases hd;exact ao.1),ag]
        have e2:((a.put (some O) (.tuple #[z,.int .i64 n])).put (some K) (.int .i64 n)).eval (.tmp K)= .int .i64 n:=by
          have:K<a.tmps.size:=by rw[hs.size];exact ac
          simp[Act.eval,Act.put,this]
        have e3:((a.put (some O) (.tuple #[z,.int .i64 n])).put (some K) (.int .i64 n)).eval x=a.eval x:=by
          rw[Act.eval_put (λd hd=>by cases hd;exact ap.2),Act.eval_put (λd hd=>by cases hd;exact ap.1)]
        have ba:({w with heap:=w.heap.setIfInBounds b (.map H D)}:World).heap[b]? =some (.map H D):=Array.getElem?_setIfInBounds_self_of_lt aw;have bl:(getObj b).run P {w with heap:=w.heap.setIfInBounds b (.map H D)}= .ok (.map H D) {w with heap:=w.heap.setIfInBounds b (.map H D)}:=by simp[getObj,Sem.run,ba]
        simp only[O3,execOp,e1,e2,e3,Instr.entryStore,cS,bl,cW,asInt,asIntOf,dV,bk];rw[zFL ba];simp[Y]
      · have hg:w.grownBy Y (some b):=⟨rfl,rfl,rfl,by simp[Y],λq _ hq=>dU (λe=>hq (by rw[e]))⟩
        have T:Same I w Y:=λb' j hi=>by
          have:b'≠b:=λe=>hI j (e▸hi);exact KeepB.of (dU (λe=>this e.symm))
        have ax:=hs.modify (x:= .map (wG kv ev (wX mp k v))) hg (by rw[hb];simp) (by rw[ai];rfl) T ⟨b,_,D,ai,hM,by simp[Y,aw],bm.imp λ_ _ h=>⟨h.1,h.2.mono T (λ_ _ h=>h)⟩,hI,bi⟩ hE
        exact⟨I,ρ,C,(ax.put ay (x:= .top) trivial).put ac (x:= .top) trivial⟩
    rcases zJI (a:=k) (i:=0) hp with ⟨e1,e2⟩ | ⟨v0,j,x0,e1,e2,e3,⟨q,q1,q2,q3⟩,e4⟩
    · rw[e2] at hf
      refine⟨_,_,?_,am (ents.push {key:=kv k,val:=zv,born:=G}) (G+1) G ents.size zv ?_ ?_ ?_⟩
      · simp only[execOp,ag,au,Instr.mapEntry,cS,dJ hT.und,cW,Z,hK.check,hf,hT.zero,zFL hh,dV]
        rfl
      · have:=zQ6 (ents:=ents.push {key:=kv k,val:=zv,born:=G}) (c:=G+1) (j:=ents.size) (q:={key:=kv k,val:=zv,born:=G}) hN.push (by simp)
        exact this
      · rw[zVU e1]
        have e5:((ents.push {key:=kv k,val:=zv,born:=G}).modify ents.size λe=>{e with val:=a.eval x}).toList=ents.toList++ [{key:=kv k,val:=a.eval x,born:=G}]:=by
          apply fV;intro m;rw[gR,List.getElem?_modify,iA];rcases Nat.lt_trichotomy m ents.toList.length with h | h | h
          · have:¬ents.size=m:=by have:=ents.length_toList;omega
            rw[dY h,dY h];simp[this]
          · have:ents.size=m:=by have:=ents.length_toList;omega
            subst this;rw[dW (l₁:=ents.toList) (by simp),dW (l₁:=ents.toList) (by simp)];simp
          · have q:m-ents.toList.length=(m-ents.toList.length-1)+1:=by omega
            rw[dW (l₁:=ents.toList) (by omega),dW (l₁:=ents.toList) (by omega),q];simp
        rw[e5];simp only[wG,g9,ez,fI];exact Pw.append hp (Pw.cons ⟨rfl,ah⟩ Pw.nil)
      · exact hN.push.modify λ_=>rfl
    · rw[e2] at hf
      have hq:ents[0+j]? =some q:=by rw[eE];simpa using q1
      have ar:(Instr.keyThatStays (((ents[0+j]?).map (·.key)).getD (kv k)) (kv k)).run P w= .ok (kv k) w:=by
        rw[hq];simp only[eZ,gD,q2,Instr.keyThatStays,hK.same,dG,dV]
      have ch:((ents[0+j]?).map (·.born)).getD 0=q.born:=by rw[hq];rfl
      have an:Born (ents.modify (0+j) λe=>{e with key:=kv k}) G:=hN.modify λ_=>rfl;refine⟨_,_,?_,am (ents.modify (0+j) λe=>{e with key:=kv k}) G q.born j x0 ?_ ?_ ?_⟩
      · simp only[execOp,ag,au,Instr.mapEntry,cS,dJ hT.und,cW,Z,hK.check,hf,ar,zFL hh,dV]
        rw[hq];rfl
      · refine zQ6 (q:={q with key:=kv k}) an ?_
        rw[eE,Array.getElem?_modify,dI rfl];have:ents[j]? =some q:=by simpa using q1
        rw[this];rfl
      · have e5:((ents.modify (0+j) λe=>{e with key:=kv k}).modify j λe=>{e with val:=a.eval x}).toList=ents.toList.modify j λe=>{e with key:=kv k,val:=a.eval x}:=by
          rw[eE,gR,gR];apply fV;intro m;simp only[List.getElem?_modify];split
          · cases ents.toList[m]? <;> rfl
          · cases ents.toList[m]? <;> rfl
        rw[e5];exact e4 (a.eval x) v _ (λ_=> .inr rfl) (λ_=>rfl) ah
      · exact an.modify λ_=>rfl
  · rintro a w ⟨z,n,he,hp⟩
    refine .inl ⟨.int .i64 n,w,?_,hp⟩;simp only[execOp,he];simp[Instr.extract]
  · rintro a w ⟨Y,hr,hp⟩
    exact .inr ⟨Y,hr,hp⟩
end
end
section
variable {P:Program} {r:Option Nat} {E:Env} {S:AState} {d:Nat} {ty:TypeId} {pos:String} {af:Array Edge} {g:Option (Nat×Bool)}
theorem yCN {t:TypeId} {places:List (Nat×Nat)} {zs:List Value} (ps:List (Nat×Operand)) (i:Nat) (x:Operand) (j:Nat) (y:Operand) {ds:List (Nat×DV)} {cells:List DV} {id off K k:Nat} (hn:d<E.n) (hT:StTy P t places zs) (am:dvP S ps=some ds) (hf:zPJ places (zs.map DV.v) ds=some cells)
  (hx:S.ev x= .row id) (hr:zS6 S (.row id)=true) (hi:places[i]? =some (off,1)) (ao:Nat.ble (off+1) cells.length=true)
  (hy:S.ev y= .row K) (ar:zS6 S (.row K)=true) (hj:places[j]? =some (k,1)) (ad:Nat.ble (k+1) cells.length=true):
  AOp P r E S ⟨some d,.build t (ps++ [(i,x),(j,y)]).toArray,ty,pos,af,g⟩ d (.aggc (((cells.map Cap.d).set off (.row id)).set k (.row K))):=
 ⟨rfl,hn,λS' Z=>zY rfl hn (by simp) λA w I ρ C hs=>by
  obtain⟨aj,hu,hp⟩:=hT.und;have ac:off<cells.length:=hO ao;have Y:k<cells.length:=hO ad;have ab:dvP S' ps=some ds:=(zLJ Z (λp hp=>by simp only[Op.operands];simp;exact .inl ⟨p.1,hp⟩)).trans am
  obtain⟨D,h1,h2,h3⟩:=zQY (places:=places) ds (ps.map λp=>(p.1,A.eval p.2)) zs.toArray (zs.map DV.v) cells (by simpa using zPV w I zs) (by simpa using hT.one) (zLI hs ab) hf;have hv:=hs.ev x;rw[(Z.ev (x:=x) (by simp[Op.operands])).trans hx] at hv;have hw:=hs.ev y;rw[(Z.ev (x:=y) (by simp[Op.operands])).trans hy] at hw;have O:(A.eval x).oneCell'=true:=zPU hs.blks hv rfl (λi' e=>by
   cases e;have:=zL6 hr id rfl
   rwa [Z.blk])
  have H:(A.eval y).oneCell'=true:=zPU hs.blks hw rfl (λi' e=>by
   cases e;have:=zL6 ar K rfl
   rwa [Z.blk])
  have au:off<D.size:=by rw[<-eM,h2.1];exact ac
  have ah:k<(D.setIfInBounds off (A.eval x)).size:=by rw[Array.size_setIfInBounds,<-eM,h2.1];exact Y
  have an:=zOS (f:=λi=>places[i]?) (ps.map λp=>(p.1,A.eval p.2)) zs.toArray D i (A.eval x) off h1 hi O au;have G:=zOS (f:=λi=>places[i]?) _ zs.toArray _ j (A.eval y) k an hj H ah;rw[c8] at G;refine⟨.agg ((D.toList.set off (A.eval x)).set k (A.eval y)).toArray,?_,_,rfl,?_,?_⟩
  ·have hz:=hT.zero w
   simp only[fN,dP] at G;simp only[execOp,Instr.build,eO,cS,hz,cW,dJ hu,hp w,Value.cells,eX,g9,ez,fI,G,dV];congr 2;congr 1;rw[<-Array.toList_inj];simp
  ·have aq:Pw (HoldsC w I ρ) D.toList (cells.map Cap.d):=by
    refine⟨by rw[h2.1,e7],λj u c hu hc=>?_⟩;rw[dX] at hc;cases T:cells[j]? with
    | none=>rw[T] at hc;cases hc
    | some q=>rw[T] at hc;cases hc;exact h2.2 j u q hu T
   exact(aq.set (y:=Cap.row id) hv off).set (y:=Cap.row K) hw k
  ·intro z hz
   rcases gx hz with h | h
   ·rcases gx h with h | h
    ·exact h3 z h
    ·rw[h];exact O
   ·rw[h];exact H⟩
end
open Go.RowKit Go.M
def vE (P:Program) (t:TypeId) {G:Type} (en:En G) (ok: G->Prop):Prop:=
 ∀(H:Type) (enc:TypeId×Value->H) (w:World) (k:Nat) (h:Nat->Bool) (D:Bool) (fuel:Nat) (cs:List Value) (x:DataW H×List MemPlace),DataW.trod enc P w k h D fuel t cs=some x->
  ∃a,ok a/\Reps w (zR6 w) cs (en.cells a)/\∀c∈cs,c.oneCell'=true
section
variable {P:Program} {t:TypeId}
theorem zS (O:P.underlying t=some (.int .i64)):vE P t eI (λn=> -9223372036854775808<=n/\n<=9223372036854775807):=by intro H enc w D k G fuel cs x h;obtain⟨n,rfl,_,K⟩:=DataW.trod_int O h;refine⟨n,?_,Pw.cons (.v _) Pw.nil,by simp[Value.oneCell']⟩;simp only[Lit.wf,dE,cZ] at K;exact K
theorem zDF (K:P.underlying t=some .bool):vE P t eB (λ_=>True):=by intro H enc w D k G fuel cs x h;obtain⟨b,rfl,_⟩:=DataW.trod_bool K h;exact⟨b,trivial,Pw.cons (.v _) Pw.nil,by simp[Value.oneCell']⟩
theorem zI7 (O:P.underlying t=some .string):vE P t eS (λs=>s.length<=9223372036854775807):=by
 intro H enc w D k G fuel cs x h;obtain⟨s,rfl,_,K⟩:=DataW.trod_string O h;refine⟨s.data.toList,K,Pw.cons ?_ Pw.nil,by simp[Value.oneCell']⟩;have:ds s.data.toList= .v (.string s):=by simp[ds]
 show Rep _ _ _ (ds s.data.toList);rw[this];exact .v _
theorem zN3 {w:World} {I:Im} {D:Type} (en:En D):∀(k:List (List Value)) (l:List D),Pw (λcs a=>Reps w I cs (en.cells a)) k l->Reps w I k.flatten (en.all l)
 | [],l,h=>by cases l with
  | nil=>exact Pw.nil
  | cons a l=>have:=h.1;simp at this
 | cs::k,l,h=>by cases l with
  | nil=>have:=h.1;simp at this
  | cons a l=>
   obtain⟨G,H⟩:=zIV h;exact Pw.append G (zN3 en k l H)
theorem z4C {O T:Type} {R:Nat->O->T->Prop} (n:Nat) (h:∀i,i<n->∃a b,R i a b):∃(as:List O) (bs:List T),as.length=n/\bs.length=n/\∀i a b,as[i]? =some a->bs[i]? =some b->R i a b:=by
 induction n with
 | zero=>exact⟨[],[],rfl,rfl,λi a b h=>by simp at h⟩
 | succ n Z=>
  obtain⟨as,bs,G,K,Y⟩:=Z λi hi=>h i (by omega);obtain⟨a,b,H⟩:=h n (by omega);refine⟨as++ [a],bs++ [b],by simp[G],by simp[K],λi x y k D=>?_⟩;by_cases hi:i<n
  ·rw[dY (by omega)] at k D;exact Y i x y k D
  ·have:i=n:=by
    have:=(cX.1 k).1;simp[G] at this;omega
   subst this;rw[dW (by omega),G] at k;rw[dW (by omega),K] at D;simp at k D;subst k;subst D;exact H
theorem z4D {T:Type} {k:List (List T)} {n:Nat} (h:∀cs∈k,cs.length=n) {j:Nat} {x: T} (D:k.flatten[j]? =some x):∃cs,k[j/n]? =some cs/\cs[j%n]? =some x/\0<n:=by
 induction k generalizing j with
 | nil=>simp at D
 | cons cs k ih=>
  have hl:=h cs (by simp);rw[gQ] at D;by_cases H:j<cs.length;rw[dY H] at D;have G:0<n:=by omega
  refine⟨cs,?_,?_,G⟩;rw[Nat.div_eq_of_lt (by omega)];rfl;rw[Nat.mod_eq_of_lt (by omega)];exact D;rw[dW (by omega)] at D;obtain⟨Y,K,O,G⟩:=ih (λc Z=>h c (by simp[Z])) D;rw[hl] at K O;have e:j=(j-n)+n:=by omega
  refine⟨Y,?_,?_,G⟩;rw[e,Nat.add_div_right _ G];simpa using K;rw[e,Nat.add_mod_right];exact O
theorem yG {e:TypeId} {α:Type} {en:En α} {ok: α->Prop} (ht:P.underlying t=some (.slice e)) (hc:P.cellsOf e=en.size) (hp:0<en.size) (he:vE P e en ok):
  vE P t (eL en) (λl=>l.length<=9223372036854775807/\∀x∈l,ok x):=by
 intro H enc w az ax ba fuel cs x h;rcases DataW.trod_slice ht h with ⟨rfl,_⟩ | ⟨a,len,ak,Y,rest,n,_,rfl,_,hb,hl,hm,bb,al,_,_⟩
 ·exact⟨[],⟨by simp,by simp⟩,Pw.cons (.nil _ _ _) Pw.nil,by simp[Value.oneCell']⟩
 ·obtain⟨G,l,h1,h2,h3⟩:=z4C (R:=λi (T:List Value) (y: α)=>ok y/\Reps w (zR6 w) T (en.cells y)/\(∀c∈T,c.oneCell'=true)/\T.length=en.size/\∀j,j<en.size->w.cell? ((a.add (i*en.size)).add j)=T[j]?) len (λi hi=>by
   have h1:=al i hi;have h2:Y[i]? =some (Y[i]'(by omega)):=cO (by omega);rw[h2,Option.bind_eq_some_iff] at h1;obtain⟨T,K,hy⟩:=h1;obtain⟨y,q1,q2,q3⟩:=he _ _ _ _ _ _ _ _ _ hy;rw[hc] at K;obtain⟨_,r1,r2⟩:=World.cells?_some K;exact⟨T,y,q1,q2,q3,r1,r2⟩)
  have Z:∀cs∈G,cs.length=en.size:=λcs K=>by
   obtain⟨i,hi⟩:=List.getElem?_of_mem K;have ac:=(cX.1 hi).1;have:l[i]? =some (l[i]'(by omega)):=cO (by omega);exact(h3 i cs _ hi this).2.2.2.1
  refine⟨l,⟨by unfold maxLen at hm;omega,λy hy=>?_⟩,Pw.cons ?_ Pw.nil,by simp[Value.oneCell']⟩
  ·obtain⟨i,hi⟩:=List.getElem?_of_mem hy
   have ac:=(cX.1 hi).1;have:G[i]? =some (G[i]'(by omega)):=cO (by omega);exact(h3 i _ y this hi).1
  ·show Rep w (zR6 w) _ (zH en l)
   by_cases h0:len=0
   ·subst h0
    have:l= []:=cP h2;subst this;exact .nil _ _ _
   ·obtain⟨b,off,ab⟩:=a
    have O:∀(j:Nat) v,G.flatten[j]? =some v->∃i k,j=i*en.size+k/\k<en.size/\w.cell? (((⟨b,off,ab⟩:Addr).add (i*en.size)).add k)=some v:=by
     intro j v hj;obtain⟨cs,q1,q2,_⟩:=z4D Z hj;have ac:=(cX.1 q1).1;have aq:l[j/en.size]? =some (l[j/en.size]'(by omega)):=cO (by omega);have:=(h3 _ cs _ q1 aq).2.2.2.2 (j%en.size) (Nat.mod_lt _ hp);exact⟨j/en.size,j%en.size,(Nat.div_add_mod' j en.size).symm,Nat.mod_lt _ hp,by rw[this];exact q2⟩
    have ad:ab=none:=by
     have ar:G.flatten≠[]:=by
      intro e;have:=congrArg List.length e;cases G with
      | nil=>simp at h1;omega
      | cons c G=>
       have:=Z c (by simp);simp at e;have:=e.1;rw[this] at*
       simp_all
     obtain⟨v,hv⟩:∃v,G.flatten[0]? =some v:=by
      cases hf:G.flatten with
      | nil=>exact absurd hf ar
      | cons v _=>exact⟨v,rfl⟩
     obtain⟨i,k,an,hk,D⟩:=O 0 v hv;have am:i*en.size=0:=by omega
     have ap:k=0:=by omega
     rw[am,ap] at D;simp only[Addr.add,dG,World.cell?] at D;cases ab with
     | none=>rfl
     | some s=>cases hb:w.heap[b]? with
      | none=>simp[hb] at D
      | some o=>cases o<;>simp[hb] at D
    subst ad;have aa:=zN3 (w:=w) (I:=zR6 w) en G l ⟨by omega,λj cs y K hy=>(h3 j cs y K hy).2.1⟩;refine .sl b off len ak en.size G.flatten (en.all l) (by omega) hl (by rw[jI,h2]) aa.1 (λj v hj=>?_) (λv hv=>?_) aa.2
    ·obtain⟨i,k,an,hk,D⟩:=O j v hj
     rw[u7,u7] at D;have e2:off+i*en.size+k=off+j:=by omega
     rw[e2] at D;refine⟨D,?_⟩;show b<w.heap.size;unfold World.cell? at D;cases hb:w.heap[b]? with
     | none=>simp[hb] at D
     | some o=>exact(cQ.1 hb).1
    ·obtain⟨cs,K,aw⟩:=List.mem_flatten.1 hv
     obtain⟨i,hi⟩:=List.getElem?_of_mem K;have ac:=(cX.1 hi).1;have:l[i]? =some (l[i]'(by omega)):=cO (by omega);exact(h3 i cs _ hi this).2.2.1 v aw
theorem zG {T:Array Field} {H:Type} {enc:TypeId×Value->H} {w:World} {G:Nat} {D:Nat->Bool} {K:Bool} {fuel:Nat} {cs:List Value} {x:DataW H×List MemPlace} (ht:P.underlying t=some (.struct T))
  (h:DataW.trod enc P w G D K fuel t cs=some x) {k:Nat} {α:Type} {en:En α} {ok: α->Prop} {Y:TypeId} {off:Nat} (hf:(T[k]?).map (λf=>(f.offset,f.type))=some (off,Y)) (hc:P.cellsOf Y=en.size) (he:vE P Y en ok):
  ∃a,ok a/\Reps w (zR6 w) ((cs.drop off).take en.size) (en.cells a)/\∀c∈(cs.drop off).take en.size,c.oneCell'=true:=by
 obtain⟨xs,n,_,_,hl,ac,Z⟩:=DataW.trod_struct ht h;cases O:T[k]? with
 | none=>simp[O] at hf
 | some f=>
  simp[O] at hf;obtain⟨rfl,rfl⟩:=hf;have h1:=Z k f O;have ab:k<xs.length:=by rw[ac];exact(cQ.1 O).1
  rw[cO ab,hc] at h1;exact he _ _ _ _ _ _ _ _ _ h1
theorem yX {K:Array Field} {H:Type} {enc:TypeId×Value->H} {w:World} {D:Nat} {k:Nat->Bool} {G:Bool} {fuel:Nat} {cs:List Value} {x:DataW H×List MemPlace} (T:P.underlying t=some (.struct K))
  (h:DataW.trod enc P w D k G fuel t cs=some x):cs.length=P.cellsOf t:=by
 obtain⟨xs,n,_,_,O,_⟩:=DataW.trod_struct T h;exact O
theorem kT {w:World} {I:Im} {cs:List Value} {off:Nat} (h:cs.length=off):Reps w I (cs.drop off) []/\∀c∈cs.drop off,c.oneCell'=true:=by rw[List.drop_eq_nil_of_le (by omega)];exact⟨Pw.nil,by simp⟩
theorem zF {w:World} {I:Im} {cs:List Value} {off n:Nat} {k D:List DV} (H:Reps w I ((cs.drop off).take n) k) (O:∀c∈(cs.drop off).take n,c.oneCell'=true) (G:Reps w I (cs.drop (off+n)) D/\∀c∈cs.drop (off+n),c.oneCell'=true):Reps w I (cs.drop off) (k++D)/\∀c∈cs.drop off,c.oneCell'=true:=by
 have e:cs.drop off=(cs.drop off).take n++cs.drop (off+n):=by rw[<-List.drop_drop,et]
 rw[e];exact⟨Pw.append H G.1,λc K=>by rcases eQ.1 K with h | h;exact O c h;exact G.2 c h⟩
theorem zUO {H:Type} {enc:TypeId×Value->H} {w:World} {G:Nat} {k:Nat->Bool} {O:Bool} {v:Value} {x:DataW H} {ps:List MemPlace} {Y:Type} {en:En Y} {ok: Y->Prop} (he:vE P t en ok) (h:DataW.Trod enc P w G k O t v x ps)
  (hv:(v.cells= #[v]/\en.size=1/\(∀a,vG (en.dv a)= [en.dv a]))\/(∃cs,v= .agg cs/\∀a,∃es,en.dv a= .agg es)):∃a,ok a/\Rep w (zR6 w) v (en.dv a):=by
 obtain⟨fuel,hf⟩:=h;obtain⟨a,h1,D,T⟩:=he _ _ _ _ _ _ _ _ _ hf;refine⟨a,h1,?_⟩;rcases hv with ⟨Z,e2,e3⟩ | ⟨cs,rfl,e⟩
 ·rw[Z] at D
  simp only[En.cells,e3] at D;exact D.2 0 v (en.dv a) rfl rfl
 ·obtain⟨es,K⟩:=e a
  simp only[En.cells,K,vG,Value.cells] at D T;rw[K];have:=Rep.agg (w:=w) (I:=zR6 w) cs.toList es D.1 T D.2
  rwa [Array.toArray_toList] at this
end
end Go.AV


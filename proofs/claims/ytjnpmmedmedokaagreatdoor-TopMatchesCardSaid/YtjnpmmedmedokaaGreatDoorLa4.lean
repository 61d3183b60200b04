/- The layer of abstract values: what a temporary holds, said once; every rule of it is proved from the model. Conditions: none. -/
import Derived.Test.YtjnpmmedmedokaaGreatDoorLa3
import Derived.Test.YtjnpmmedmedokaaGreatDoorLa2
import Derived.ChangeArms
import Derived.OpenShut
import Derived.WideShapes
set_option linter.unusedSimpArgs false
set_option linter.unusedVariables false
set_option linter.unnecessarySimpa false
namespace Go.AV
open Go.RowKit Go.M
theorem zOJ {ents:Array MapEntry} {c j:Nat} {q:MapEntry} (K:Born ents c) (G:ents[j]? =some q):ents.findIdx? (λe=>(e.born:Int)==(q.born:Int))=some j:=by
 have D:=(cU.1 G).1;have h:ents[j]=q:=(cU.1 G).2;rw[Array.findIdx?_eq_some_iff_getElem];refine⟨D,by simp[h],λi hi=>?_⟩;have k:=K.nd;intro e;have z:(ents[i]'(by omega)).born=q.born:=by
  have O:(((ents[i]'(by omega)).born:Nat):Int)=(q.born:Int):=by simpa using e
  omega
 have H:(ents.toList.map (·.born))[i]'(by simp;omega)=(ents.toList.map (·.born))[j]'(by simpa using D):=by simp[z,h]
 have:=(List.getElem_inj k).1 H;omega
section
variable {P:Program} {r:Option Nat} {E:Env} {l:List Oper} {J:AState->Prop} {fuel:Nat} {listed:List Bool} {S:AState}
theorem zWN {Φ Ψ:Act->World->Prop} {i:Nat} {o:Oper} (H:rdy l listed= [i]) (O:l[i]? =some o) (K:o.guard=none) (D:∀c,o.op≠ .defer c)
  (h:∀a w,Φ a w->(∃v w',(execOp a.eval o).run P w= .ok (.value v) w'/\Ψ (a.put o.dst v) w')\/∃w',(execOp a.eval o).run P w= .ok .skip w'/\Ψ (a.put o.dst undef) w')
  (k:∀a w,Ψ a w->wpAnyIn (fen r) 0 P .any l.toArray (QJ E J) fuel (listed.set i true).toArray a w):∀a w,Φ a w->wpAnyIn (fen r) 0 P .any l.toArray (QJ E J) (fuel+1) listed.toArray a w:=by
 intro a w T;refine⟨λe=>?_,λY hi=>?_⟩
 ·have:=zWK (l:=l) (listed:=listed) (i:=i) (by rw[H];simp)
  rw[e] at this;cases this
 ·have hi:=zWJ hi
  rw[H] at hi;obtain rfl:Y=i:=by simpa using hi
  unfold wpOpIn;simp only[eW,O,Region.wanted,K,dH];refine⟨λf _=>trivial,?_⟩;rw[Oper.semAt_eq _ _ _ D];rcases h a w T with ⟨v,w',z,G⟩ | ⟨w',z,G⟩
  ·rw[z]
   show wpAnyIn _ _ _ _ _ _ _ _ _ _;rw[zRG];exact k _ _ G
  ·rw[z]
   show wpAnyIn _ _ _ _ _ _ _ _ _ _;rw[zRG];exact k _ _ G
section
variable {κ:Type} [DecidableEq κ] {kv: κ->Value} {ν:Type} {ev:En ν} {mp:List (κ×ν)} {k: κ} {kt vt t:TypeId} {zv:Value} {km kk x:Operand} {id:Nat} {v: ν} {u:DV}
theorem z8 {i1 i2 i3 O K:Nat} {bo bp bb:TypeId} {p1 p2 p3:String} {f1 f2 f3:Array Edge} (h1:rdy l listed= [i1]) (h2:rdy l (listed.set i1 true)= [i2]) (h3:rdy l ((listed.set i1 true).set i2 true)= [i3])
    (o1:l[i1]? =some ⟨some O,.mapEntry t km kk,bo,p1,f1,none⟩) (o2:l[i2]? =some ⟨some K,.extract (.tmp O) 1,bp,p2,f2,none⟩) (o3:l[i3]? =some ⟨none,.entryStore t km (.tmp K) x,bb,p3,f3,none⟩)
    (ay:O<E.n) (ac:K<E.n) (hT:MapTy P t kt vt zv) (hK:KeyTy P kt kv) (hm:S.ev km= .row id) (hb:S.blk id= .map (xO kv ev mp)) (hk:S.ev kk= .d (.v (kv k))) (hx:S.ev x= .d u) (hu:u=ev.dv v)
    (ao:km≠ .tmp O/\km≠ .tmp K) (ap:x≠ .tmp O/\x≠ .tmp K) (hE:E.wrB=true)
    (kn:zEV P r E l J fuel (((listed.set i1 true).set i2 true).set i3 true) (((S.setBlk id (.map (xO kv ev (xY mp k v)))).put O .top).put K .top)):zEV P r E l J (fuel+3) listed S:=by
  subst hu
  let S':=((S.setBlk id (.map (xO kv ev (xY mp k v)))).put O .top).put K .top
  let O3:Oper:=⟨none,.entryStore t km (.tmp K) x,bb,p3,f3,none⟩
  let ak:Act->World->Prop:=λa w=> ∃Y,(execOp a.eval O3).run P w= .ok .skip Y/\Sat E S' (a.put none undef) Y
  let aj:Act->World->Prop:=λa w=> ∃(z:Value) (n:Nat),a.eval (.tmp O)= .tuple #[z,.int .i64 n]/\ak (a.put (some K) (.int .i64 n)) w
  refine zWN (Φ:=Sat E S) (Ψ:=aj) h1 o1 rfl (by simp) ?_ (zWN (Φ:=aj) (Ψ:=ak) h2 o2 rfl (by simp) ?_ (zWN (Φ:=ak) (Ψ:=Sat E S') h3 o3 rfl (by simp) ?_ kn))
  · rintro a w ⟨I,ρ,C,hs⟩
    refine .inl ?_;have aq:=hs.blks id;rw[hb] at aq;obtain⟨b,ents,G,ai,hM,hh,hp,hI,hN⟩:=aq;have hv:=hs.ev km;rw[hm] at hv;have ag:a.eval km= .map (some b):=Eq.trans hv ai;have au:=hs.val hk;have ah:=hs.ev x;rw[hx] at ah;have aw:=(cU.1 hh).1;have hf:=hK.find k _ ents.toList w (zRE hp);have Z:(getObj b).run P w= .ok (.map ents G) w:=by simp[getObj,Sem.run,hh]
    have am:∀(H:Array MapEntry) (D n j:Nat) (z:Value),H.findIdx? (λe=>(e.born:Int)==(n:Int))=some j->
        Pw (λ(x:MapEntry) (y:Value×DV)=>x.key=y.1/\Rep w I x.val y.2) (H.modify j λe=>{e with val:=a.eval x}).toList (xO kv ev (xY mp k v))->Born (H.modify j λe=>{e with val:=a.eval x}) D->
        aj (a.put (some O) (.tuple #[z,.int .i64 n])) {w with heap:=w.heap.setIfInBounds b (.map H D)}:=by
      intro H D n j z bk bm bi;have bn:O<a.tmps.size:=by rw[hs.size];exact ay
      have bu:K<(a.put (some O) (.tuple #[z,.int .i64 n])).tmps.size:=by simp[Act.put,hs.size,ac]
      refine⟨z,n,by simp[Act.eval,Act.put,bn],?_⟩
      let Y:World:={w with heap:=w.heap.setIfInBounds b (.map (H.modify j λe=>{e with val:=a.eval x}) D)}
      refine⟨Y,?_,?_⟩
      · have e1:((a.put (some O) (.tuple #[z,.int .i64 n])).put (some K) (.int .i64 n)).eval km= .map (some b):=by
          rw[Act.eval_put (λd hd=>by cases hd;exact ao.2),Act.eval_put (λd hd=>by cases hd;exact ao.1),ag]
        have e2:((a.put (some O) (.tuple #[z,.int .i64 n])).put (some K) (.int .i64 n)).eval (.tmp K)= .int .i64 n:=by
          have:K<a.tmps.size:=by rw[hs.size];exact ac
          simp[Act.eval,Act.put,this]
        have e3:((a.put (some O) (.tuple #[z,.int .i64 n])).put (some K) (.int .i64 n)).eval x=a.eval x:=by
          rw[Act.eval_put (λd hd=>by cases hd;exact ap.2),Act.eval_put (λd hd=>by cases hd;exact ap.1)]
        have ba:({w with heap:=w.heap.setIfInBounds b (.map H D)}:World).heap[b]? =some (.map H D):=Array.getElem?_setIfInBounds_self_of_lt aw;have bl:(getObj b).run P {w with heap:=w.heap.setIfInBounds b (.map H D)}= .ok (.map H D) {w with heap:=w.heap.setIfInBounds b (.map H D)}:=by simp[getObj,Sem.run,ba]
        simp only[O3,execOp,e1,e2,e3,Instr.entryStore,cW,bl,cX,asInt,asIntOf,dU,bk];rw[zDP ba];simp[Y]
      · have hg:w.grownBy Y (some b):=⟨rfl,rfl,rfl,by simp[Y],λq _ hq=>dZ (λe=>hq (by rw[e]))⟩
        have T:Same I w Y:=λb' j hi=>by
          have:b'≠b:=λe=>hI j (e▸hi);exact KeepB.of (dZ (λe=>this e.symm))
        have ax:=hs.modify (x:= .map (xO kv ev (xY mp k v))) hg (by rw[hb];simp) (by rw[ai];rfl) T ⟨b,_,D,ai,hM,by simp[Y,aw],bm.imp λ_ _ h=>⟨h.1,h.2.mono T (λ_ _ h=>h)⟩,hI,bi⟩ hE
        exact⟨I,ρ,C,(ax.put ay (x:= .top) trivial).put ac (x:= .top) trivial⟩
    rcases zGQ (a:=k) (i:=0) hp with ⟨e1,e2⟩ | ⟨v0,j,x0,e1,e2,e3,⟨q,q1,q2,q3⟩,e4⟩
    · rw[e2] at hf
      refine⟨_,_,?_,am (ents.push {key:=kv k,val:=zv,born:=G}) (G+1) G ents.size zv ?_ ?_ ?_⟩
      · simp only[execOp,ag,au,Instr.mapEntry,cW,dL hT.und,cX,Z,hK.check,hf,hT.zero,zDP hh,dU]
        rfl
      · have:=zOJ (ents:=ents.push {key:=kv k,val:=zv,born:=G}) (c:=G+1) (j:=ents.size) (q:={key:=kv k,val:=zv,born:=G}) hN.push (by simp)
        exact this
      · rw[zSL e1]
        have e5:((ents.push {key:=kv k,val:=zv,born:=G}).modify ents.size λe=>{e with val:=a.eval x}).toList=ents.toList++ [{key:=kv k,val:=a.eval x,born:=G}]:=by
          apply fV;intro m;rw[gK,List.getElem?_modify,ie];rcases Nat.lt_trichotomy m ents.toList.length with h | h | h
          · have:¬ents.size=m:=by have:=ents.length_toList;omega
            rw[d5 h,d5 h];simp[this]
          · have:ents.size=m:=by have:=ents.length_toList;omega
            subst this;rw[dW (l₁:=ents.toList) (by simp),dW (l₁:=ents.toList) (by simp)];simp
          · have q:m-ents.toList.length=(m-ents.toList.length-1)+1:=by omega
            rw[dW (l₁:=ents.toList) (by omega),dW (l₁:=ents.toList) (by omega),q];simp
        rw[e5];simp only[xO,gU,ey,fF];exact Pw.append hp (Pw.cons ⟨rfl,ah⟩ Pw.nil)
      · exact hN.push.modify λ_=>rfl
    · rw[e2] at hf
      have hq:ents[0+j]? =some q:=by rw[eD];simpa using q1
      have ar:(Instr.keyThatStays (((ents[0+j]?).map (·.key)).getD (kv k)) (kv k)).run P w= .ok (kv k) w:=by
        rw[hq];simp only[eX,gO,q2,Instr.keyThatStays,hK.same,dH,dU]
      have ch:((ents[0+j]?).map (·.born)).getD 0=q.born:=by rw[hq];rfl
      have an:Born (ents.modify (0+j) λe=>{e with key:=kv k}) G:=hN.modify λ_=>rfl;refine⟨_,_,?_,am (ents.modify (0+j) λe=>{e with key:=kv k}) G q.born j x0 ?_ ?_ ?_⟩
      · simp only[execOp,ag,au,Instr.mapEntry,cW,dL hT.und,cX,Z,hK.check,hf,ar,zDP hh,dU]
        rw[hq];rfl
      · refine zOJ (q:={q with key:=kv k}) an ?_
        rw[eD,Array.getElem?_modify,dK rfl];have:ents[j]? =some q:=by simpa using q1
        rw[this];rfl
      · have e5:((ents.modify (0+j) λe=>{e with key:=kv k}).modify j λe=>{e with val:=a.eval x}).toList=ents.toList.modify j λe=>{e with key:=kv k,val:=a.eval x}:=by
          rw[eD,gK,gK];apply fV;intro m;simp only[List.getElem?_modify];split
          · cases ents.toList[m]? <;> rfl
          · cases ents.toList[m]? <;> rfl
        rw[e5];exact e4 (a.eval x) v _ (λ_=> .inr rfl) (λ_=>rfl) ah
      · exact an.modify λ_=>rfl
  · rintro a w ⟨z,n,he,hp⟩
    refine .inl ⟨.int .i64 n,w,?_,hp⟩;simp only[execOp,he];simp[Instr.extract]
  · rintro a w ⟨Y,hr,hp⟩
    exact .inr ⟨Y,hr,hp⟩
end
end
section
variable {P:Program} {r:Option Nat} {E:Env} {S:AState} {d:Nat} {ty:TypeId} {pos:String} {af:Array Edge} {g:Option (Nat×Bool)}
theorem z5U {t:TypeId} {places:List (Nat×Nat)} {zs:List Value} (ps:List (Nat×Operand)) (i:Nat) (x:Operand) (j:Nat) (y:Operand) {ds:List (Nat×DV)} {cells:List DV} {id off K k:Nat} (hn:d<E.n) (hT:StTy P t places zs) (am:dvP S ps=some ds) (hf:zMJ places (zs.map DV.v) ds=some cells)
  (hx:S.ev x= .row id) (hr:zQA S (.row id)=true) (hi:places[i]? =some (off,1)) (ao:Nat.ble (off+1) cells.length=true)
  (hy:S.ev y= .row K) (ar:zQA S (.row K)=true) (hj:places[j]? =some (k,1)) (ad:Nat.ble (k+1) cells.length=true):
  AOp P r E S ⟨some d,.build t (ps++ [(i,x),(j,y)]).toArray,ty,pos,af,g⟩ d (.aggc (((cells.map Cap.d).set off (.row id)).set k (.row K))):=
 ⟨rfl,hn,λS' Z=>zQ rfl hn (by simp) λA w I ρ C hs=>by
  obtain⟨aj,hu,hp⟩:=hT.und;have ac:off<cells.length:=gX ao;have Y:k<cells.length:=gX ad;have ab:dvP S' ps=some ds:=(zIM Z (λp hp=>by simp only[Op.operands];simp;exact .inl ⟨p.1,hp⟩)).trans am
  obtain⟨D,h1,h2,h3⟩:=zOB (places:=places) ds (ps.map λp=>(p.1,A.eval p.2)) zs.toArray (zs.map DV.v) cells (by simpa using zMV w I zs) (by simpa using hT.one) (zIL hs ab) hf;have hv:=hs.ev x;rw[(Z.ev (x:=x) (by simp[Op.operands])).trans hx] at hv;have hw:=hs.ev y;rw[(Z.ev (x:=y) (by simp[Op.operands])).trans hy] at hw;have O:(A.eval x).oneCell'=true:=zMU hs.blks hv rfl (λi' e=>by
   cases e;have:=zI3 hr id rfl
   rwa [Z.blk])
  have H:(A.eval y).oneCell'=true:=zMU hs.blks hw rfl (λi' e=>by
   cases e;have:=zI3 ar K rfl
   rwa [Z.blk])
  have au:off<D.size:=by rw[<-eK,h2.1];exact ac
  have ah:k<(D.setIfInBounds off (A.eval x)).size:=by rw[Array.size_setIfInBounds,<-eK,h2.1];exact Y
  have an:=zLW (f:=λi=>places[i]?) (ps.map λp=>(p.1,A.eval p.2)) zs.toArray D i (A.eval x) off h1 hi O au;have G:=zLW (f:=λi=>places[i]?) _ zs.toArray _ j (A.eval y) k an hj H ah;rw[dB] at G;refine⟨.agg ((D.toList.set off (A.eval x)).set k (A.eval y)).toArray,?_,_,rfl,?_,?_⟩
  ·have hz:=hT.zero w
   simp only[fR,dS] at G;simp only[execOp,Instr.build,eH,cW,hz,cX,dL hu,hp w,Value.cells,eW,gU,ey,fF,G,dU];congr 2;congr 1;rw[<-Array.toList_inj];simp
  ·have aq:Pw (HoldsC w I ρ) D.toList (cells.map Cap.d):=by
    refine⟨by rw[h2.1,eY],λj u c hu hc=>?_⟩;rw[dX] at hc;cases T:cells[j]? with
    | none=>rw[T] at hc;cases hc
    | some q=>rw[T] at hc;cases hc;exact h2.2 j u q hu T
   exact(aq.set (y:=Cap.row id) hv off).set (y:=Cap.row K) hw k
  ·intro z hz
   rcases gt hz with h | h
   ·rcases gt h with h | h
    ·exact h3 z h
    ·rw[h];exact O
   ·rw[h];exact H⟩
end
open Go.RowKit Go.M
def zEP (P:Program) (t:TypeId) {D:Type} (en:En D) (ok: D->Prop):Prop:=
 ∀(H:Type) (enc:TypeId×Value->H) (w:World) (k:Nat) (h:Nat->Bool) (z:Bool) (fuel:Nat) (cs:List Value) (x:DataW H×List MemPlace),DataW.trod enc P w k h z fuel t cs=some x->
  ∃a,ok a/\Reps w (zSF w) cs (en.cells a)/\∀c∈cs,c.oneCell'=true
section
variable {P:Program} {t:TypeId}
theorem xB (K:P.underlying t=some (.int .i64)):zEP P t eI (λn=> -9223372036854775808<=n/\n<=9223372036854775807):=by intro H enc w z k D fuel cs x h;obtain⟨n,rfl,_,G⟩:=DataW.trod_int K h;refine⟨n,?_,Pw.cons (.v _) Pw.nil,by simp[Value.oneCell']⟩;simp only[Lit.wf,dM,c8] at G;exact G
theorem zM2 (G:P.underlying t=some .bool):zEP P t eB (λ_=>True):=by intro H enc w z k D fuel cs x h;obtain⟨b,rfl,_⟩:=DataW.trod_bool G h;exact⟨b,trivial,Pw.cons (.v _) Pw.nil,by simp[Value.oneCell']⟩
theorem zVA (K:P.underlying t=some .string):zEP P t eS (λs=>s.length<=9223372036854775807):=by
 intro H enc w z k D fuel cs x h;obtain⟨s,rfl,_,G⟩:=DataW.trod_string K h;refine⟨s.data.toList,G,Pw.cons ?_ Pw.nil,by simp[Value.oneCell']⟩;have:ds s.data.toList= .v (.string s):=by simp[ds]
 show Rep _ _ _ (ds s.data.toList);rw[this];exact .v _
theorem zK0 {w:World} {I:Im} {z:Type} (en:En z):∀(k:List (List Value)) (l:List z),Pw (λcs a=>Reps w I cs (en.cells a)) k l->Reps w I k.flatten (en.all l)
 | [],l,h=>by cases l with
  | nil=>exact Pw.nil
  | cons a l=>have:=h.1;simp at this
 | cs::k,l,h=>by cases l with
  | nil=>have:=h.1;simp at this
  | cons a l=>
   obtain⟨D,G⟩:=zF7 h;exact Pw.append D (zK0 en k l G)
theorem zZG {K O:Type} {R:Nat->K->O->Prop} (n:Nat) (h:∀i,i<n->∃a b,R i a b):∃(as:List K) (bs:List O),as.length=n/\bs.length=n/\∀i a b,as[i]? =some a->bs[i]? =some b->R i a b:=by
 induction n with
 | zero=>exact⟨[],[],rfl,rfl,λi a b h=>by simp at h⟩
 | succ n Y=>
  obtain⟨as,bs,D,H,T⟩:=Y λi hi=>h i (by omega);obtain⟨a,b,G⟩:=h n (by omega);refine⟨as++ [a],bs++ [b],by simp[D],by simp[H],λi x y k z=>?_⟩;by_cases hi:i<n
  ·rw[d5 (by omega)] at k z;exact T i x y k z
  ·have:i=n:=by
    have:=(c9.1 k).1;simp[D] at this;omega
   subst this;rw[dW (by omega),D] at k;rw[dW (by omega),H] at z;simp at k z;subst k;subst z;exact G
theorem zZH {O:Type} {k:List (List O)} {n:Nat} (h:∀cs∈k,cs.length=n) {j:Nat} {x: O} (z:k.flatten[j]? =some x):∃cs,k[j/n]? =some cs/\cs[j%n]? =some x/\0<n:=by
 induction k generalizing j with
 | nil=>simp at z
 | cons cs k ih=>
  have Z:=h cs (by simp);rw[gJ] at z;by_cases G:j<cs.length;rw[d5 G] at z;have D:0<n:=by omega
  refine⟨cs,?_,?_,D⟩;rw[Nat.div_eq_of_lt (by omega)];rfl;rw[Nat.mod_eq_of_lt (by omega)];exact z;rw[dW (by omega)] at z;obtain⟨T,H,K,D⟩:=ih (λc Y=>h c (by simp[Y])) z;rw[Z] at H K;have e:j=(j-n)+n:=by omega
  refine⟨T,?_,?_,D⟩;rw[e,Nat.add_div_right _ D];simpa using H;rw[e,Nat.add_mod_right];exact K
theorem uJ {e:TypeId} {α:Type} {en:En α} {ok: α->Prop} (ht:P.underlying t=some (.slice e)) (hc:P.cellsOf e=en.size) (hp:0<en.size) (he:zEP P e en ok):
  zEP P t (eL en) (λl=>l.length<=9223372036854775807/\∀x∈l,ok x):=by
 intro H enc w ay aw az fuel cs x h;rcases DataW.trod_slice ht h with ⟨rfl,_⟩ | ⟨a,len,aj,T,rest,n,_,rfl,_,hb,hl,hm,ba,ak,_,_⟩
 ·exact⟨[],⟨by simp,by simp⟩,Pw.cons (.nil _ _ _) Pw.nil,by simp[Value.oneCell']⟩
 ·obtain⟨D,l,h1,h2,h3⟩:=zZG (R:=λi (O:List Value) (y: α)=>ok y/\Reps w (zSF w) O (en.cells y)/\(∀c∈O,c.oneCell'=true)/\O.length=en.size/\∀j,j<en.size->w.cell? ((a.add (i*en.size)).add j)=O[j]?) len (λi hi=>by
   have h1:=ak i hi;have h2:T[i]? =some (T[i]'(by omega)):=cV (by omega);rw[h2,Option.bind_eq_some_iff] at h1;obtain⟨O,G,hy⟩:=h1;obtain⟨y,q1,q2,q3⟩:=he _ _ _ _ _ _ _ _ _ hy;rw[hc] at G;obtain⟨_,r1,r2⟩:=World.cells?_some G;exact⟨O,y,q1,q2,q3,r1,r2⟩)
  have Y:∀cs∈D,cs.length=en.size:=λcs G=>by
   obtain⟨i,hi⟩:=List.getElem?_of_mem G;have ab:=(c9.1 hi).1;have:l[i]? =some (l[i]'(by omega)):=cV (by omega);exact(h3 i cs _ hi this).2.2.2.1
  refine⟨l,⟨by unfold maxLen at hm;omega,λy hy=>?_⟩,Pw.cons ?_ Pw.nil,by simp[Value.oneCell']⟩
  ·obtain⟨i,hi⟩:=List.getElem?_of_mem hy
   have ab:=(c9.1 hi).1;have:D[i]? =some (D[i]'(by omega)):=cV (by omega);exact(h3 i _ y this hi).1
  ·show Rep w (zSF w) _ (zN en l)
   by_cases h0:len=0
   ·subst h0
    have:l= []:=cS h2;subst this;exact .nil _ _ _
   ·obtain⟨b,off,aa⟩:=a
    have K:∀(j:Nat) v,D.flatten[j]? =some v->∃i k,j=i*en.size+k/\k<en.size/\w.cell? (((⟨b,off,aa⟩:Addr).add (i*en.size)).add k)=some v:=by
     intro j v hj;obtain⟨cs,q1,q2,_⟩:=zZH Y hj;have ab:=(c9.1 q1).1;have ap:l[j/en.size]? =some (l[j/en.size]'(by omega)):=cV (by omega);have:=(h3 _ cs _ q1 ap).2.2.2.2 (j%en.size) (Nat.mod_lt _ hp);exact⟨j/en.size,j%en.size,(Nat.div_add_mod' j en.size).symm,Nat.mod_lt _ hp,by rw[this];exact q2⟩
    have ac:aa=none:=by
     have aq:D.flatten≠[]:=by
      intro e;have:=congrArg List.length e;cases D with
      | nil=>simp at h1;omega
      | cons c D=>
       have:=Y c (by simp);simp at e;have:=e.1;rw[this] at*
       simp_all
     obtain⟨v,hv⟩:∃v,D.flatten[0]? =some v:=by
      cases hf:D.flatten with
      | nil=>exact absurd hf aq
      | cons v _=>exact⟨v,rfl⟩
     obtain⟨i,k,am,hk,z⟩:=K 0 v hv;have al:i*en.size=0:=by omega
     have ao:k=0:=by omega
     rw[al,ao] at z;simp only[Addr.add,dH,World.cell?] at z;cases aa with
     | none=>rfl
     | some s=>cases hb:w.heap[b]? with
      | none=>simp[hb] at z
      | some o=>cases o<;>simp[hb] at z
    subst ac;have Z:=zK0 (w:=w) (I:=zSF w) en D l ⟨by omega,λj cs y G hy=>(h3 j cs y G hy).2.1⟩;refine .sl b off len aj en.size D.flatten (en.all l) (by omega) hl (by rw[kZ,h2]) Z.1 (λj v hj=>?_) (λv hv=>?_) Z.2
    ·obtain⟨i,k,am,hk,z⟩:=K j v hj
     rw[vU,vU] at z;have e2:off+i*en.size+k=off+j:=by omega
     rw[e2] at z;refine⟨z,?_⟩;show b<w.heap.size;unfold World.cell? at z;cases hb:w.heap[b]? with
     | none=>simp[hb] at z
     | some o=>exact(cU.1 hb).1
    ·obtain⟨cs,G,au⟩:=List.mem_flatten.1 hv
     obtain⟨i,hi⟩:=List.getElem?_of_mem G;have ab:=(c9.1 hi).1;have:l[i]? =some (l[i]'(by omega)):=cV (by omega);exact(h3 i cs _ hi this).2.2.1 v au
theorem kC {O:Array Field} {H:Type} {enc:TypeId×Value->H} {w:World} {D:Nat} {z:Nat->Bool} {G:Bool} {fuel:Nat} {cs:List Value} {x:DataW H×List MemPlace} (ht:P.underlying t=some (.struct O))
  (h:DataW.trod enc P w D z G fuel t cs=some x) {k:Nat} {α:Type} {en:En α} {ok: α->Prop} {T:TypeId} {off:Nat} (Z:(O[k]?).map (λf=>(f.offset,f.type))=some (off,T)) (hc:P.cellsOf T=en.size) (he:zEP P T en ok):
  ∃a,ok a/\Reps w (zSF w) ((cs.drop off).take en.size) (en.cells a)/\∀c∈(cs.drop off).take en.size,c.oneCell'=true:=by
 obtain⟨xs,n,_,_,hl,ab,Y⟩:=DataW.trod_struct ht h;cases K:O[k]? with
 | none=>simp[K] at Z
 | some f=>
  simp[K] at Z;obtain⟨rfl,rfl⟩:=Z;have h1:=Y k f K;have aa:k<xs.length:=by rw[ab];exact(cU.1 K).1
  rw[cV aa,hc] at h1;exact he _ _ _ _ _ _ _ _ _ h1
theorem uY {G:Array Field} {H:Type} {enc:TypeId×Value->H} {w:World} {z:Nat} {k:Nat->Bool} {D:Bool} {fuel:Nat} {cs:List Value} {x:DataW H×List MemPlace} (O:P.underlying t=some (.struct G))
  (h:DataW.trod enc P w z k D fuel t cs=some x):cs.length=P.cellsOf t:=by
 obtain⟨xs,n,_,_,K,_⟩:=DataW.trod_struct O h;exact K
theorem zAY {w:World} {I:Im} {cs:List Value} {off:Nat} (h:cs.length=off):Reps w I (cs.drop off) []/\∀c∈cs.drop off,c.oneCell'=true:=by rw[List.drop_eq_nil_of_le (by omega)];exact⟨Pw.nil,by simp⟩
theorem yG {w:World} {I:Im} {cs:List Value} {off n:Nat} {k z:List DV} (G:Reps w I ((cs.drop off).take n) k) (K:∀c∈(cs.drop off).take n,c.oneCell'=true) (D:Reps w I (cs.drop (off+n)) z/\∀c∈cs.drop (off+n),c.oneCell'=true):Reps w I (cs.drop off) (k++z)/\∀c∈cs.drop off,c.oneCell'=true:=by
 have e:cs.drop off=(cs.drop off).take n++cs.drop (off+n):=by rw[<-List.drop_drop,em]
 rw[e];exact⟨Pw.append G D.1,λc H=>by rcases eN.1 H with h | h;exact K c h;exact D.2 c h⟩
theorem zWO {H:Type} {enc:TypeId×Value->H} {w:World} {D:Nat} {k:Nat->Bool} {K:Bool} {v:Value} {x:DataW H} {ps:List MemPlace} {T:Type} {en:En T} {ok: T->Prop} (he:zEP P t en ok) (h:DataW.Trod enc P w D k K t v x ps)
  (hv:(v.cells= #[v]/\en.size=1/\(∀a,w8 (en.dv a)= [en.dv a]))\/(∃cs,v= .agg cs/\∀a,∃es,en.dv a= .agg es)):∃a,ok a/\Rep w (zSF w) v (en.dv a):=by
 obtain⟨fuel,hf⟩:=h;obtain⟨a,h1,z,O⟩:=he _ _ _ _ _ _ _ _ _ hf;refine⟨a,h1,?_⟩;rcases hv with ⟨Y,e2,Z⟩ | ⟨cs,rfl,e⟩
 ·rw[Y] at z
  simp only[En.cells,Z] at z;exact z.2 0 v (en.dv a) rfl rfl
 ·obtain⟨es,G⟩:=e a
  simp only[En.cells,G,w8,Value.cells] at z O;rw[G];have:=Rep.agg (w:=w) (I:=zSF w) cs.toList es z.1 O z.2
  rwa [Array.toArray_toList] at this
end
end Go.AV


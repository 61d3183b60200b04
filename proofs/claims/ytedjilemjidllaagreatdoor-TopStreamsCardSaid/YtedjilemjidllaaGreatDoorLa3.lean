/- The layer of abstract values: what a temporary holds, said once; every rule of it is proved from the model. Conditions: none. -/
import Derived.Test.YtedjilemjidllaaGreatDoorLa2
import Derived.Maps.RangeRun
import Derived.Sort.Grow
import Derived.Sort.EncStr
import Derived.Lib.SlicesCompact
set_option linter.unusedSimpArgs false
set_option linter.unusedVariables false
set_option linter.unnecessarySimpa false
namespace Go.AV
open Go.RowKit Go.M
variable {n i d k size bytes b off eb n0:Nat} {P:Program} {t e ty kt tt tz:TypeId} {zs vals:List Value} {w:World} {r:Option Nat} {E:Env} {S:AState} {pos:String} {af:Array Edge} {g:Option (Nat×Bool)} {cells:List DV} {x ix y:Operand} {kk:IntKind} {I:Im} {z:Value} {u:DV} {cs rets args:List Cap} {f:FuncId} {T T':List (Nat×Blk)} {keep:List Nat} {a:Int} {xs:List Operand} {ats:Array TypeId}
structure ArTy (P:Program) (t:TypeId) (n es:Nat) (e:TypeId) (zs:List Value):Prop where
 und:P.underlying t=some (.array n e)
 size:∀w,(sizeOf e).run P w= .ok es w
 pos:0<es
 zero:∀w,(zeroValue t).run P w= .ok (.agg zs.toArray) w
 one:∀x∈zs,x.oneCell'=true
def arP (n es:Nat):List (Nat×Nat):=(List.range n).map λi=>(i*es,es)
theorem yOX {es:Nat} {q:Nat×Nat} (h:(arP n es)[i]? =some q):i<n/\q=(i*es,es):=by unfold arP at h;rw[e7] at h;by_cases hi:i<n;simp[hi] at h;exact⟨hi,h.symm⟩;simp[hi] at h
theorem ArTy.of {es:Nat} (H:P.underlying t=some (.array n e)) (G:(P.info? e).map (·.size)=some es) (D:0<es) (O:((P.info? t).bind (·.zero))=some (.agg zs.toArray)) (h:zs.all Value.oneCell'=true):ArTy P t n es e zs:=
 ⟨H,z2U G,D,z2V O,λx K=>eO.1 h x K⟩
theorem zXK {f g:Nat->Option (Nat×Nat)}:∀(vs:List (Nat×Value)) (arr:Array Value),(∀p∈vs,f p.1=g p.1)->Instr.fill f arr vs=Instr.fill g arr vs
 | [],_,_=>rfl
 | (i,v)::vs,arr,h=>by
  simp only[Instr.fill];rw[h (i,v) (by simp)];cases g i with
  | none=>rfl
  | some q=>
   obtain⟨off,size⟩:=q;simp only;split;rfl;exact zXK vs _ (λp D=>h p (by simp[D]))
theorem z6P {places:List (Nat×Nat)}:∀{ds:List (Nat×DV)} {cells D:List DV},zSA places cells ds=some D->∀p∈ds,∃q,places[p.1]? =some q
 | [],_,_,_,p,hp=>by cases hp
 | (i,v)::ds,cells,D,h,p,hp=>by
  simp only[zSA] at h;cases G:places[i]? with
  | none=>rw[G] at h;cases h
  | some q=>
   rw[G] at h;obtain⟨off,size⟩:=q;simp only at h;split at h;rcases eP.1 hp with e | hp
   rw[e];exact⟨_,G⟩;exact z6P h p hp;cases h
theorem zXL {G:Type} {F: G->Option Bool×PUnit->Sem (ForInStep (Option Bool×PUnit))}:∀(D:List G) (cs:List Bool),Pw (λ(f: G) c=> ∀s,(F f s).run P w= .ok (if c then .yield (none,()) else .done (some false,())) w) D cs->
  (forIn D ((none,()):Option Bool×PUnit) F).run P w= .ok (if cs.all id then (none,()) else (some false,())) w
 | [],cs,h=>by cases cs with
  | nil=>simp
  | cons c cs=>have:=h.1;simp at this
 | f::D,cs,h=>by cases cs with
  | nil=>have:=h.1;simp at this
  | cons c cs=>
   obtain⟨H,K⟩:=zLD h;have O:=zXL D cs K;rw[List.forIn_cons];simp only[dP,H,dR];cases c with
   | false=>simp
   | true=>simpa using O
section
theorem zXM {es:Nat} {ps:List (Nat×Operand)} {ds:List (Nat×DV)} (hn:d<E.n) (K:ArTy P t n es e zs) (O:dvP S ps=some ds) (hf:zSA (arP n es) (zs.map DV.v) ds=some cells):
  AOp P r E S ⟨some d,.build t ps.toArray,ty,pos,af,g⟩ d (.d (.agg cells)):=
 ⟨rfl,hn,λS' ha=>zV rfl hn (by simp) λA w I ρ C hs=>by
  have G:dvP S' ps=some ds:=(zPR ha (λp Z=>by simp only[Op.operands];simp;exact⟨p.1,Z⟩)).trans O
  have D:=zPQ hs G;obtain⟨h,h1,h2,h3⟩:=zXH (places:=arP n es) ds (ps.map λp=>(p.1,A.eval p.2)) zs.toArray (zs.map DV.v) cells (by simpa using zOJ w I zs) (by simpa using K.one) D hf;refine⟨.agg h,?_,by have:=Rep.agg (w:=w) (I:=I) h.toList cells h2.1 h3 h2.2;rw[Array.toArray_toList] at this;exact this⟩
  have hz:=K.zero w;have hc:Instr.fill (λi=>some (i*es,es)) zs.toArray (ps.map λp=>(p.1,A.eval p.2))=some h:=by
   rw[<-h1];apply zXK;intro p Z;obtain⟨j,hj,e1⟩:=gK Z;have H:j<ds.length:=by rw[<-D.1];exact hj
   have h4:=D.2 j _ _ (dT hj) (dT H);obtain⟨q,hq⟩:=z6P hf ds[j] (fI H);rw[e1] at h4;rw[h4.1,hq,(yOX hq).2]
  simp only[execOp,Instr.build,fq,dP,hz,dR,eM K.und,K.size w,Value.cells,hc,eQ]⟩
theorem zSD {α:Type} {en:En α} {l:List α} {i:Int} {v: α} (hn:d<E.n) (hT:ArTy P t n 1 e zs) (ho:OneTy P e) (hc:∀v,en.cells v= [en.dv v]) (hx:S.ev x= .d (.agg (en.all l))) (hl:l.length=n) (hi:S.ev ix= .d (.v (.int kk i))) (hv:yO l i=some v):
  AOp P r E S ⟨some d,.index t x ix,ty,pos,af,g⟩ d (.d (en.dv v)):=
 ⟨rfl,hn,λS' ha=>zV rfl hn (by simp) λA w I ρ C hs=>by
  have H:=hs.ev x;rw[(ha.ev (by simp[Op.operands])).trans hx] at H;have h2:=hs.ev ix;rw[(ha.ev (by simp[Op.operands])).trans hi] at h2;have K:=zOS h2;obtain⟨q0,q1,q2,q3⟩:=uT hv;have G:en.size=1:=by rw[<-en.len v,hc];rfl
  generalize hX:A.eval x=vx at H;cases H with
  | agg xs cells aa ak hr=>
   have D:(en.all l).length=l.length:=by rw[vE,G,iR]
   have hg:(en.all l)[i.toNat]? =some (en.dv v):=by
    have:=zV7 (e:=en) q3 0 (by omega);rw[G,iR,gZ,hc] at this;simpa using this
   have Z:i.toNat<xs.length:=by rw[aa,D];exact q2
   have h:xs[i.toNat]? =some xs[i.toNat]:=dT Z;refine⟨xs[i.toNat],?_,hr i.toNat _ _ h hg⟩;have O:0<=i/\i<(n:Int):=⟨q0,by omega⟩;simp only[execOp,hX,K,Instr.index,dP,asIntOf,eQ,dR,eM hT.und,O,and_self,eK,hT.size w,iR];rw[zJ3 ho.agg (a:=xs[i.toNat]) (by simp[h])];rfl⟩
theorem yJ1 {K O:Type} {R: K->O->Prop} {xs:List K} {ys:List O} (h:Pw R xs ys) (a n:Nat):Pw R ((xs.drop a).take n) ((ys.drop a).take n):=by refine⟨by simp[h.1],λj x y D G=>?_⟩;rw[ft] at D G;by_cases H:j<n;simp only[H,eK,fK] at D G;exact h.2 (a+j) x y D G;simp[H] at D
theorem yFZ {α:Type} {en:En α} {l:List α} {i:Int} {v: α} (hn:d<E.n) (hT:ArTy P t n en.size e zs) (ho:AggTy P e en.size) (hc:∀v,en.dv v= .agg (en.cells v)) (hx:S.ev x= .d (.agg (en.all l))) (hl:l.length=n) (hi:S.ev ix= .d (.v (.int kk i))) (hv:yO l i=some v):
  AOp P r E S ⟨some d,.index t x ix,ty,pos,af,g⟩ d (.d (en.dv v)):=
 ⟨rfl,hn,λS' ha=>zV rfl hn (by simp) λA w I ρ C hs=>by
  have G:=hs.ev x;rw[(ha.ev (by simp[Op.operands])).trans hx] at G;have h2:=hs.ev ix;rw[(ha.ev (by simp[Op.operands])).trans hi] at h2;have K:=zOS h2;obtain⟨q0,q1,q2,q3⟩:=uT hv;generalize hX:A.eval x=vx at G;cases G with
  | agg xs cells aa H hr=>
   have D:((en.all l).drop (i.toNat*en.size)).take en.size=en.cells v:=by
    have:=z2Q (e:=en) q3 0 en.size (by omega);rw[gZ,e9,<-en.len v,iD] at this;rw[<-en.len v];exact this
   have h:=yJ1 (R:=Rep w I) ⟨aa,hr⟩ (i.toNat*en.size) en.size;rw[D] at h;have O:(xs.toArray.extract (i.toNat*en.size) (i.toNat*en.size+en.size))=((xs.drop (i.toNat*en.size)).take en.size).toArray:=by
    rw[List.extract_toArray,List.extract_eq_take_drop];congr 2;omega
   refine⟨.agg ((xs.drop (i.toNat*en.size)).take en.size).toArray,?_,?_⟩
   ·have Z:0<=i/\i<(n:Int):=⟨q0,by omega⟩
    simp only[execOp,hX,K,Instr.index,dP,asIntOf,eQ,dR,eM hT.und,Z,and_self,eK,hT.size w,part,ho.agg w,O]
   ·rw[hc]
    exact .agg _ _ h.1 (λy hy=>H y (fW (gA hy))) h.2⟩
theorem yOY {t h:Nat} (H:d<E.n) (O:AggTy P t n) (Z:E.gdt h=some zs) (hl:zs.length=n) (K:zs.all Value.oneCell'=true):
  AOp P r E S ⟨some d,.load t (.global h),ty,pos,af,g⟩ d (.d (.agg (zs.map DV.v))):=
 ⟨rfl,H,λS' ha=>zV rfl H (by simp) λA w I ρ C hs=>by
  have G:=hs.gl h zs Z;refine⟨.agg zs.toArray,?_,.agg _ _ (by simp) (λx hx=>eO.1 K x hx) (zOJ w I zs).2⟩;have D:A.eval (.global h)= .pointer (some ⟨h,0,none⟩):=rfl;simp only[execOp,D,dP];rw[zDN w O h 0 zs hl (λj v hj=>by rw[fM];exact(G j).1.trans hj)]
  rfl⟩
theorem zSE {es:Nat} (h:ArTy P t n es e zs) (H:k<n) (kk:IntKind) (w:World) (b o:Nat):
  (Instr.indexAt t (.pointer (some ⟨b,o,none⟩)) (.int kk (k:Int))).run P w= .ok (.pointer (some ⟨b,o+k*es,none⟩)) w:=by
 have D:(⟨b,o,none⟩:Addr).add (k*es)=⟨b,o+k*es,none⟩:=by
  unfold Addr.add;split
  ·rename_i e;rw[e];rfl
  ·rfl
 have G:0<=(k:Int)/\(k:Int)<(n:Int):=⟨by omega,by omega⟩;simp only[Instr.indexAt,dP,asIntOf,eQ,dR,eM h.und,Instr.sureAddr,G,and_self,eK,h.size w,hP,D]
theorem zVN {es id o:Nat} (O:d<E.n) (hT:ArTy P t n es e zs) (hx:S.ev x= .ptr id o) (hi:S.ev ix= .d (.v (.int kk (k:Int)))) (hk:k<n):
  AOp P r E S ⟨some d,.indexAddr t x ix,ty,pos,af,g⟩ d (.ptr id (o+k*es)):=
 ⟨rfl,O,λS' K=>zV rfl O (by simp) λA w I ρ C Z=>by
  have h:=Z.ev x;rw[(K.ev (by simp[Op.operands])).trans hx] at h;have H:=Z.ev ix;rw[(K.ev (by simp[Op.operands])).trans hi] at H;have D:=zOS H;obtain⟨b,G,hv⟩:=h;refine⟨.pointer (some ⟨b,o+k*es,none⟩),?_,b,G,rfl⟩;simp only[execOp,hv,D,dP,zSE hT hk kk w b o];rfl⟩
theorem yF0 {es:Nat} (Z:d<E.n) (hT:ArTy P t n es e zs) (hx:S.ev x= .d (.pt cells)) (hi:S.ev ix= .d (.v (.int kk (k:Int)))) (hk:k<n):
  AOp P r E S ⟨some d,.indexAddr t x ix,ty,pos,af,g⟩ d (.ip cells (0+k*es)):=
 ⟨rfl,Z,λS' O=>zV rfl Z (by simp) λA w I ρ C hs=>by
  have h:=hs.ev x;rw[(O.ev (by simp[Op.operands])).trans hx] at h;have K:=hs.ev ix;rw[(O.ev (by simp[Op.operands])).trans hi] at K;have D:=zOS K;obtain⟨b,H,xs,hv,hr,h1,G⟩:=yC2 (ρ:=ρ) h;refine⟨.pointer (some ⟨b,H+(0+k*es),none⟩),?_,b,H,xs,rfl,hr,h1,G⟩;simp only[execOp,hv,D,dP,zSE hT hk kk w b (H+0),hY];rfl⟩
end
theorem EqTy.ofA {h:Type} [DecidableEq h] {en:En h} {vals: h->List Value} {cs: h->h->List Bool} (Z:ArTy P t n 1 e zs) (ho:OneTy P e) (hg:P.eqGuardType P.depth t=false)
  (hv:∀a,en.dv a= .agg ((vals a).map DV.v)) (he:∀a b w,Pw (λ(i:Nat) c=> ∃x y,(vals a)[i]? =some x/\(vals b)[i]? =some y/\(Op.equalIn (9998+1) e x y).run P w= .ok c w) (List.range n) (cs a b)) (hc:∀a b,(cs a b).all id=decide (a=b)):EqTy P t en where
 eq:=λa b va vb w I K O=>by
  rw[hv] at K O;rw[zL7 K,zL7 O];refine⟨⟨_,_,rfl,rfl⟩,?_⟩;show (Op.equalIn (9999+1) t _ _).run P w=_;rw[Op.equalIn];simp only[dP,eM Z.und,dR,Z.size w];rw[Std.Legacy.Range.forIn_eq_forIn_range'];have ai:List.range' 0 ((n-0+1-1)/1) 1=List.range n:=by simp[List.range_eq_range']
  have G:(Std.Legacy.Range.size [0:n])=n:=by simp[Std.Legacy.Range.size]
  simp only[G];rw[<-List.range_eq_range',<-hc a b];rw[zXL (P:=P) (w:=w) (List.range n) (cs a b) ⟨(he a b w).1,λj f c hf D s=>?_⟩]
  ·simp only[dR]
   cases (cs a b).all id<;>simp
  ·obtain⟨x,y,q3,q4,q5⟩:=(he a b w).2 j f c hf D
   simp only[dP,iR,zJ3 ho.agg (xs:=(vals a).toArray) (a:=x) (by simpa using q3),zJ3 ho.agg (xs:=(vals b).toArray) (a:=y) (by simpa using q4),dR];have H:(Op.equalIn 9999 e x y).run P w= .ok c w:=q5;rw[H];cases c<;>simp
 guard:=λop x y xs ys w=>by
  have hp:(program).run P w= .ok P w:=by rfl
  cases op<;>simp[eqGuard,hp,hg]
theorem zU8 {G:Type} [DecidableEq G] {kv: G->Value} (H:∀a b,(Op.equal kt (kv a) (kv b)).run P w= .ok (decide (a=b)) w) (a: G):∀(es:List MapEntry) (D:List G) (i:Nat),Pw (λ(x:MapEntry) k=>x.key=kv k) es D->
  (Instr.findAsking kt (kv a) es i).run P w= .ok (findAt a D es i) w
 | [],D,i,h=>by
  cases D with
  | nil=>simp[Instr.findAsking,findAt]
  | cons k D=>have:=h.1;simp at this
 | x::es,D,i,h=>by
  cases D with
  | nil=>have:=h.1;simp at this
  | cons k D=>
   obtain⟨K,O⟩:=zLD h;have Z:=zU8 H a es D (i+1) O;simp only[Instr.findAsking,dP,K,H,dR,findAt];by_cases e:a=k
   ·simp[e]
   ·simp[e,Z]
theorem z6Q {td:TypeDesc} {k:Value} {es:List MapEntry} (h:∀x∈es,Instr.sameNow td k x.key=none) (i:Nat):Instr.findNow td k es i=if es= [] then some none else none:=by
 cases es with
 | nil=>rfl
 | cons x es=>simp[Instr.findNow,h x (by simp)]
theorem yAD {G:Type} [DecidableEq G] {en:En G} {kv: G->Value} {vals: G->List Value} {td:TypeDesc} (hu:P.underlying kt=some td) (hT:EqTy P kt en) (hv:∀a,en.dv a= .agg ((vals a).map DV.v)) (D:∀a,kv a= .agg (vals a).toArray) (O:∀a,(vals a).all Value.oneCell'=true)
  (hs:∀a,(vals a).all (λx=>Instr.sameBits 9999 x x)=true) (hc:∀a b w,(Instr.checkKey b 10000 kt (kv a)).run P w= .ok () w):KeyTy P kt kv where
 same:=λa=>by
  rw[D];have:∀(l:List Value),l.all (λx=>Instr.sameBits 9999 x x)=true->(l.zip l).all (λ(x,y)=>Instr.sameBits 9999 x y)=true:=by
   intro l
   induction l with
   | nil=>intro _;rfl
   | cons x l ih=>intro h;simp only[iK,eC] at h;simp only[List.zip_cons_cons,iK,eC];exact⟨h.1,ih h.2⟩
  show Instr.sameBits (9999+1) _ _=true;rw[Instr.sameBits];simp[this _ (hs a)]
 check:=hc
 find:=λa K es w h=>by
  have H:∀a b,(Op.equal kt (kv a) (kv b)).run P w= .ok (decide (a=b)) w:=by
   intro a b;have ra:Rep w (λ_ _=>False) (kv a) (en.dv a):=by rw[D,hv];exact z6J _ (O a)
   have rb:Rep w (λ_ _=>False) (kv b) (en.dv b):=by rw[D,hv];exact z6J _ (O b)
   exact(hT.eq a b _ _ w _ ra rb).2
  have hn:=z6Q (td:=td) (k:=kv a) (es:=es) (λx _=>by rw[D];cases td<;>rfl) 0
  simp only[Instr.findKey,dP,eM hu,dR,hn];by_cases Z:es= []
  ·subst Z
   cases K with
   | nil=>simp[findAt]
   | cons k K=>have:=h.1;simp at this
  ·simp only[Z,eE]
   exact zU8 H a es K 0 h
section
theorem yC3 {ρ:Nat->Value} {M:Nat->Prop} {id e:Nat} (h:BlkOk w I ρ M id (.win e size k cells)) (Z:cells.length=n*size):
  0<size/\∃A c xs,ρ id= .slice A n c/\n<=c/\Reps w I xs cells/\(∀x∈xs,x.oneCell'=true)/\(0<n->∃b off arr,A=some ⟨b,off,none⟩/\M b/\w.heap[b]? =some (.cells arr e (0,0))/\off+n*size<=arr.size/\(∀(j:Nat) x,xs[j]? =some x->arr[off+j]? =some x)/\(∀j,off<=j->j<off+n*size->I b j->j<off+k*size)):=by
 obtain⟨A,n',c,xs,hv,G,H,D,hr,K,O⟩:=h;obtain rfl:=zJV D Z H;refine⟨H,A,c,xs,hv,G,hr,K,λh0=>?_⟩;rcases O with ⟨_,h⟩ | h
 ·omega
 ·exact h
section win
variable {t e:Nat} {id:Nat}
theorem yF1 (K:d<E.n) (Z:SlTy P t e size bytes z) (hx:S.ev x= .row id) (hb:S.blk id= .win e size k cells) (hl:cells.length=n*size):
  AOp P r E S ⟨some d,.call {callee:= .builtin .len,args:= #[x],argTypes:= #[t]},ty,pos,af,g⟩ d (.d (.v (.int .i64 n))):=
 ⟨rfl,K,λS' G=>yD rfl K (by simp) λA w I ρ C O=>by
  have h:=O.ev x;rw[(G.ev (by simp[Op.operands,Call.operands])).trans hx] at h;have hv:A.eval x= ρ id:=h;have H:=O.blks id;rw[(G.blk id).trans hb] at H;obtain⟨_,A',c,xs,D,_⟩:=yC3 H hl;exact zR4 w Z.und _ _ _ x A (hv.trans D) _ rfl⟩
end win
end
def mpD {h D:Type} (kv: h->Value) (ev:En D) (m:List (h×D)):DV:= .mp (m.map λp=>kv p.1) (m.map λp=>ev.dv p.2)
theorem yJ2 {v:Value} {κ ν:Type} {kv: κ->Value} {ev:En ν} {m:List (κ×ν)} (h:Rep w I v (mpD kv ev m)):
  ∃b G D,v= .map (some b)/\w.heap[b]? =some (.map G D)/\Pw (λ(x:MapEntry) (y:Value×DV)=>x.key=y.1/\Rep w I x.val y.2) G.toList (jF kv ev m):=by
 unfold mpD at h;generalize hk:(m.map λp=>kv p.1)=ks at h;generalize O:(m.map λp=>ev.dv p.2)=vs at h;cases h with
 | mp b D G vs hh hI hx hr hN=>
  refine⟨b,G,D,rfl,hh,?_,λj x y Z H=>?_⟩
  ·have:=congrArg List.length hk;simp at this;simp[jF,this]
  ·simp only[jF,e7] at H
   cases K:m[j]? with
   | none=>rw[K] at H;cases H
   | some p=>
    rw[K] at H;cases H;refine⟨?_,hr j x _ Z (by rw[<-O];simp[K])⟩
    have:=congrArg (λl=>l[j]?) hk;simp only[e7,K,Z,gJ,gD] at this;exact this.symm
theorem yR7 {D:Nat} {h:Array MapEntry} {κ ν:Type} {kv: κ->Value} {ev:En ν} {m:List (κ×ν)} (hh:w.heap[b]? =some (.map h D)) (hI:I b 0)
    (K:Pw (λ(x:MapEntry) (y:Value×DV)=>x.key=y.1/\Rep w I x.val y.2) h.toList (jF kv ev m)) (hN:Born h D):Rep w I (.map (some b)) (mpD kv ev m):=by
  have hk:h.toList.map (·.key)=m.map λp=>kv p.1:=by
    apply hJ;intro j;simp only[e7];cases O:h.toList[j]? with
    | none=>
      have Z:h.toList.length<=j:=iP.1 O;have h2:m.length<=j:=by have:=K.1;simp only[jF,fO] at this;omega
      simp[iP.2 h2]
    | some x=>
      have Z:j<m.length:=by have:=(dV.1 O).1;have h3:=K.1;simp only[jF,fO] at h3;omega
      have G:m[j]? =some m[j]:=dT Z;have:=(K.2 j x (kv m[j].1,ev.dv m[j].2) O (by simp[jF,G])).1;simp[G,this]
  unfold mpD;rw[<-hk];refine .mp b D h _ hh hI (by have:=K.1;simpa[jF] using this) (λj x dd hj H=>?_) hN
  rw[e7] at H;cases G:m[j]? with
  | none=>rw[G] at H;cases H
  | some p=>rw[G] at H;cases H;exact(K.2 j x (kv p.1,ev.dv p.2) hj (by simp[jF,G])).2
theorem yAE (h:u= .agg (vals.map DV.v)):∀(w:World) (I:Im) v,Rep w I v u->v= .agg vals.toArray:=by
 subst h;intro w I v h;cases h with
 | agg xs cells K G O=>
  congr 2;apply hJ;intro j;cases D:xs[j]? with
  | none=>
   have G:xs.length<=j:=iP.1 D;rw[fO] at K;exact(iP.2 (by omega)).symm
  | some x=>
   have G:j<vals.length:=by have:=(dV.1 D).1;rw[fO] at K;omega
   have H:vals[j]? =some vals[j]:=dT G;rw[H,zOS (O j x (.v vals[j]) D (by simp[H]))]
section
theorem zL8 {id:Nat} (D:d<E.n) (Z:S.ev x= .ptr id off):AOp P r E S ⟨some d,.nilCheck x,ty,pos,af,g⟩ d (.ptr id off):=
 ⟨rfl,D,λS' K=>zV rfl D (by simp) λA w I ρ C O=>by
  have h:=O.ev x;rw[(K.ev (by simp[Op.operands])).trans Z] at h;obtain⟨b,G,H⟩:=h;exact⟨_,by simp[execOp,H],b,G,rfl⟩⟩
theorem z6R (H:d<E.n) (D:S.ev x= .d (.pt cells)):AOp P r E S ⟨some d,.nilCheck x,ty,pos,af,g⟩ d (.d (.pt cells)):=
 ⟨rfl,H,λS' O=>zV rfl H (by simp) λA w I ρ C hs=>by
  have h:=hs.ev x;rw[(O.ev (by simp[Op.operands])).trans D] at h;have G:Rep w I (A.eval x) (.pt cells):=h;generalize hv:A.eval x=v at G;cases G with
  | pt b off xs cells D Z K hr=>exact⟨_,by simp[execOp,hv],.pt b off xs cells D Z K hr⟩⟩
theorem z1A {f:Nat->Option (Nat×Nat)}:∀(vs:List (Nat×Value)) (arr D:Array Value) (i:Nat) (v:Value) (off:Nat),Instr.fill f arr vs=some D->f i=some (off,1)->v.oneCell'=true->off<D.size->Instr.fill f arr (vs++ [(i,v)])=some (D.setIfInBounds off v)
 | [],arr,D,i,v,off,h,hi,H,G=>by
  simp only[Instr.fill,gD] at h;subst h;simp only[eN,Instr.fill,hi,zHY H];have:¬(off+1 > arr.size):=by omega
  simp[this]
 | (j,u)::vs,arr,D,i,v,off,h,hi,H,G=>by
  simp only[Instr.fill,fV] at h ⊢;cases K:f j with
  | none=>rw[K] at h;cases h
  | some q=>
   obtain⟨o,s⟩:=q;rw[K] at h;simp only at h ⊢;split at h;cases h;rename_i O;rw[dU O];exact z1A vs _ _ i v off h hi H G
theorem yJ3 {places:List (Nat×Nat)} (ps:List (Nat×Operand)) (i:Nat) (x:Operand) {ds:List (Nat×DV)} {id:Nat} (hn:d<E.n) (hT:StTy P t places zs) (ag:dvP S ps=some ds) (hf:zSA places (zs.map DV.v) ds=some cells)
  (hx:S.ev x= .row id) (hr:zQO S (.row id)=true) (hi:places[i]? =some (off,1)) (ai:Nat.ble (off+1) cells.length=true):
  AOp P r E S ⟨some d,.build t (ps++ [(i,x)]).toArray,ty,pos,af,g⟩ d (.aggc ((cells.map Cap.d).set off (.row id))):=
 ⟨rfl,hn,λS' ha=>zV rfl hn (by simp) λA w I ρ C hs=>by
  obtain⟨aa,hu,hp⟩:=hT.und;have Z:off<cells.length:=hZ ai;have O:dvP S' ps=some ds:=(zPR ha (λp hp=>by simp only[Op.operands];simp;exact .inl ⟨p.1,hp⟩)).trans ag
  obtain⟨D,h1,h2,h3⟩:=zXH (places:=places) ds (ps.map λp=>(p.1,A.eval p.2)) zs.toArray (zs.map DV.v) cells (by simpa using zOJ w I zs) (by simpa using hT.one) (zPQ hs O) hf;have hv:=hs.ev x;rw[(ha.ev (x:=x) (by simp[Op.operands])).trans hx] at hv;have G:(A.eval x).oneCell'=true:=zTQ hs.blks hv rfl (λi' e=>by
   cases e;have:=zJW hr id rfl
   rwa [ha.blk])
  have am:off<D.size:=by rw[<-fB,h2.1];exact Z
  have ah:=z1A (f:=λi=>places[i]?) (ps.map λp=>(p.1,A.eval p.2)) zs.toArray D i (A.eval x) off h1 hi G am;refine⟨.agg (D.toList.set off (A.eval x)).toArray,?_,_,rfl,?_,?_⟩
  ·have hz:=hT.zero w
   simp only[execOp,Instr.build,fq,dP,hz,dR,eM hu,hp w,Value.cells,fJ,ja,fp,gE,ah,eQ];congr 2;congr 1;rw[<-Array.toList_inj];simp
  ·have ak:Pw (HoldsC w I ρ) D.toList (cells.map Cap.d):=by
    refine⟨by rw[h2.1,fO],λj u c hu K=>?_⟩;rw[e7] at K;cases H:cells[j]? with
    | none=>rw[H] at K;cases K
    | some q=>rw[H] at K;cases K;exact h2.2 j u q hu H
   exact ak.set (y:=Cap.row id) hv off
  ·intro y hy
   rcases iO hy with h | h
   ·exact h3 y h
   ·rw[h];exact G⟩
theorem zRC {D:TypeId} (hn:d<E.n) (hx:S.ev x= .aggc cs) (K:E.nm d=none):
  jI P r E ⟨some d,.box D x,ty,pos,af,g⟩ S (((S.kill d).setBlk d (.box D ((cs.map Cap.av).map (zFQ d)))).put d (.ptr d 0)):=
 vR (by simp) λA w I ρ C hs=>by
  have h:=hs.ev x;rw[hx] at h;obtain⟨xs,hv,Z,h1⟩:=h;have O:Pw (Holds w I ρ) xs (cs.map Cap.av):=by
   refine⟨by rw[Z.1,fO],λj u c hu H=>?_⟩;rw[e7] at H;cases G:cs[j]? with
   | none=>rw[G] at H;cases H
   | some q=>rw[G] at H;cases H;exact Cap.holds (Z.2 j u q hu G)
  have hb:=hs.newBox (id:=d) (e:=D) (arr:=xs.toArray) (cells:=cs.map Cap.av) (by simpa using O) (by simpa using h1) K;refine⟨.pointer (some ⟨w.heap.size,0,none⟩),w.alloc (.cells xs.toArray D),?_,I,_,C,hb.put hn (show Holds _ _ _ (.pointer (some ⟨w.heap.size,0,none⟩)) (AV.ptr d 0) from ⟨w.heap.size,by simp[upd,blockOf],rfl⟩)⟩;simp only[execOp,hv,Instr.box,newVar,Value.cells];simp[newRow]
section
variable {κ ν:Type} [DecidableEq κ] {kv: κ->Value} {ev:En ν} {mp:List (κ×ν)} {k: κ} {vt:TypeId} {zv:Value} {zero: ν} {km kk:Operand} {id:Nat} {uk:DV}
theorem yF2 (hn:d<E.n) (hT:MapTy P t kt vt zv) (hK:KeyTy P kt kv) (hm:S.ev km= .row id) (hb:S.blk id= .map (jF kv ev mp)) (hk:S.ev kk= .d uk) (hu:∀(w:World) (I:Im) v,Rep w I v uk->v=kv k) (hz:∀w I,Rep w I zv (ev.dv zero)):
  AOp P r E S ⟨some d,.lookup t km kk false,ty,pos,af,g⟩ d (.d (ev.dv (wR mp k zero))):=
 ⟨rfl,hn,λS' H=>zV rfl hn (by simp) λA w I ρ C O=>by
  have h:=O.blks id;rw[(H.blk id).trans hb] at h;obtain⟨b,ac,G,ab,_,hh,hp,_⟩:=h;have hv:=O.ev km;rw[(H.ev (by simp[Op.operands])).trans hm] at hv;have Z:A.eval km= .map (some b):=Eq.trans hv ab;have D:=O.ev kk;rw[(H.ev (x:=kk) (by simp[Op.operands])).trans hk] at D;have K:=hu _ _ _ D;have aa:=hz w I;obtain⟨v,h1,h2⟩:=zJ2 (w:=w) (I:=I) hT hK hh hp aa false;refine⟨v,?_,h2⟩;simp only[execOp,Z,K,dP,h1];rfl⟩
theorem zXN (hn:d<E.n) (hT:MapTy P t kt vt zv) (hK:KeyTy P kt kv) (hm:S.ev km= .row id) (hb:S.blk id= .map (jF kv ev mp)) (hk:S.ev kk= .d uk) (hu:∀(w:World) (I:Im) v,Rep w I v uk->v=kv k) (hz:∀w I,Rep w I zv (ev.dv zero)):
  AOp P r E S ⟨some d,.lookup t km kk true,ty,pos,af,g⟩ d (.tup [ev.dv (wR mp k zero),db (zB0 mp k)]):=
 ⟨rfl,hn,λS' H=>zV rfl hn (by simp) λA w I ρ C O=>by
  have h:=O.blks id;rw[(H.blk id).trans hb] at h;obtain⟨b,ac,G,ab,_,hh,hp,_⟩:=h;have hv:=O.ev km;rw[(H.ev (by simp[Op.operands])).trans hm] at hv;have Z:A.eval km= .map (some b):=Eq.trans hv ab;have D:=O.ev kk;rw[(H.ev (x:=kk) (by simp[Op.operands])).trans hk] at D;have K:=hu _ _ _ D;have aa:=hz w I;obtain⟨v,h1,h2⟩:=zJ2 (w:=w) (I:=I) hT hK hh hp aa true;refine⟨.tuple #[v,.bool (zB0 mp k)],?_,[v,.bool (zB0 mp k)],rfl,Pw.cons h2 (Pw.cons (.v _) Pw.nil)⟩;simp only[execOp,Z,K,dP,h1];rfl⟩
theorem yAF (hn:d<E.n) (hT:MapTy P t kt vt zv) (hK:KeyTy P kt kv) (hm:S.ev km= .d (mpD kv ev mp)) (hk:S.ev kk= .d uk) (hu:∀(w:World) (I:Im) v,Rep w I v uk->v=kv k) (hz:∀w I,Rep w I zv (ev.dv zero)):
  AOp P r E S ⟨some d,.lookup t km kk true,ty,pos,af,g⟩ d (.tup [ev.dv (wR mp k zero),db (zB0 mp k)]):=
 ⟨rfl,hn,λS' Z=>zV rfl hn (by simp) λA w I ρ C hs=>by
  have hv:=hs.ev km;rw[(Z.ev (by simp[Op.operands])).trans hm] at hv;obtain⟨b,O,D,H,hh,hp⟩:=yJ2 hv;have h:=hs.ev kk;rw[(Z.ev (x:=kk) (by simp[Op.operands])).trans hk] at h;have G:=hu _ _ _ h;have K:=hz w I;obtain⟨v,h1,h2⟩:=zJ2 (w:=w) (I:=I) hT hK hh hp K true;refine⟨.tuple #[v,.bool (zB0 mp k)],?_,[v,.bool (zB0 mp k)],rfl,Pw.cons h2 (Pw.cons (.v _) Pw.nil)⟩;simp only[execOp,H,G,dP,h1];rfl⟩
theorem zM7 {v: ν} (hT:MapTy P t kt vt zv) (hK:KeyTy P kt kv) (hm:S.ev km= .row id) (hb:S.blk id= .map (jF kv ev mp)) (hk:S.ev kk= .d uk) (aq:∀(w:World) (I:Im) v,Rep w I v uk->v=kv k) (hx:S.ev x= .d u) (hu:u=ev.dv v) (hE:E.wrB=true):
    jI P r E ⟨none,.mapUpdate t km kk x,ty,pos,af,g⟩ S (S.setBlk id (.map (jF kv ev (vS mp k v)))):=
  zGS rfl (by simp) λA w I ρ C hs=>by
    subst hu;have ad:=hs.blks id;rw[hb] at ad;obtain⟨b,H,K,ab,hM,hh,hp,hI,hN⟩:=ad;have hv:=hs.ev km;rw[hm] at hv;have ak:A.eval km= .map (some b):=Eq.trans hv ab;have ah:=hs.ev kk;rw[hk] at ah;have ai:=aq _ _ _ ah;have aa:=hs.ev x;rw[hx] at aa;have ar:=(dX.1 hh).1;have hf:=hK.find k _ H.toList w (z2T hp);have Z:(getObj b).run P w= .ok (.map H K) w:=by simp[getObj,Sem.run,hh]
    have ac:∀(G:Array MapEntry) (D:Nat),Pw (λ(x:MapEntry) (y:Value×DV)=>x.key=y.1/\Rep w I x.val y.2) G.toList (jF kv ev (vS mp k v))->Born G D->
        Sat E (S.setBlk id (.map (jF kv ev (vS mp k v)))) A {w with heap:=w.heap.setIfInBounds b (.map G D)}:=by
      intro G D aw ap;have hg:w.grownBy {w with heap:=w.heap.setIfInBounds b (.map G D)} (some b):=
        ⟨rfl,rfl,rfl,by simp,λq _ hq=>eX (λe=>hq (by rw[e]))⟩
      have O:Same I w {w with heap:=w.heap.setIfInBounds b (.map G D)}:=λb' j hi=>by
        have:b'≠b:=λe=>hI j (e▸hi);exact KeepB.of (eX (λe=>this e.symm))
      refine⟨I,ρ,C,hs.modify hg (by rw[hb];simp) (by rw[ab];rfl) O ⟨b,G,D,ab,hM,by simp[ar],aw.imp λ_ _ h=>⟨h.1,h.2.mono O (λ_ _ h=>h)⟩,hI,ap⟩ hE⟩
    rcases zM2 (a:=k) (i:=0) hp with ⟨e1,e2⟩ | ⟨v0,j,x0,e1,e2,e3,⟨q,q1,q2,q3⟩,e4⟩
    · rw[e2] at hf
      refine⟨_,?_,ac (H.push {key:=kv k,val:=A.eval x,born:=K}) (K+1) ?_ hN.push⟩
      · simp only[execOp,ak,ai,Instr.mapUpdate,dP,eM hT.und,dR,Z,hK.check,hf,zM3 hh,eQ]
      · rw[z6K e1]
        simp only[jF,ja,Array.toList_push,fp,gE];exact Pw.append hp (Pw.cons ⟨rfl,aa⟩ Pw.nil)
    · rw[e2] at hf
      have hq:H[0+j]? =some q:=by rw[fM];simpa using q1
      have ag:(Instr.keyThatStays (((H[0+j]?).map (·.key)).getD (kv k)) (kv k)).run P w= .ok (kv k) w:=by
        rw[hq];simp only[gJ,iU,q2,Instr.keyThatStays,hK.same,eK,eQ]
      refine⟨_,?_,ac (H.modify (0+j) λe=>{e with key:=kv k,val:=A.eval x}) K ?_ (hN.modify λ_=>rfl)⟩
      · simp only[execOp,ak,ai,Instr.mapUpdate,dP,eM hT.und,dR,Z,hK.check,hf,ag,zM3 hh,eQ]
      · rw[fM,Array.toList_modify]
        exact e4 (A.eval x) v _ (λ_=> .inr rfl) (λ_=>rfl) aa
end
theorem SatAt.giveUp {a:Act} {ρ:Nat->Value} {C:Nat->Prop} (h:SatAt E S a w I ρ C) {id:Nat} (K:S.blk id≠ .none) (H:blockOf (ρ id)=some b):
  SatAt E (S.setBlk id .none) a w (λD j=>I D j\/D=b) ρ C:=by
 have Z:=h.blt id b K H;have G:∀D j,I D j->(λD (j:Nat)=>I D j\/D=b) D j:=λ_ _ h=> .inl h;have key:∀i,(S.setBlk id .none).blk i≠ .none->S.blk i≠ .none/\i≠id:=by
  intro i hi;rw[yC] at hi;by_cases e:id=i
  ·subst e;simp at hi
  ·simp only[e,eE] at hi;exact⟨hi,λe'=>e e'.symm⟩
 refine⟨λu=>(h.tmps u).mono (jJ I w) G,λi=>?_,λi i' D ac hi ab=>h.dist i i' D ac (key i hi).1 (key i' ab).1,h.frame,λb j hi=>G b j (h.sub b j hi),λD j hi=>?_,h.size,h.defers,λD j hi=>?_,λi D hi aa=>h.cB i D (key i hi).1 aa,λi v hv hi=>h.nm i v hv (key i hi).1⟩
 ·by_cases e:id=i
  ·subst e;rw[yC];simp only[eK];trivial
  ·rw[yC,dU e]
   refine(h.blks i).widenI G λb2 j hx O hi=>?_;rcases hi with hi | hi
   ·exact hi
   ·subst hi;exact absurd O (h.dist id i b2 e K hx H)
 ·rcases hi with hi | hi
  ·exact h.old D j hi
  ·subst hi;exact⟨Z.2,.inr Z.1⟩
 ·rcases hi with hi | hi
  ·exact h.cI D j hi
  ·subst hi;exact h.cB id D K H
theorem z21 {κ ν:Type} {kv: κ->Value} {ev:En ν} {m:List (κ×ν)} {bid D:Nat} {cells:List AV} (hb:S.blk bid= .box eb cells) (hc:cells[off]? =some (.row D)) (H:S.blk D= .map (jF kv ev m)):
  zDZ E S ((S.setBlk D .none).setBlk bid (.box eb (cells.set off (.d (mpD kv ev m))))):=by
 rintro a w ⟨I,ρ,C,h⟩
 have O:D≠bid:=by rintro rfl;rw[hb] at H;cases H
 have hk:=h.blks D;rw[H] at hk;obtain⟨b,ab,K,G,hM,hh,hp,hI,hN⟩:=hk;have h2:=h.giveUp (id:=D) (b:=b) (by rw[H];simp) (by rw[G];rfl)
 refine⟨_,ρ,C,h2.rebox (eb:=eb) (cells:=cells) (by rw[yC,dU O];exact hb) λxs hx=>hx.set_right hc λx Z=>?_⟩
 have aa:x= ρ D:=Z;rw[aa,G];exact yR7 hh (.inr rfl) (hp.imp λ_ _ q=>⟨q.1,q.2.mono (jJ I w) λ_ _ h=> .inl h⟩) hN
end
section
section win
variable {t e:Nat} {id:Nat}
theorem z6S {i:Int} {j:Nat} (hn:d<E.n) (hT:SlTy P t e size bytes z) (hx:S.ev x= .row id) (hb:S.blk id= .win e size k cells) (hi:S.ev ix= .d (.v (.int kk i))) (hj:i=(j:Int)) (hl:cells.length=n*size) (K:j<n):
  AOp P r E S ⟨some d,.indexAddr t x ix,ty,pos,af,g⟩ d (.wp id (j*size)):=
 ⟨rfl,hn,λS' G=>zV rfl hn (by simp) λA w I ρ C O=>by
  subst hj;have Z:=O.ev x;rw[(G.ev (x:=x) (by simp[Op.operands])).trans hx] at Z;have hv:A.eval x= ρ id:=Z;have hk:=O.blks id;rw[(G.blk id).trans hb] at hk;obtain⟨_,A',c,xs,D,ab,_,_,h⟩:=yC3 hk hl;obtain⟨b,off,arr,rfl,_⟩:=h (by omega);have H:=O.val ((G.ev (x:=ix) (by simp[Op.operands])).trans hi);refine⟨_,?_,b,off,n,c,D,rfl⟩;simp only[execOp,hv,D,H,dP,zK9 w hT.und (hT.size w) b off n c kk j K];rfl⟩
theorem yF3 {y:DV} (hn:d<E.n) (hT:OneTy P tt) (hx:S.ev x= .wp id off) (hb:S.blk id= .win e size k cells) (hc:cells[off]? =some y):
  AOp P r E S ⟨some d,.load tt x,ty,pos,af,g⟩ d (.d y):=
 ⟨rfl,hn,λS' ha=>zV rfl hn (by simp) λA w I ρ C hs=>by
  have h1:=hs.ev x;rw[(ha.ev (x:=x) (by simp[Op.operands])).trans hx] at h1;obtain⟨b,o,n0,c0,Z,hv⟩:=h1;have hk:=hs.blks id;rw[(ha.blk id).trans hb] at hk;obtain⟨A',n',c,xs,h,ao,hp,an,hr,ak,G⟩:=hk;rw[Z] at h;cases h;have O:off<xs.length:=by rw[hr.1];exact(dV.1 hc).1
  have H:=dT O;rcases G with ⟨G,_⟩ | ⟨b',aj,arr,G,hM,hh,hf,K,hI⟩
  ·cases G
  ·cases G
   refine⟨xs[off],?_,hr.2 off _ y H hc⟩;have D:w.cell? ⟨b,o+off,none⟩=some xs[off]:=by rw[gN w b (o+off) arr e (0,0) hh];exact K off _ H
   simp only[execOp,hv,dP,zIK w hT b _ _ D];rfl⟩
theorem SatAt.spliceW {A:Act} {ρ:Nat->Value} {C:Nat->Prop} (hs:SatAt E S A w I ρ C) {o:Nat} {news:List DV} {ys:List Value} {c0:Nat} (hb:S.blk id= .win e size k cells) (ak: ρ id= .slice (some ⟨b,o,none⟩) n0 c0)
  (hk:k*size<=off) (ay:off+news.length<=cells.length) (az:0<news.length) (ad:Reps w I ys news) (O:∀u∈ys,u.oneCell'=true) (hE:E.wrB=true):
  ∃w',(storeCells ⟨b,o+off,none⟩ ys).run P w= .ok () w'/\SatAt E (S.setBlk id (.win e size k (spl cells off news))) A w' I ρ C:=by
 have aa:=hs.blks id;rw[hb] at aa;obtain⟨A',n',c,xs,H,ap,hp,ao,hr,K,Z⟩:=aa;have al:=H;rw[ak] at H;cases H;have aq:ys.length=news.length:=ad.1;rcases Z with ⟨Z,h0⟩ | ⟨b',bc,arr,Z,hM,hh,hf,ab,hI⟩
 ·cases Z
 ·cases Z
  have aj:=run_storeCells_at P b (o+off) e ys 0 arr w hh (by omega) O;simp only[gZ] at aj;have D:Same I w (w.setRow b (arr.toList.take (o+off)++ys++arr.toList.drop (o+off+ys.length)).toArray):=by
   intro b2 j hi;by_cases e':b2=b
   ·subst e'
    refine KeepB.ofCell hh (zOH hh _ ?_);have ac:j<o+off\/o+off+ys.length<=j:=by
     rcases gH j o with h | h
     ·left;omega
     ·rcases gH j (o+n0*size) with h2 | h2
      ·have:=hI j h h2 hi;left;omega
      ·right;omega
    have bg:o+off+ys.length<=arr.size:=by omega
    simp only[fJ,dW];rcases ac with h | h
    ·rw[eZ (by simp;omega),ft,eG h];simp
    ·rw[eU (by simp;omega),eU (by simp;omega),fK]
     simp only[fU,fB];rw[show o+off+ys.length+(j-min (o+off) arr.size-ys.length)=j by omega];simp
   ·exact KeepB.of (setRow_other w b b2 _ e')
  have ai:(spl cells off news).length=cells.length:=by simp[spl];omega
  refine⟨_,aj,hs.modify (zCU w b _) (by rw[hb];simp) (by rw[ak];rfl) D ⟨_,n0,c0,xs.take off++ys++xs.drop (off+ys.length),al,ap,hp,by rw[ai,ao],?_,?_,.inr ⟨b,o,_,rfl,hM,iQ w b arr _ e _ hh,?_,?_,hI⟩⟩ hE⟩
  ·have ah:=hr.mono D (λ_ _ h=>h)
   have ag:=ad.mono D (λ_ _ h=>h);unfold spl;rw[<-aq];exact Pw.append (Pw.append (ah.take off) ag) (ah.drop (off+ys.length))
  ·intro v hv'
   simp only[fk] at hv';rcases hv' with (hv' | hv') | hv'
   ·exact K v (gA hv')
   ·exact O v hv'
   ·exact K v (fW hv')
  ·simp;omega
  ·intro j u G
   have bi:xs.length=cells.length:=hr.1;have an:j<(xs.take off++ys++xs.drop (off+ys.length)).length:=(dV.1 G).1;simp only[d8,fU,fD] at an;simp only[fJ,dW] at G ⊢;rcases gH j off with h | h
   ·rw[eZ (by simp;omega),ft,eG h] at G
    rw[eZ (by simp;omega),ft,eG (by omega)]
    have:=ab j u G;simpa using this
   ·rcases gH j (off+ys.length) with h2 | h2
    ·rw[eU (by simp;omega),eZ (by simp;omega)] at G
     rw[eU (by simp;omega),eZ (by simp;omega)]
     simp only[fU,fB] at G ⊢;rw[show o+j-min (o+off) arr.size=j-min off xs.length by omega];exact G
    ·rw[eU (by simp;omega),eU (by simp;omega),fK] at G
     rw[eU (by simp;omega),eU (by simp;omega),fK]
     simp only[fU,fB] at G ⊢;rw[show off+ys.length+(j-min off xs.length-ys.length)=j by omega] at G;have:=ab j u G;rw[show o+off+ys.length+(o+j-min (o+off) arr.size-ys.length)=o+j by omega];simpa using this
theorem yAG (hT:OneTy P tt) (hx:S.ev x= .wp id off) (hb:S.blk id= .win e size k cells) (hk:k*size<=off) (O:off<cells.length) (hy:S.ev y= .d u) (h1:(AV.d u).one=true) (hE:E.wrB=true):
  jI P r E ⟨none,.store tt x y,ty,pos,af,g⟩ S (S.setBlk id (.win e size k (cells.set off u))):=
 zGS rfl (by simp) λA w I ρ C K=>by
  have h:=K.ev x;rw[hx] at h;obtain⟨b,o,n0,c0,aa,hv⟩:=h;have H:=K.ev y;rw[hy] at H;have D:=zTQ K.blks H h1 (by intro _ e;cases e)
  obtain⟨w',Z,G⟩:=K.spliceW (P:=P) (off:=off) (news:=[u]) (ys:=[A.eval y]) hb aa hk (by simp only[eF,fE];omega) (by simp) (Pw.cons H Pw.nil) (by simpa using D) hE
  refine⟨w',?_,I,ρ,C,?_⟩
  ·simp only[execOp,hv,Instr.storeAt,Instr.sureAddr,storeVar,dP,eQ,dR,hT.agg,hT.size,zHY D]
   simp[Z]
  ·have e1:spl cells off [u]=cells.set off u:=by
    unfold spl;rw[hQ,eG O];simp
   rw[e1] at G;exact G
end win
end
section
theorem zQV (h:P.underlying t=some (.slice e)) (B:Option Addr) (n c:Nat) (w:World):(Op.equal t (.slice B n c) (.slice none 0 0)).run P w= .ok B.isNone w:=by show (Op.equalIn (9999+1) t (.slice B n c) (.slice none 0 0)).run P w=_;rw[Op.equalIn];cases B<;>simp[eM h]
theorem zLE (O:d<E.n) (hu:P.underlying t=some (.slice e)) (hx:S.ev x= .d (.sl size cells)) (H:cells≠[]):
  AOp P r E S ⟨some d,.binOp .eql t x (.const (.slice none 0 0)) tz,ty,pos,af,g⟩ d (.d (.v (.bool false))):=
 ⟨rfl,O,λS' Z=>yD rfl O (by simp) λA w I ρ C hs=>by
  have K:=hs.ev x;rw[(Z.ev (x:=x) (by simp[Op.operands])).trans hx] at K;obtain⟨B,n,c,xs,hv,_,hl,_,_,D⟩:=Rep.sl_inv K;have G:0<n:=by
   rcases Nat.eq_zero_or_pos n with h | h
   ·subst h;exact absurd (dQ (by omega)) H
   ·exact h
  obtain⟨b,off,rfl,_⟩:=D G;have hc:A.eval (.const (.slice none 0 0))= .slice none 0 0:=rfl;have hb:binOp .eql t (.slice (some ⟨b,off,none⟩) n c) (.slice none 0 0)=(do pure (.bool (<-Op.equal t (.slice (some ⟨b,off,none⟩) n c) (.slice none 0 0)))):=rfl;have hg:eqGuard .eql t x (.const (.slice none 0 0)) (.slice (some ⟨b,off,none⟩) n c) (.slice none 0 0)=pure ():=rfl;simp only[execOp,hv,hc,hb,hg,dP,eQ,dR,zQV hu];rfl⟩
theorem yF4 {B:Option Addr} {c:Nat} (h:d<E.n) (O:P.underlying t=some (.slice e)) (hx:S.ev x= .d (.v (.slice B n c))):
  AOp P r E S ⟨some d,.binOp .eql t x (.const (.slice none 0 0)) tz,ty,pos,af,g⟩ d (.d (.v (.bool B.isNone))):=
 ⟨rfl,h,λS' D=>yD rfl h (by simp) λA w I ρ C K=>by
  have Z:=K.val ((D.ev (x:=x) (by simp[Op.operands])).trans hx);have G:A.eval (.const (.slice none 0 0))= .slice none 0 0:=rfl;have hb:binOp .eql t (.slice B n c) (.slice none 0 0)=(do pure (.bool (<-Op.equal t (.slice B n c) (.slice none 0 0)))):=rfl;have H:eqGuard .eql t x (.const (.slice none 0 0)) (.slice B n c) (.slice none 0 0)=pure ():=rfl;simp only[execOp,Z,G,hb,H,dP,eQ,dR,zQV O]⟩
theorem zB1 {t:Nat} {B:Option Addr} {c:Nat} (size:Nat) (G:t<E.n) (H:S.get t= .d (.v (.slice B 0 c))):zDZ E S (S.put t (.d (.sl size []))):=by
 rintro a w ⟨I,ρ,C,h⟩
 refine⟨I,ρ,C,⟨λu=>?_,h.blks,h.dist,by rw[vZ _ _ G];exact h.frame,h.sub,h.old,h.size,h.defers,h.cI,h.cB,h.nm⟩⟩
 rw[wK];by_cases e:t=u;subst e;simp only[eK];have:=h.tmps t;rw[H] at this;generalize a.tmps.getD t undef=v at this ⊢;have D:Rep w I v (.v (.slice B 0 c)):=this;cases D;exact .nil _ _ _;simp only[e,eE];exact h.tmps u
end
theorem zSF (hp:0<size) (h:∀B c,GC P f [.d (.v (.slice B 0 c))] T keep rets T'):GC P f [.d (.sl size [])] T keep rets T':=by
 refine⟨(h none 0).1,λw I ρ vs H hG K G=>?_⟩
 match vs,G.1 with
 | [v],_=>
  have hr:Rep w I v (.sl size []):=G.2 0 v (.d (.sl size [])) rfl rfl;cases hr with
  | nil A c=>exact(h A c).2 w I ρ _ H hG K (Pw.cons (show HoldsC w I ρ _ (.d (.v _)) from .v _) Pw.nil)
  | sl b off n c size xs cells Z D O=>exact absurd O (by have:=Nat.mul_pos Z hp;simp only[fE];omega)
section
section win
variable {t e:Nat} {id:Nat}
theorem yAH (k':Nat) (hb:S.blk id= .win e size k cells) (hk:k<=k'):zDZ E S (S.setBlk id (.win e size k' cells)):=by
 rintro a w ⟨I,ρ,C,h⟩
 have H:=h.blks id;rw[hb] at H;have Z:S.blk id≠ .none:=by rw[hb];simp
 have key:∀i,(S.setBlk id (.win e size k' cells)).blk i≠ .none->S.blk i≠ .none:=by
  intro i hi;rw[yC] at hi;by_cases D:id=i;subst D;exact Z;simpa[D] using hi
 refine⟨I,ρ,C,⟨h.tmps,λi=>?_,λi i' b hn hi K=>h.dist i i' b hn (key i hi) (key i' K),h.frame,h.sub,h.old,h.size,h.defers,h.cI,λi b hi=>h.cB i b (key i hi),λi v hv hi=>h.nm i v hv (key i hi)⟩⟩;rw[yC];by_cases D:id=i;subst D;simp only[eK];obtain⟨A,n,c,xs,aa,O,hp,hl,hr,h1,G⟩:=H;refine⟨A,n,c,xs,aa,O,hp,hl,hr,h1,?_⟩;rcases G with G | ⟨b,off,arr,G,hM,hh,hf,hc,hI⟩
 exact .inl G;exact .inr ⟨b,off,arr,G,hM,hh,hf,hc,λj q1 q2 hi=>fF (hI j q1 q2 hi) (Nat.add_le_add_left (fP _ hk) _)⟩;simp only[D,eE];exact h.blks i
theorem yJ4 {xl:Operand} {il:Int} {l:Nat} (hn:d<E.n) (hT:SlTy P t e size bytes z) (hx:S.ev x= .row id) (hb:S.blk id= .win e size k cells) (hl:cells.length=n*size) (ak:S.ev xl= .d (.v (.int kk il))) (el:il=(l:Int)) (ai:k<=l) (aj:l<=n) (am:E.nm id=none):
    jI P r E ⟨some d,.slice t x (some xl) none none,ty,pos,af,g⟩ S (((S.kill id).setBlk id (.win e size 0 (cells.drop (l*size)))).put d (.row id)):=
  vR (by simp) λA w I ρ C hs=>by
    subst el;have h1:=hs.ev x;rw[hx] at h1;have hv:A.eval x= ρ id:=h1;have ao:=hs.val ak;have hk:=hs.blks id;rw[hb] at hk;obtain⟨A',D,c,xs,aa,al,hp,G,hr,ag,hA⟩:=hk;obtain rfl:=zJV G hl hp;have O:D*size=(D - l)*size+l*size:=by rw[<-fT];congr 1;omega
    have Z:(Instr.sliceAt t (.slice A' D c) (some (.int kk l)) none none).run P w= .ok (.slice (if c=l then A' else A'.map (·.add (l*size))) (D - l) (c-l)) w:=
      zTY w hT.und (hT.size w) A' D c l D _ _ (.inr ⟨kk,rfl⟩) (.inl ⟨rfl,rfl⟩) aj (d9 _) al
    have ah:∀b,blockOf (.slice (if c=l then A' else A'.map (·.add (l*size))) (D - l) (c-l))=some b->blockOf (ρ id)=some b:=by
      intro b h;rw[aa];cases A' with
      | none=>split at h<;>simp[blockOf] at h
      | some ad=>
        split at h
        · exact h
        · have e3:(ad.add (l*size)).block=ad.block:=by unfold Addr.add;split<;>rfl
          simpa[blockOf,e3] using h
    have an:=hs.update (iF w none) (id:=id) (u:= .slice (if c=l then A' else A'.map (·.add (l*size))) (D - l) (c-l)) (x:= .win e size 0 (cells.drop (l*size))) (by simp) (jJ I w)
      (λb h=> .inr ⟨by rw[hb];simp,ah b h⟩) (by
        refine⟨(if c=l then A' else A'.map (·.add (l*size))),D - l,c-l,xs.drop (l*size),by simp[upd],by omega,hp,by rw[fD,G];omega,hr.drop _,λu hu=>ag u (fW hu),?_⟩
        rcases hA with ⟨rfl,h0⟩ | ⟨b,off,arr,rfl,hM,hh,hf,hc,hI⟩
        · left;constructor
          · split<;>rfl
          · omega
        · right
          by_cases K:c=l
          · have H:D - l=0:=by omega
            refine⟨b,off,arr,by rw[eG K],hM,hh,by rw[H];omega,λj u hj=>?_,λj q1 q2 _=>by rw[H] at q2;omega⟩
            have:=(dV.1 hj).1;rw[fD,hr.1,G,O,H] at this;omega
          · refine⟨b,off+l*size,arr,by rw[dU K];simp[zFF],hM,hh,by omega,λj u hj=>?_,λj q1 q2 hi=>?_⟩
            · rw[fK] at hj
              rw[hY];exact hc _ u hj
            · have:=hI j (by omega) (by omega) hi
              have m1:k*size<=l*size:=fP _ ai;omega) (.inl rfl) am
    refine⟨_,w,?_,I,_,C,an.put hn (show Holds _ _ _ _ (AV.row id) from by simp[Holds,upd];rfl)⟩
    simp only[execOp,hv,aa,dP,gJ,iu,ao,Z];rfl
end win
section lists
variable {α:Type} {en:En α} {l l':List α} {t e:Nat} {id:Nat}
theorem yAI (D:d<E.n) (h:SlTy P t e en.size bytes z) (G:S.ev x= .row id) (hb:S.blk id= .win e en.size k (en.all l)):
  AOp P r E S ⟨some d,.call {callee:= .builtin .len,args:= #[x],argTypes:= #[t]},ty,pos,af,g⟩ d (.d (.v (.int .i64 l.length))):=yF1 D h G hb (vE en l)
theorem zL9 {i:Int} {v: α} (G:d<E.n) (D:SlTy P t e en.size bytes z) (H:S.ev x= .row id) (hb:S.blk id= .win e en.size k (en.all l)) (hi:S.ev ix= .d (.v (.int kk i))) (h:yO l i=some v):
  AOp P r E S ⟨some d,.indexAddr t x ix,ty,pos,af,g⟩ d (.wp id (i.toNat*en.size)):=
 z6S G D H hb hi (uT h).2.1 (vE en l) (uT h).2.2.1
theorem zPS {i:Int} {v: α} {y:DV} (G:d<E.n) (D:OneTy P tt) (K:S.ev x= .wp id (i.toNat*en.size)) (hb:S.blk id= .win e en.size k (en.all l)) (H:yO l i=some v) (h:(en.cells v)[0]? =some y):
  AOp P r E S ⟨some d,.load tt x,ty,pos,af,g⟩ d (.d y):=
 yF3 G D K hb (by have:=zV7 en (uT H).2.2.2 0 (by rw[<-en.len v];exact(dV.1 h).1);rw[gZ] at this;rw[this];exact h)
theorem yJ5 {i:Int} {v: α} {w0: α} (hT:OneTy P tt) (O:S.ev x= .wp id (i.toNat*en.size)) (hb:S.blk id= .win e en.size 0 (en.all l)) (h:en.size=1) (hi:yO l i=some w0) (K:zCV l i v=some l') (hy:S.ev y= .d u) (hu:en.cells v= [u]) (h1:(AV.d u).one=true) (hE:E.wrB=true):
  jI P r E ⟨none,.store tt x y,ty,pos,af,g⟩ S (S.setBlk id (.win e en.size 0 (en.all l'))):=by
 obtain⟨rfl,h2,h3⟩:=z06 K;have H:=vE en l;rw[h,iR] at H;have G:S.ev x= .wp id i.toNat:=by rw[O,h,iR]
 have:=yAG (P:=P) (r:=r) (ty:=ty) (pos:=pos) (af:=af) (g:=g) hT G hb (by omega) (by omega) hy h1 hE;have Z:en.all (l.set i.toNat v)=(en.all l).set i.toNat u:=by
  unfold En.all;clear hi O G H hb K this h2 h3
  induction l generalizing i with
  | nil=>rfl
  | cons a l ih=>
   have ha:(en.cells a).length=1:=by rw[en.len,h]
   match D:en.cells a,ha with
   | [q],_=>
    cases hi:i.toNat with
    | zero=>simp[D,hu]
    | succ j=>
     have:=ih (i:=(j:Int));simp only[hP] at this;simp only[List.set_cons_succ,fC,D,this,gV,List.set_cons_succ]
 rw[Z];exact this
theorem yJ6 {H:Operand} (hn:d<E.n) (O:SlTy P t e en.size bytes z) (hx:S.ev x= .row id) (hb:S.blk id= .win e en.size k (en.all l)) (D:S.ev H= .d (.v (.int kk a))) (h:slc l a l.length=some l') (Z:k<=a.toNat) (G:E.nm id=none):
  jI P r E ⟨some d,.slice t x (some H) none none,ty,pos,af,g⟩ S (((S.kill id).setBlk id (.win e en.size 0 (en.all l'))).put d (.row id)):=by
 obtain⟨rfl,h1,h2,h3⟩:=zJ1 h;have:=yJ4 (P:=P) (r:=r) (ty:=ty) (pos:=pos) (af:=af) (g:=g) (l:=a.toNat) hn O hx hb (vE en l) D (by omega) Z (by omega) G;have K:en.all ((l.take (l.length:Int).toNat).drop a.toNat)=(en.all l).drop (a.toNat*en.size):=by simp[zL4]
 rw[K];exact this
end lists
end
theorem zOU {D:Type} {en:En D} {x: D} {l:List D} (h:0<en.size):en.all (x::l)≠[]:=by intro G;have:=congrArg List.length G;rw[vE,eF,fE,fT] at this;omega
theorem zOV {G:Type} {F: G->PUnit->Sem (ForInStep PUnit)}:∀(D:List G),(∀f∈D,(F f ()).run P w= .ok (.yield ()) w)->(forIn D () F).run P w= .ok () w
 | [],_=>by simp
 | f::D,h=>by
  have K:=zOV D λg H=>h g (by simp[H]);rw[List.forIn_cons];simp only[dP,h f (by simp),dR,K]
def zV8:TypeDesc->Bool
 | .int _ | .string | .bool=>true
 | _=>false
theorem zU9 {ds:TypeDesc} (D:P.underlying t=some ds) (h:zV8 ds=true) (v:Value) (n:Nat) (b:Bool) (w:World):(Instr.checkKey b (n+1) t v).run P w= .ok () w:=by
 simp only[Instr.checkKey,dP,eM D,dR];cases ds<;>first | (simp[zV8] at h;done) | (cases v<;>rfl)
theorem yF5 {ds:TypeDesc} (H:ArTy P kt n 1 e zs) (O:OneTy P e) (hu:P.underlying e=some ds) (Z:zV8 ds=true) (K:vals.length=n) (b:Bool) (w:World):(Instr.checkKey b 10000 kt (.agg vals.toArray)).run P w= .ok () w:=by
 show (Instr.checkKey b (9999+1) kt (.agg vals.toArray)).run P w=_;rw[Instr.checkKey];simp only[dP,eM H.und,dR];rw[Std.Legacy.Range.forIn_eq_forIn_range'];have G:(Std.Legacy.Range.size [0:n])=n:=by simp[Std.Legacy.Range.size]
 simp only[G];rw[<-List.range_eq_range'];refine(congrArg (λq=>Result.andThen q _) (zOV _ λi hi=>?_)).trans (by simp);have D:i<n:=fQ.1 hi;have h:(part e vals.toArray i).run P w= .ok (vals[i]'(by omega)) w:=zJ3 O.agg (by simp[K,D]) w;simp only[dP,H.size w,dR,iR,h];have:=zU9 hu Z (vals[i]'(by omega)) 9998 b w;simp only[show (9998+1)=9999 from rfl] at this;simp[this]
theorem zXO {h:Array Field} (hu:P.underlying kt=some (.struct h))
  (hf:∀f∈h.toList,OneTy P f.type/\(∃ds,P.underlying f.type=some ds/\zV8 ds=true)/\f.offset<vals.length) (b:Bool) (w:World):(Instr.checkKey b 10000 kt (.agg vals.toArray)).run P w= .ok () w:=by
 show (Instr.checkKey b (9999+1) kt (.agg vals.toArray)).run P w=_;rw[Instr.checkKey];simp only[dP,eM hu,dR];rw[<-Array.forIn_toList];refine(congrArg (λq=>Result.andThen q _) (zOV _ λf hi=>?_)).trans (by simp);obtain⟨K,⟨ds,O,Z⟩,G⟩:=hf f hi;have:=zU9 O Z (vals[f.offset]'G) 9998 b w;simp only[show (9998+1)=9999 from rfl] at this;have D:(part f.type vals.toArray f.offset).run P w= .ok (vals[f.offset]'G) w:=zJ3 K.agg (by simp[G]) w;by_cases H:f.name= "_"
 ·simp[H]
 ·simp only[ne_eq,H,not_false_eq_true,eK,dP,D,dR,this]
  rfl
section
theorem zZK {bid:Nat} {cells:List AV} (size:Nat) (hb:S.blk bid= .box eb cells) (H:cells[off]? =some (.d (.v (.slice none 0 0)))):zDZ E S (S.setBlk bid (.box eb (cells.set off (.d (.sl size []))))):=by
 rintro a w ⟨I,ρ,C,h⟩
 refine⟨I,ρ,C,h.rebox (eb:=eb) (cells:=cells) hb λxs K=>K.set_right H λx D=>?_⟩;have G:Rep w I x (.v (.slice none 0 0)):=D;cases G;exact Rep.nil _ _ _
end
def QJ (E:Env) (J:AState->Prop):Exit->Act->World->Prop
 | .normal,a,w=> ∃S,J S/\Sat E S a w
 | _,_,_=>False
def zFV (P:Program) (r:Option Nat) (E:Env) (l:List Oper) (J:AState->Prop) (fuel:Nat) (listed:List Bool) (S:AState):Prop:=
 ∀a w,Sat E S a w->wpAnyIn (fen r) 0 P .any l.toArray (QJ E J) fuel listed.toArray a w
def AnyE (P:Program) (r:Option Nat) (E:Env) (l:List Oper) (J:AState->Prop) (fuel:Nat) (listed:List Bool) (S:AState):List Nat->Prop
 | []=>True
 | i::is=>(∃o S',l[i]? =some o/\z5R P r E l.toArray o S S'/\zFV P r E l J fuel (listed.set i true) S')/\AnyE P r E l J fuel listed S is
section
variable {l:List Oper} {J:AState->Prop} {fuel:Nat} {listed:List Bool}
theorem AnyE.mem:∀{is:List Nat} {i:Nat},AnyE P r E l J fuel listed S is->i∈is->∃o S',l[i]? =some o/\z5R P r E l.toArray o S S'/\zFV P r E l J fuel (listed.set i true) S'
 | [],_,_,h=>by cases h
 | k::is,i,h,hi=>by
  rcases eP.1 hi with e | hi;subst e;exact h.1;exact AnyE.mem h.2 hi
def rdy (l:List Oper) (h:List Bool):List Nat:=(List.range l.length).filter λi=>!h.getD i true&&(match l[i]? with | none=>true | some o=>(aft o).all λj=>h.getD j false)
theorem yC4 (h:i∈Region.ready .any l.toArray listed.toArray):i∈rdy l listed:=by
 obtain⟨D,H,K⟩:=zDP h;simp only[rdy,fX,fQ,eC,fG];have e:∀k b,listed.toArray.getD k b=listed.getD k b:=λk b=>by simp[dZ,eT]
 refine⟨D,by rw[<-e];exact H,?_⟩
 have G:=dT D;rw[G];simp only[eO];intro j O;rw[<-e];exact K _ G j O
theorem z23 (h:(rdy l listed).contains i=true):i∈Region.ready .any l.toArray listed.toArray:=by
 have h:=im.1 h;simp only[rdy,fX,fQ,eC,fG] at h;have e:∀k b,listed.toArray.getD k b=listed.getD k b:=λk b=>by simp[dZ,eT]
 obtain⟨H,K,D⟩:=h;have G:=dT H;rw[G] at D;simp only[eO] at D;exact zXB G (by rw[e];exact K) λj O=>by rw[e];exact D j O
theorem zSG (h:List Bool) (i:Nat):h.toArray.setIfInBounds i true=(h.set i true).toArray:=by simp
theorem yOZ (H:rdy l listed= []) (h:J S):zFV P r E l J fuel listed S:=by
 intro a w G;have D:Region.ready .any l.toArray listed.toArray= []:=ir.2 λi hi=>by have:=yC4 hi;rw[H] at this;cases this
 cases fuel with
 | zero=>exact⟨D,S,h,G⟩
 | succ n=>exact⟨λ_=>⟨S,h,G⟩,λi hi=>by rw[D] at hi;cases hi⟩
theorem yWI (is:List Nat) (H:rdy l listed=is) (D:is.isEmpty=false) (h:AnyE P r E l J fuel listed S is):zFV P r E l J (fuel+1) listed S:=by
 intro a w hs;refine⟨λe=>?_,λi hi=>?_⟩;cases is with
 | nil=>cases D
 | cons k is=>
  have:=z23 (l:=l) (listed:=listed) (i:=k) (by rw[H];simp)
  rw[e] at this;cases this
 have hi:=yC4 hi;rw[H] at hi;obtain⟨o,S',O,Z,h3⟩:=h.mem hi;unfold wpOpIn;simp only[fJ,O];refine Z a w _ _ hs λK w' G=>?_;rw[zSG];exact h3 K w' G
theorem yC5:AnyE P r E l J fuel listed S []:=trivial
theorem yR8 {is:List Nat} {o:Oper} {S':AState} (G:l[i]? =some o) (D:o.guard=none) (h:jI P r E o S S') (k:zFV P r E l J fuel (listed.set i true) S') (H:AnyE P r E l J fuel listed S is):AnyE P r E l J fuel listed S (i::is):=
 ⟨⟨o,S',G,zJZ D h,k⟩,H⟩
theorem yR9 {is:List Nat} {o:Oper} {x:AV} (G:l[i]? =some o) (D:o.guard=none) (h:AOp P r E S o d x) (k:zFV P r E l J fuel (listed.set i true) (S.put d x)) (H:AnyE P r E l J fuel listed S is):AnyE P r E l J fuel listed S (i::is):=
 ⟨⟨o,_,G,zJZ D h.step,k⟩,H⟩
def z24 (l:List Oper) (listed:List Bool) (i:Nat) (oi:Oper):Bool:=
 (List.range l.length).all λj=>Nat.beq j i ||listed.getD j true ||(match l[j]? with
  | none=>true
  | some h=>(aft h).contains i ||oi.apart l.toArray h)
def zNM (l:List Oper):Bool:=l.all λo=>match o.op with | .select _ _=>false | _=>true
theorem zH1 {oi:Oper} {x:AV} (hr:r=none) (hi:l[i]? =some oi) (hg:oi.guard=none) (hd:oi.dst=some d) (H:zNM l=true) (K:z24 l listed i oi=true) (ac:(rdy l listed).contains i=true)
  (hy:∀a w,Sat E S a w->∃v,(∀w',(execOp a.eval oi).run P w'= .ok (.value v) w')/\(∀w',oi.about P w' a.eval=none)/\Sat E (S.put d x) (a.put (some d) v) w) (k:zFV P r E l J fuel (listed.set i true) (S.put d x)):zFV P r E l J (fuel+1) listed S:=by
 subst hr;intro a w hs;obtain⟨v,h1,h2,h3⟩:=hy a w hs;have O:l.toArray[i]? =some oi:=by simpa using hi
 refine wpAnyIn_first (i:=i) (oi:=oi) (v:=v) rfl O (λj o cs b ho e=>?_) (λc a w h=>h.elim) fuel listed.toArray a w (λj oj hj ab hl G=>?_) (z23 ac) ⟨.inl ⟨?_,h1⟩,h2⟩ (by rw[hd,zSG];exact k _ w h3)
 ·have:=eO.1 H o (fH (by simpa using ho))
  rw[e] at this;cases this
 ·have D:l[j]? =some oj:=by simpa using hj
  have aa:=(dV.1 D).1;have:=eO.1 K j (fQ.2 aa);have Z:listed.getD j true=false:=by rw[<-hl];simp[dZ,eT]
  simp only[gQ,iN,Z,D] at this;rcases this with (h | h) | h | h
  ·exact absurd h ab
  ·cases h
  ·exfalso
   have h:=im.1 h;simp only[aft,fL,fX] at h;obtain⟨q,⟨hq,hb⟩,he⟩:=h;exact G q (by simpa using hq) hb he
  ·exact h
 ·unfold Region.wanted
  rw[hg]
section
theorem yJ7 (hi:l[i]? =some ⟨some d,.move x,ty,pos,af,none⟩) (K:d<E.n) (O:r=none) (h:zNM l=true) (D:z24 l listed i ⟨some d,.move x,ty,pos,af,none⟩=true) (G:(rdy l listed).contains i=true)
  (k:zFV P r E l J fuel (listed.set i true) (S.put d (S.ev x))):zFV P r E l J (fuel+1) listed S:=
 zH1 O hi rfl rfl h D G (λa w ⟨I,ρ,C,H⟩=>⟨a.eval x,λw'=>by simp[execOp],λw'=>rfl,I,ρ,C,H.put K (H.ev x)⟩) k
theorem zSH {tx:TypeId} {b:Int} (hi:l[i]? =some ⟨some d,.binOp .sub tx x y tz,ty,pos,af,none⟩) (K:d<E.n) (Z:S.ev x= .d (.v (.int .i64 a))) (hy:S.ev y= .d (.v (.int .i64 b))) (O:r=none) (h:zNM l=true) (D:z24 l listed i ⟨some d,.binOp .sub tx x y tz,ty,pos,af,none⟩=true) (G:(rdy l listed).contains i=true)
  (k:zFV P r E l J fuel (listed.set i true) (S.put d (.d (.v (.int .i64 (wi (a-b))))))):zFV P r E l J (fuel+1) listed S:=
 zH1 O hi rfl rfl h D G (λA w ⟨I,ρ,C,H⟩=>⟨.int .i64 (wi (a-b)),λw'=>by
  simp only[execOp,H.val Z,H.val hy];simp[binOp,eqGuard,Op.intArith,wi],λw'=>rfl,I,ρ,C,SatAt.put (x:= .d (.v _)) H K (Rep.v _)⟩) k
theorem zPT {tx:TypeId} {b:Int} (hi:l[i]? =some ⟨some d,.binOp .add tx x y tz,ty,pos,af,none⟩) (K:d<E.n) (Z:S.ev x= .d (.v (.int .i64 a))) (hy:S.ev y= .d (.v (.int .i64 b))) (O:r=none) (h:zNM l=true) (D:z24 l listed i ⟨some d,.binOp .add tx x y tz,ty,pos,af,none⟩=true) (G:(rdy l listed).contains i=true)
  (k:zFV P r E l J fuel (listed.set i true) (S.put d (.d (.v (.int .i64 (wi (a+b))))))):zFV P r E l J (fuel+1) listed S:=
 zH1 O hi rfl rfl h D G (λA w ⟨I,ρ,C,H⟩=>⟨.int .i64 (wi (a+b)),λw'=>by
  simp only[execOp,H.val Z,H.val hy];simp[binOp,eqGuard,Op.intArith,wi],λw'=>rfl,I,ρ,C,SatAt.put (x:= .d (.v _)) H K (Rep.v _)⟩) k
theorem z1B {α:Type} {en:En α} {D:List α} {t e:Nat} {q:Int} {v: α} (hi:l[i]? =some ⟨some d,.indexAddr t x ix,ty,pos,af,none⟩) (hn:d<E.n) (O:SlTy P t e en.size bytes z) (hx:S.ev x= .d (zJ en D)) (aa:S.ev ix= .d (.v (.int kk q))) (hv:yO D q=some v)
  (hr:r=none) (K:zNM l=true) (Z:z24 l listed i ⟨some d,.indexAddr t x ix,ty,pos,af,none⟩=true) (ag:(rdy l listed).contains i=true)
  (k:zFV P r E l J fuel (listed.set i true) (S.put d (.ip (en.all D) (q.toNat*en.size)))):zFV P r E l J (fuel+1) listed S:=
 zH1 hr hi rfl rfl K Z ag (λA w ⟨I,ρ,C,hs⟩=>by
  have h:=hs.ev x;rw[hx] at h;obtain⟨B,n,c,xs,ai,_,hl,ad,h1,G⟩:=Rep.sl_inv h;have ac:n=D.length:=zJV hl (vE en D) O.pos;subst ac;have hq:=(uT hv).2.1;have ab:=(uT hv).2.2.1;obtain⟨b,off,rfl,hc⟩:=G (by omega);have H:=hs.val aa;refine⟨.pointer (some ⟨b,off+q.toNat*en.size,none⟩),λw'=>?_,λw'=>rfl,I,ρ,C,hs.put hn ⟨b,off,xs,rfl,ad,h1,hc⟩⟩;rw[hq] at H;simp only[execOp,ai,H,dP,zK9 w' O.und (O.size w') b off D.length c kk q.toNat ab];rfl) k
end
theorem zGB {id:Nat} {K:Exit->AState->Prop} (H:P.follows .mixedOrders=true) (h:zFV P r E l (K .normal) l.length (List.replicate l.length false) S):Avc P r E (.region id l.toArray true) K S:=by
 intro a w O;have G:=h a {w with drawn:=w.drawn+1} (zXA O);refine g7 (wpIn_region_any (Q:=QJ E (K .normal)) H (by simpa[<-List.toArray_replicate] using G)) ?_;intro e Z w' D;cases e with
 | normal=>exact D
 | _=>exact D.elim
end
def CapsOf:List AV->List Cap->Prop
 | [],cs=>cs= []
 | x::xs,cs=> ∃c ds,cs=c::ds/\CapOf x c/\CapsOf xs ds
section
theorem CapsOf.holds {ρ:Nat->Value}:∀{vs:List Value} {xs:List AV} {cs:List Cap},CapsOf xs cs->Pw (Holds w I ρ) vs xs->Pw (HoldsC w I ρ) vs cs
 | [],[],cs,h,_=>by cases h;exact Pw.nil
 | [],x::xs,cs,_,D=>by have:=D.1;simp at this
 | v::vs,[],cs,_,D=>by have:=D.1;simp at this
 | v::vs,x::xs,cs,⟨c,ds,e,G,H⟩,D=>by
  subst e;obtain⟨q1,q2⟩:=zLD D;exact Pw.cons (G.holds q1) (CapsOf.holds H q2)
theorem zPU {h:List Operand} (G:d<E.n) (D:CapsOf (h.map S.ev) cs):
  AOp P r E S ⟨some d,.makeFunc (.func f) #[] h.toArray,ty,pos,af,g⟩ d (.clo f cs):=
 ⟨rfl,G,λS' H=>zV rfl G (by simp) λA w I ρ C O=>by
  have K:h.map S'.ev=h.map S.ev:=fZ λx Z=>H.ev (by simp[Op.operands];simpa using Z)
  rw[<-K] at D;exact⟨.func (.func f) #[] (h.map A.eval).toArray,by simp[execOp,Instr.makeFunc],_,rfl,D.holds (v2 O h)⟩⟩
theorem zJ5 {id:Nat} {cells:List AV} {av:AV} (H:OneTy P t) (O:S.ev x= .ptr id off) (hb:S.blk id= .box eb cells) (h:off<cells.length) (Z:S.ev y=av) (D:av.one=true) (K:zQO S av=true) (G:E.wrB=true):
  jI P r E ⟨none,.store t x y,ty,pos,af,g⟩ S (S.setBlk id (.box eb (cells.set off av))):=by
 subst Z;exact zJX H O hb h D K G
theorem yAJ {a t id e u h D:Nat} {x y:DV} (G:(S.get a).un= .ptr id 0) (H:S.blk id= .box e [.d x]) (K:OneTy P t) (Z:(S.get b).un= .ptr h 0) (k2:S.blk h= .box D [.d y]) (O:OneTy P u):RetS P S [.cell a t,.cell b u] [x,y]:=
 ⟨_,_,id,e,_,rfl,G,H,.inl ⟨K,_,rfl,rfl⟩,_,_,h,D,_,rfl,Z,k2,.inl ⟨O,_,rfl,rfl⟩,rfl⟩
end
section
variable {ty:Nat}
theorem yAK {G:Type} {c ys:List G} {N:Nat} (h:ys.length=n) (H:off+n<=N) (K:N<=c.length):(c.take off++ys++c.drop (off+n)).take N=(c.take N).take off++ys++(c.take N).drop (off+n):=by
 have D:(c.take off++ys).length=off+n:=by simp;omega
 rw[List.take_append,gS (by omega),D,List.take_take,jb (by omega),List.drop_take]
def Blk.is:Blk->Bool
 | .none=>false
 | _=>true
theorem Blk.is_ne {b:Blk} (h:b.is=true):b≠ .none:=by cases b<;>simp_all [Blk.is]
def nmB (h:List Nat) (σ:List (Nat×Nat)) (keep:List Nat) (T T':List (Nat×Blk)):Bool:=
 σ.all λp=>!h.contains p.2 ||(keep.contains p.1&&((look Blk.none T p.1).is&&(look Blk.none T' p.1).is))
theorem jU {D:Nat->Option (List Value)} {w0:World} {I0:Im} {H:GlI D w0 I0} {Z:Nat->Value} {T0:List (Nat×Blk)} {h:List Nat} {O:n0<=1000000} (σ:List (Nat×Nat)) (hc:GC P f args T keep rets T') (hn:d<n0) (aj:(σ.map Prod.fst).Nodup/\(σ.map Prod.snd).Nodup)
  (G:ArgsAs σ (xs.map S.ev) args) (ad:args.all (Cap.idsLt σ)=true) (ai:rets.all (Cap.idsLt σ)=true) (hT:BlksAs S σ T) (ac:uS σ T=true) (K:uS σ T'=true)
  (ag:zOT S σ T=true) (ah:nmB h σ keep T T'=true) (hG:D=vF P:=by rfl):
  jI P r (Env.gen D w0 I0 H Z T0 h n0 O) ⟨some d,.call {callee:= .value (.func f),args:=xs.toArray,argTypes:=ats},ty,pos,af,g⟩ S
   (((S.killL (zI4 σ keep T')).setL (renL σ T'++zL1 σ T T')).put d ((zOO rets).ren σ)):=
 z2P (E:=Env.gen D w0 I0 H Z T0 h n0 O) σ hn (zRB aj) G ad ai hT ac K (zJ4 ag) (λk hk=>by
  have:=eO.1 ah _ (zED hk);by_cases hc:h.contains (look 0 σ k)=true
  ·simp only[hc,dY,fo,eC] at this
   exact .inr ⟨this.1,Blk.is_ne this.2.1,Blk.is_ne this.2.2⟩
  ·refine .inl ?_
   show (if h.contains (look 0 σ k)=true then _ else _)=_;rw[dU hc]) hc rfl hG
theorem zV9 {xf:Operand} (σ:List (Nat×Nat)) (hc:GC P f args T keep rets T') (hn:d<E.n) (ab:(σ.map Prod.fst).Nodup/\(σ.map Prod.snd).Nodup) (aa:S.ev xf= .clo f cs)
  (h:ArgsAs σ (xs.map S.ev++cs.map Cap.av) args) (H:args.all (Cap.idsLt σ)=true) (Z:rets.all (Cap.idsLt σ)=true) (hT:BlksAs S σ T) (G:uS σ T=true) (D:uS σ T'=true)
  (K:zOT S σ T=true) (O:∀k,E.nm k=none) (hE:E.wrB=true) (hG:E.gdt=vF P:=by rfl):
  jI P r E ⟨some d,.call {callee:= .value xf,args:=xs.toArray,argTypes:=ats},ty,pos,af,g⟩ S
   (((S.killL (zI4 σ keep T')).setL (renL σ T'++zL1 σ T T')).put d ((zOO rets).ren σ)):=
 z6G σ hn (zRB ab) aa h H Z hT G D (zJ4 K) (λk _=> .inl (O _)) hc hE hG
theorem z6T {D:Nat->Option (List Value)} {w0:World} {I0:Im} {H:GlI D w0 I0} {Z:Nat->Value} {T0:List (Nat×Blk)} {h:List Nat} {O:n0<=1000000} {xf:Operand} (σ:List (Nat×Nat)) (hc:GC P f args T keep rets T') (hn:d<n0) (ak:(σ.map Prod.fst).Nodup/\(σ.map Prod.snd).Nodup) (aj:S.ev xf= .clo f cs)
  (G:ArgsAs σ (xs.map S.ev++cs.map Cap.av) args) (ad:args.all (Cap.idsLt σ)=true) (ai:rets.all (Cap.idsLt σ)=true) (hT:BlksAs S σ T) (ac:uS σ T=true) (K:uS σ T'=true)
  (ag:zOT S σ T=true) (ah:nmB h σ keep T T'=true) (hG:D=vF P:=by rfl):
  jI P r (Env.gen D w0 I0 H Z T0 h n0 O) ⟨some d,.call {callee:= .value xf,args:=xs.toArray,argTypes:=ats},ty,pos,af,g⟩ S
   (((S.killL (zI4 σ keep T')).setL (renL σ T'++zL1 σ T T')).put d ((zOO rets).ren σ)):=
 z6G (E:=Env.gen D w0 I0 H Z T0 h n0 O) σ hn (zRB ak) aj G ad ai hT ac K (zJ4 ag) (λk hk=>by
  have:=eO.1 ah _ (zED hk);by_cases hc:h.contains (look 0 σ k)=true
  ·simp only[hc,dY,fo,eC] at this
   exact .inr ⟨this.1,Blk.is_ne this.2.1,Blk.is_ne this.2.2⟩
  ·refine .inl ?_
   show (if h.contains (look 0 σ k)=true then _ else _)=_;rw[dU hc]) hc rfl hG
end
end Go.AV
namespace Go.M
def yM {h:Type} [DecidableEq h] (items:List h) (k:Nat) (x: h):Option Unit:=if items[k]? =some x then some () else none
def zZL {h:Type} (items:List h) (k:Nat):Option Unit:=if k=items.length then some () else none
end Go.M
namespace Go.AV
open Go.M
theorem yAL {D:Type} [DecidableEq D] {H:Type} {items:List D} {k:Nat} {x: D} {u:Unit} (f: D->H) (h:yM items k x=some u):(items.map f)[k]? =some (f x):=by unfold yM at h;split at h;rename_i G;rw[e7,G];rfl;cases h
theorem zOX {D:Type} {H:Type} {items:List D} {k:Nat} {u:Unit} (f: D->H) (h:zZL items k=some u):k=(items.map f).length:=by unfold zZL at h;split at h;rename_i G;rw[fO,G];cases h
section
variable {P:Program} {r:Option Nat} {E:Env} {S:AState} {K:Exit->AState->Prop} {c:Code} {A B C D:Type}
def yTH (E:Env) (G:Exit) (k:A->AState) (H:Exit) (S2:B->AState):A⊕B->Exit->AState->Prop
 | .inl y,h,S'=>h=G/\zDZ E S' (k y)
 | .inr y,h,S'=>h=H/\zDZ E S' (S2 y)
def yYC (E:Env) (H:Exit) (k:A->AState) (O:Exit) (S2:B->AState) (T:Exit) (G:C->AState):A⊕(B⊕C)->Exit->AState->Prop
 | .inl y,h,S'=>h=H/\zDZ E S' (k y)
 | .inr (.inl y),h,S'=>h=O/\zDZ E S' (S2 y)
 | .inr (.inr y),h,S'=>h=T/\zDZ E S' (G y)
theorem zT (y:A⊕B) (G:Exit) (k:A->AState) (H:Exit) (S2:B->AState) (h:Avc P r E c (yTH E G k H S2 y) S) (O:∀z,y= .inl z->K G (k z)) (T:∀z,y= .inr z->K H (S2 z)):Avc P r E c K S:=by rcases y with y | y;exact zL3 (e:=G) (S2:=k y) h (O y rfl);exact zL3 (e:=H) (S2:=S2 y) h (T y rfl)
theorem yF6 (y:A⊕(B⊕C)) (H:Exit) (k:A->AState) (O:Exit) (S2:B->AState) (T:Exit) (G:C->AState) (h:Avc P r E c (yYC E H k O S2 T G y) S) (Z:∀z,y= .inl z->K H (k z)) (k2:∀z,y= .inr (.inl z)->K O (S2 z)) (k3:∀z,y= .inr (.inr z)->K T (G z)):Avc P r E c K S:=by rcases y with y | y | y;exact zL3 (e:=H) (S2:=k y) h (Z y rfl);exact zL3 (e:=O) (S2:=S2 y) h (k2 y rfl);exact zL3 (e:=T) (S2:=G y) h (k3 y rfl)
end
open Go.RowKit
section
variable {P:Program} {r:Option Nat} {E:Env} {S:AState} {d ty:Nat} {pos:String} {af:Array Edge} {g:Option (Nat×Bool)}
theorem z26 {f:FuncId} {xs:List Operand} {ats:Array TypeId} {args:List Cap} {D:AV} {T G:List (Nat×Blk)} {keep:List Nat} (σ:List (Nat×Nat)) (hc:GCA P f args T keep D G) (hn:d<E.n) (ac:(σ.map Prod.fst).Nodup/\(σ.map Prod.snd).Nodup)
  (h:ArgsAs σ (xs.map S.ev) args) (O:args.all (Cap.idsLt σ)=true) (ab:D.idsLt σ =true) (hT:BlksAs S σ T) (K:uS σ T=true) (H:uS σ G=true)
  (Z:zOT S σ T=true) (aa:∀k,E.nm k=none) (hE:E.wrB=true) (hG:E.gdt=vF P:=by rfl):
  jI P r E ⟨some d,.call {callee:= .value (.func f),args:=xs.toArray,argTypes:=ats},ty,pos,af,g⟩ S
   (((S.killL (zI4 σ keep G)).setL (renL σ G++zL1 σ T G)).put d (D.ren σ)):=
 z02 σ hn (zRB ac) (extra:=[]) (λA w I ρ C _=>⟨[],by simp[Act.eval],Pw.nil⟩) (by rw[fm];exact h) O ab hT K H (zJ4 Z) (λk _=> .inl (aa _)) hc hE hG
theorem yO0 {w:World} {I D:Im} {ys:List Value} {cells:List DV} (h:Reps w D ys cells) (G:∀x∈cells,∃u,x= .v u):Reps w I ys cells:=
 ⟨h.1,λj y x H k=>by
  obtain⟨u,rfl⟩:=G x (fH k);have:=h.2 j y _ H k;cases this;exact .v _⟩
theorem yTI {f e size n off id k0:Nat} {x y:Operand} {ats:Array TypeId} {L D:List DV} {fv:DV} (hn:d<E.n) (hx:S.ev x= .rs id off n) (hy:S.ev y= .d fv) (hb:S.blk id= .row e size false L) (h0:0<n) (bm:off+n*size<=L.length)
  (hv:∀x∈D,∃u,x= .v u) (hc:GC P f [.row k0,.d fv] [(k0,.win e size 0 ((L.drop off).take (n*size)))] [k0] [] [(k0,.win e size 0 D)]) (hE:E.wrB=true) (hG:E.gdt=vF P:=by rfl):
  jI P r E ⟨some d,.call {callee:= .value (.func f),args:= #[x,y],argTypes:=ats},ty,pos,af,g⟩ S
   ((S.setBlk id (.row e size false (L.take off++D++L.drop (off+n*size)))).put d (.tupc [])):=by
 rintro A w K Q ⟨I,ρ,C,hs⟩ hk
 obtain⟨⟨fn,hf,bf,ax⟩,ay⟩:=hc;have cz:S.blk id≠ .none:=by rw[hb];simp
 have bl:=hs.blks id;rw[hb] at bl;obtain⟨⟨hp,hM⟩,n0,xs,hl,bu,h1,hr,hI⟩:=bl;have ak:=hs.ev x;rw[hx] at ak;obtain⟨A',c,ak,bt,hA⟩:=ak;obtain⟨O,ai,rfl⟩:=hA h0;have ar:=hs.ev y;rw[hy] at ar;have ar:Rep w I (A.eval y) fv:=ar;have dn:0<n*size:=Nat.mul_pos h0 hp;have et:xs.length=L.length:=hr.1;rcases bu.2 with ⟨ad,_⟩ | ⟨gb,cf,G,ad,hB,hh,bg,cr,az,bz⟩
 ·rw[ad] at ai;cases ai
 have cn:O=gb:=by rw[ad] at ai;simpa[blockOf] using ai.symm
 subst cn;have al:∀j,¬I O j:=λj T=>by have:=(hI O j (by rw[ad];rfl) T).1;cases this
 have bn:O<w.heap.size:=(dX.1 hh).1;have cm:L.length<=G.size:=by rw[az,hl];exact fP _ bg
 have bi:∀(j:Nat) v,xs[j]? =some v->G[j]? =some v:=λj v T=>by
  rw[<-bz,ft] at T;split at T
  ·simpa using T
  ·cases T
 let I1:Im:=λb j=>I b j\/(b=O/\(j<off\/off+n*size<=j))
 let cc:Nat->Value:=λ_=>A.eval x
 have ag:∀b j,I b j->I1 b j:=λb j h=> .inl h;have ao:Same I w w:=λ_ _ _=>KeepB.refl;have ba:Frag w I1 cc [(k0,.win e size 0 ((L.drop off).take (n*size)))]:=by
  refine⟨λk=>?_,λk k' b am ac aw _=>?_⟩
  ·by_cases aq:k=k0
   ·subst aq
    rw[kB,eG rfl];refine⟨_,n,c,(xs.drop off).take (n*size),ak,bt,hp,by simp;omega,Reps.mono ((hr.drop off).take (n*size)) ao ag,λu hu=>h1 u (fW (gA hu)),.inr ⟨O,off,G,rfl,trivial,hh,by omega,λj u T=>?_,λj ej ek T=>?_⟩⟩
    ·rw[ft] at T
     split at T
     ·rw[fK] at T;exact bi _ u T
     ·cases T
    ·rcases T with T | ⟨_,T⟩
     ·exact absurd T (al j)
     ·omega
   ·rw[kB,dU (λe=>aq e.symm)]
    trivial
  ·exfalso
   have e1:k=k0:=by
    by_cases e:k=k0
    ·exact e
    ·exfalso;apply ac;rw[kB,dU (λq=>e q.symm)];rfl
   have e2:k'=k0:=by
    by_cases e:k'=k0
    ·exact e
    ·exfalso;apply aw;rw[kB,dU (λq=>e q.symm)];rfl
   exact am (e1.trans e2.symm)
 have ck:∀b j,I1 b j->b<w.heap.size:=by
  rintro b j (h | ⟨rfl,_⟩)
  ·exact(hs.old b j h).1
  ·exact bn
 have cq:=ay w I1 cc [A.eval x,A.eval y] ck ((hG▸hs.gl).sub ag) ba (Pw.cons rfl (Pw.cons (Rep.mono ar ao ag) Pw.nil));refine⟨λf _=>trivial,?_⟩;rw[Oper.semAt_eq _ _ _ (by simp)];have bx:(execOp A.eval ⟨some d,.call {callee:= .value (.func f),args:= #[x,y],argTypes:=ats},ty,pos,af,g⟩).run P w= .ok (.enter f #[A.eval x,A.eval y]) w:=by
  have cy:¬fn.name= "runtime.NumGoroutine" :=by simpa using bf
  have hn2:¬fn.body=none:=by intro e;simp[e] at ax
  simp[execOp,resolve,Act.eval,Deferred.ofValue,invoke,callFunc,hf,cy,hn2]
 rw[bx];refine⟨by simp[fen,Fence.wide],?_⟩;show CallsIn Fence.wide 0 P f _ w _;refine g8.2 (cq.mono ?_)
 rintro e' w' ⟨v,I',fb,rfl,aa,an,dp,dm,ap,bw,da,be⟩
 have bp:look Blk.none [(k0,Blk.win e size 0 D)] k0= .win e size 0 D:=by rw[kB,eG rfl]
 have aq:=be k0 (by simp) (by rw[bp];simp)
 have au:=ap.ok k0;rw[bp] at au;obtain⟨A2,n2,c2,ys,ab,_,_,cx,bv,ci,cj⟩:=au;rw[aq] at ab;have ab:A.eval x= .slice A2 n2 c2:=ab;rw[ak] at ab;cases ab;rcases cj with ⟨bh,_⟩ | ⟨b2,dt,H,bh,_,bo,ct,cp,_⟩
 ·cases bh
 cases bh;have dg:ys.length=n*size:=by rw[bv.1];exact cx
 have ah:∀j,(j<off\/off+n*size<=j)->H[j]? =G[j]?:=λj T=>by
  have:=(an O j (.inr ⟨rfl,T⟩)).cell;rw[gN w' O j H e (0,0) bo,gN w O j G e (0,0) hh] at this;exact this
 have df:H.size=G.size:=by
  have ac:H[G.size]? =none:=by rw[ah G.size (.inr (by omega))];simp
  have aw:H.size<=G.size:=by
   by_cases bq:G.size<H.size
   ·rw[gC bq] at ac;cases ac
   ·omega
  by_cases bq:off+n*size<G.size
  ·have:=ah (G.size-1) (.inr (by omega))
   rw[gC (by omega:G.size-1<G.size)] at this;have:=(dX.1 this).1;omega
  ·omega
 have bk:H.toList=G.toList.take off++ys++G.toList.drop (off+n*size):=by
  apply hJ;intro j;by_cases ac:j<off
  ·rw[dW,eZ (by simp;omega),ft,eG ac]
   have:=ah j (.inl ac);simpa using this
  ·by_cases aw:j<off+n*size
   ·have bc:(G.toList.take off).length=off:=by simp;omega
    rw[dW,eU (by omega),eZ (by omega),bc];have cb:ys[j-off]? =some ys[j-off]:=dT (by omega);have:=cp (j-off) _ cb;rw[cb,show off+(j-off)=j by omega] at*;simpa using this
   ·have bc:(G.toList.take off++ys).length=off+n*size:=by simp;omega
    rw[eU (by omega),bc,fK,show off+n*size+(j-(off+n*size))=j by omega];have:=ah j (.inr (by omega));simpa using this
 have Z:Same I w w':=λb j h=>an b j (.inl h);have cu:w.grownBy w' (some O):=⟨aa.os,aa.tape,aa.output,aa.size,λk hk am=>aa.block k hk (by
  rintro⟨i,_,hi⟩
  have hi:blockOf (A.eval x)=some k:=hi;rw[ak] at hi;exact am (by simpa[blockOf] using hi.symm))⟩
 have ca:xs.take off++ys++xs.drop (off+n*size)=H.toList.take (n0*size):=by
  rw[bk,<-bz];have hL:off+n*size<=n0*size:=by rw[<-hl];exact bm
  exact(yAK dg hL (by simp;rw[az];exact fP _ bg)).symm
 have de:Reps w' I (xs.take off++ys++xs.drop (off+n*size)) (L.take off++D++L.drop (off+n*size)):=
  ((Reps.mono (hr.take off) Z λ_ _ h=>h).append (yO0 bv hv)).append (Reps.mono (hr.drop _) Z λ_ _ h=>h)
 have br:=hs.modify (id:=id) (x:= .row e size false (L.take off++D++L.drop (off+n*size))) cu cz (by rw[ad];rfl) Z ⟨⟨hp,hM⟩,n0,xs.take off++ys++xs.drop (off+n*size),by simp;omega,⟨by simp;omega,.inr ⟨O,cf,H,ad,hB,bo,bg,cr,by rw[df];exact az,ca.symm⟩⟩,by
   intro u hu;simp only[fk] at hu;rcases hu with (hu | hu) | hu
   ·exact h1 u (gA hu)
   ·exact ci u hu
   ·exact h1 u (fW hu),de,by
   intro g' j bb hi;rw[ad] at bb;simp[Value.ownBlock] at bb;subst bb;exact absurd hi (al j)⟩ hE
 refine hk _ _ ⟨I,ρ,C,br.put hn ?_⟩;obtain⟨zs,hz,dh⟩:=bw;exact⟨zs,hz,dQ dh.1▸Pw.nil⟩
end
end Go.AV
namespace Go.M
def zNN {h:Type} (f:List h->Option (List h)) (l:List h) (a b:Int):Option (List h):=
 if 0<=a/\a<b/\b.toNat<=l.length then (f ((l.drop a.toNat).take (b.toNat-a.toNat))).map λm=>l.take a.toNat++m++l.drop b.toNat else none
end Go.M
namespace Go.AV
open Go.RowKit Go.M
section
variable {P:Program} {r:Option Nat} {E:Env} {S:AState} {d ty:Nat} {pos:String} {af:Array Edge} {g:Option (Nat×Bool)}
theorem yYD (l:List Int):∀x∈eI.all l,∃u,x= .v u:=by intro x k;obtain⟨n,_,h⟩:=List.mem_flatMap.1 k;have h:x∈[di n]:=h;simp at h;exact⟨_,h⟩
theorem yTJ {D:Type} {en:En D} {f e id H:Nat} {x y:Operand} {ats:Array TypeId} {l Z:List D} {a b:Int} {O:DV} {mf:List D->Option (List D)} (hn:d<E.n) (hx:S.ev x= .rs id (a.toNat*en.size) (b.toNat-a.toNat)) (hy:S.ev y= .d O) (hb:S.blk id= .row e en.size false (en.all l))
  (G:zNN mf l a b=some Z) (hv:∀(m:List D),∀x∈en.all m,∃u,x= .v u) (hc:∀m h,mf m=some h->GC P f [.row H,.d O] [(H,.win e en.size 0 (en.all m))] [H] [] [(H,.win e en.size 0 (en.all h))]) (hE:E.wrB=true) (hG:E.gdt=vF P:=by rfl):
  jI P r E ⟨some d,.call {callee:= .value (.func f),args:= #[x,y],argTypes:=ats},ty,pos,af,g⟩ S ((S.setBlk id (.row e en.size false (en.all Z))).put d (.tupc [])):=by
 unfold zNN at G;split at G
 ·rename_i K
  obtain⟨h,hm,rfl⟩:=g6.1 G;have T:=hc _ _ hm;have e0:en.all ((l.drop a.toNat).take (b.toNat-a.toNat))=((en.all l).drop (a.toNat*en.size)).take ((b.toNat-a.toNat)*en.size):=by rw[zL4,zOQ]
  rw[e0] at T;have k:a.toNat*en.size+(b.toNat-a.toNat)*en.size=b.toNat*en.size:=by rw[<-fT];congr 1;omega
  have h2:=yTI (P:=P) (r:=r) (E:=E) (S:=S) (d:=d) (ty:=ty) (pos:=pos) (af:=af) (g:=g) (ats:=ats) hn hx hy hb (by omega) (by rw[k,vE];exact fP _ K.2.2) (hv h) T hE hG
  have e1:en.all (l.take a.toNat++h++l.drop b.toNat)=(en.all l).take (a.toNat*en.size)++en.all h++(en.all l).drop (a.toNat*en.size+(b.toNat-a.toNat)*en.size):=by
   rw[k,zL4,zOQ];simp[En.all,List.flatMap_append]
  rw[e1];exact h2
 ·cases G
theorem z6U {K:Type} {en:En K} {t e bytes:Nat} {z:Value} {x lo hi:Operand} {id:Nat} {sh:Bool} {l:List K} {G H:IntKind} {a b:Int} (Z:d<E.n) (T:SlTy P t e en.size bytes z) (hx:S.ev x= .row id) (hb:S.blk id= .row e en.size sh (en.all l)) (D:S.ev lo= .d (.v (.int G a))) (k:S.ev hi= .d (.v (.int H b)))
  (h0:0<=a) (h1:a<b) (O:b.toNat<=l.length):AOp P r E S ⟨some d,.slice t x (some lo) (some hi) none,ty,pos,af,g⟩ d (.rs id (a.toNat*en.size) (b.toNat-a.toNat)):=
 z5Z Z T hx hb (vE en l) (lo:=some lo) (hi:=some hi) (l:=a.toNat) (h:=b.toNat) ⟨⟨G,a,D,by omega⟩,⟨H,b,k,by omega⟩,by omega,O⟩
end
end Go.AV
namespace Go.M
def zA9 {h k:Type} (f:List h->Option (List h)) (lo hi: k->Int) (l:List h) (items:List k):Option (List h):=items.foldl (λo x=>o.bind λl=>zNN f l (lo x) (hi x)) (some l)
theorem zQW {h k:Type} (f:List h->Option (List h)) (lo hi: k->Int):∀items:List k,items.foldl (λ(o:Option (List h)) x=>o.bind λl=>zNN f l (lo x) (hi x)) none=none
 | []=>rfl
 | _::r=>zQW f lo hi r
noncomputable def outK {h D:Type} (f:List h->Option (List h)) (lo hi: D->Int) (l:List h) (items:List D) (k:Nat):List h:=(zA9 f lo hi l (items.take k)).getD []
theorem yF7 {H K:Type} {f:List H->Option (List H)} {lo hi: K->Int} {l r:List H} {items:List K} (h:zA9 f lo hi l items=some r) {k:Nat} {v: K} (T:items[k]? =some v):zNN f (outK f lo hi l items k) (lo v) (hi v)=some (outK f lo hi l items (k+1)):=by
 have hk:=(dV.1 T).1;have e:zA9 f lo hi l (items.take (k+1))=(zA9 f lo hi l (items.take k)).bind λl=>zNN f l (lo v) (hi v):=by
  unfold zA9;rw[iA,T,List.foldl_append];rfl
 have Z:∃x,zA9 f lo hi l (items.take (k+1))=some x:=by
  cases D:zA9 f lo hi l (items.take (k+1)) with
  | some x=>exact⟨x,rfl⟩
  | none=>
   exfalso;have G:=h;rw[<-fh (k+1) items] at G;unfold zA9 at G D;rw[List.foldl_append,D,zQW] at G;cases G
 obtain⟨x,D⟩:=Z;rw[D] at e;unfold outK;rw[D];cases O:zA9 f lo hi l (items.take k) with
 | none=>rw[O] at e;cases e
 | some y=>rw[O] at e;exact e.symm
theorem yJ8 {k D:Type} {f:List k->Option (List k)} {lo hi: D->Int} {l r:List k} {items:List D} (h:zA9 f lo hi l items=some r):outK f lo hi l items items.length=r:=by unfold outK;rw[iD,h];rfl
theorem yJ9 {k:Type} {f:List k->Option (List k)} {l D:List k} {a b:Int} (h:zNN f l a b=some D):0<=a/\a<b/\b.toNat<=l.length:=by unfold zNN at h;split at h;assumption;cases h
end Go.M
namespace Go.AV
open Go.RowKit Go.M
variable {E:Env} {S S':AState} {P:Program} {r:Option Nat} {l:List Oper} {J:AState->Prop} {fuel i d k:Nat} {listed:List Bool} {o:Oper} {x:AV} {v:Value} {vs:Nat->Value} {a:Act} {U fl:List (Nat×Nat)} {w:World} {u:Nat×Nat}
theorem wc (ht:Cov S S'.tmps:=by repeat (first | exact trivial | refine⟨rfl,?_⟩)) (hb:zQ8 S S'.blks:=by repeat (first | exact trivial | refine⟨rfl,?_⟩)) (hgh:∀C w,E.fr S.ghost C w->E.fr S'.ghost C w:=by exact λ_ _ h=>h):zDZ E S S':=zLZ ht hb hgh
abbrev GdO (o:Oper) (ops:Array Oper) (S:AState) (E:Env) (j t d:Nat) (b q:Bool):Prop:=(o.guard,(ops[j]?).bind (·.dst),o.dst,S.get t,Nat.blt d E.n,Nat.blt t E.n)=(some (j,q),some t,some d,AV.d (.v (.bool b)),true,true)
section
variable {j t:Nat} {is:List Nat} {b:Bool} {ops:Array Oper} {rest:List Oper}
theorem xa (G:l[i]? =some o) (h:AOp P r E S o d x) (k:zFV P r E l J fuel (listed.set i true) (S.put d x)) (H:AnyE P r E l J fuel listed S is) (D:o.guard=none:=by rfl):AnyE P r E l J fuel listed S (i::is):=yR9 G D h k H
theorem xb (G:l[i]? =some o) (h:jI P r E o S S') (k:zFV P r E l J fuel (listed.set i true) S') (H:AnyE P r E l J fuel listed S is) (D:o.guard=none:=by rfl):AnyE P r E l J fuel listed S (i::is):=yR8 G D h k H
theorem xc (G:l[i]? =some o) (h:AOp P r E S o d x) (k:zFV P r E l J fuel (listed.set i true) (S.put d x)) (D:o.guard=none:=by rfl):AnyE P r E l J fuel listed S [i]:=yR9 G D h k yC5
theorem xd (G:l[i]? =some o) (h:jI P r E o S S') (k:zFV P r E l J fuel (listed.set i true) S') (D:o.guard=none:=by rfl):AnyE P r E l J fuel listed S [i]:=yR8 G D h k yC5
theorem xn (is:List Nat) (h:AnyE P r E l J fuel listed S is) (G:rdy l listed=is:=by kernel_rfl) (D:is.isEmpty=false:=by rfl):zFV P r E l J (fuel+1) listed S:=yWI is G D h
theorem sqt (x:AV) (D:GdO o ops S E j t d b true) (h:b=true->AOp P r E S o d x) (k:Sq P r E ops rest (S.put d (.cond (gd true b) x)) J):Sq P r E ops (o::rest) S J:=by injection D with G D;injection D with H D;injection D with K D;injection D with O D;injection D with T Z;exact yON G H K (lq T) (lq Z) O h k
theorem sqf (x:AV) (D:GdO o ops S E j t d b false) (h:b=false->AOp P r E S o d x) (k:Sq P r E ops rest (S.put d (.cond (gd false b) x)) J):Sq P r E ops (o::rest) S J:=by injection D with G D;injection D with H D;injection D with K D;injection D with O D;injection D with T Z;exact yON G H K (lq T) (lq Z) O (λhb=>h (gF hb)) k
theorem dat (x:AV) (D:GdO o ops S E j t d b true) (h:b=true->AOp P r E S o d x) (k:DA P r E ops rest (S.put d (.cond (gd true b) x)) J):DA P r E ops (o::rest) S J:=by injection D with G D;injection D with H D;injection D with K D;injection D with O D;injection D with T Z;exact yWB G H K (lq T) (lq Z) O h k
theorem daf (x:AV) (D:GdO o ops S E j t d b false) (h:b=false->AOp P r E S o d x) (k:DA P r E ops rest (S.put d (.cond (gd false b) x)) J):DA P r E ops (o::rest) S J:=by injection D with G D;injection D with H D;injection D with K D;injection D with O D;injection D with T Z;exact yWB G H K (lq T) (lq Z) O (λhb=>h (gF hb)) k
theorem zX {c:Operand} {y z:Code} {K:Exit->AState->Prop} {D:Type} {A B:Option D} {q:Option D} (h:cond b A B=q) (H:A=q->Avc P r E y K S) (O:B=q->Avc P r E z K S) (G:S.ev c= .d (.v (.bool b)):=by rfl):Avc P r E (.cond c y z) K S:=
 k9 G ⟨λe=>H (cT e h),λe=>O (cF e h)⟩
end
section
variable {x:Operand} {ty:TypeId} {pos:String} {af:Array Edge}
theorem xm (i:Nat) (k:zFV P r E l J fuel (listed.set i true) (S.put d (S.ev x))) (hi:l[i]? =some ⟨some d,.move x,ty,pos,af,none⟩:=by rfl) (H:d<E.n:=by exact lq rfl) (K:r=none:=by rfl) (h:zNM l=true:=by rfl) (D:z24 l listed i ⟨some d,.move x,ty,pos,af,none⟩=true:=by rfl) (G:(rdy l listed).contains i=true:=by rfl):zFV P r E l J (fuel+1) listed S:=yJ7 hi H K h D G k
end
theorem fx {F G:Prop} (f:F) (h:F->G:=by first | exact λf=>OneTy.of f rfl (by kernel_rfl) | exact λf=>AggTy.of f rfl (by kernel_rfl) | exact λf=>FldTy.of f rfl (by kernel_rfl) (by decide) | exact λf=>SlTy.of f (by kernel_rfl) rfl (by decide) rfl | exact λf=>StTy.of f (by kernel_rfl) (by kernel_rfl) rfl):G:=h f
theorem co {F H G:Prop} (f:F) (k:H) (h:F->H->G:=by exact λf k=>z5M f (by kernel_rfl) rfl (lq rfl) (lq rfl) k):G:=h f k
theorem ae {S2:AState} {e:Exit} (D:rdy l listed= []:=by rfl) (h:zDZ E S S2:=by exact wc):zFV P r E l (outK E e S2 e) fuel listed S:=yOZ D (z1 h)
theorem tl {K:Exit->AState->Prop} {c:Code} (e:Exit) (S2:AState) (h:Avc P r E c (outK E e S2) S) (D:K e S2):Avc P r E c K S:=zL3 h D
theorem oi {D:Type} {a b: D} (h:some a=some b):a=b:=iH h
def mvO (d:Nat) (v:Value):Oper:=⟨some d,.move (.const v),0, "",#[],none⟩
def pnd (a:Act) (vs:Nat->Value):List (Nat×Nat)->Act
 | []=>a
 | u::U=>(pnd a vs U).put (some u.2) (vs u.2)
def yF8 (ops:Array Oper) (h:Oper) (d:Nat):Bool:=!(h.looksAt ops).contains d&&h.dst != some d
def unf (listed:List Bool) (U:List (Nat×Nat)):List Bool:=(List.range listed.length).map λk=>listed.getD k true&& !U.any λu=>u.1==k
section
theorem yWJ (ops:Array Oper) (d:Nat) (v:Value) (a:Act):YieldsFenced P ops (mvO d v) v a:=
 ⟨.inl ⟨rfl,λw=>by simp[mvO,execOp,Act.eval]⟩,λw=>rfl⟩
theorem yTL {ops:Array Oper} {D:Oper} (h:yF8 ops D d=true):(mvO d v).apart ops D=true:=by
 unfold Oper.apart;unfold yF8 at h;have e:(mvO d v).looksAt ops= []:=by simp[mvO,Oper.looksAt,Op.operands]
 rw[e];simp only[mvO,h,eV];cases D.dst<;>simp
theorem yAM {j:Nat} {G:Oper} (Z:r=none) (T:l.toArray[j]? =some G) (D:∀cs b,G.op≠ .select cs b):
  ∀(U:List (Nat×Nat)),(∀u∈U,yF8 l.toArray G u.2=true)->∀{K:Act->World->Prop} {a:Act} {w:World},wpOpIn (fen r) 0 P l.toArray (QJ E J) j K (pnd a vs U) w->wpOpIn (fen r) 0 P l.toArray (QJ E J) j (λH w'=>K (pnd H vs U) w') a w
 | [],_,_,_,_,h=>h
 | u::U,O,K,a,w,h=>by
  have h1:=wpOpIn_put (oi:=mvO u.2 (vs u.2)) (v:=vs u.2) (F:=fen r) (n:=0) (P:=P) (Q:=QJ E J) (by rw[Z];rfl) T (yTL (O u (by simp))) (λcs b e=>by cases e) D (λc a w h=>h.elim) (yWJ (P:=P) l.toArray u.2 (vs u.2) (pnd a vs U)) h
  exact yAM Z T D U (λq hq=>O q (by simp[hq])) (wpOpIn_mono (λH w' h=>h.2) h1)
theorem yKA {V:List (Nat×Nat)} (h:U.Perm V):pnd a vs U=pnd a vs V:=by
 induction h with
 | nil=>rfl
 | cons x _ H=>show (pnd a vs _).put _ _=(pnd a vs _).put _ _;rw[H]
 | swap x y U=>
  show ((pnd a vs U).put (some x.2) (vs x.2)).put (some y.2) (vs y.2)=((pnd a vs U).put (some y.2) (vs y.2)).put (some x.2) (vs x.2);by_cases e:x.2=y.2
  · rw[e]
  · exact Act.put_comm _ _ _ (λd D G=>e (by injection D with D;injection G with G;omega))
 | trans _ _ D G=>exact D.trans G
theorem yO1 {A:Act} (G:d<E.n) (h:Sat E S (A.put (some d) v) w):Sat E (S.put d .top) A w:=by
 obtain⟨I,ρ,C,h⟩:=h;refine⟨I,ρ,C,λt=>?_,h.blks,h.dist,by rw[vZ S _ G];exact h.frame,h.sub,h.old,by have:=h.size;simpa[Act.put] using this,h.defers,h.cI,h.cB,h.nm⟩
 rw[wK];by_cases D:d=t;rw[eG D];trivial;rw[dU D];have:=h.tmps t;simp only[Act.put] at this;rw[dZ,eX D] at this;rw[dZ];exact this
theorem yKB {A:Act} (G:d<E.n) (h:Sat E ((S.put d .top).put d (S.get d)) A w):Sat E S A w:=by
 obtain⟨I,ρ,C,h⟩:=h;refine⟨I,ρ,C,λt=>?_,h.blks,h.dist,by have:=h.frame;rw[vZ _ _ G,vZ S _ G] at this;exact this,h.sub,h.old,h.size,h.defers,h.cI,h.cB,h.nm⟩
 have:=h.tmps t;rw[wK,wK] at this;by_cases D:d=t;rw[eG D] at this;rw[<-D];rw[<-D] at this;exact this;rw[dU D,dU D] at this;exact this
def FlS (P:Program) (r:Option Nat) (E:Env) (l:List Oper) (S:AState) (u:Nat×Nat):Prop:= ∃o,l[u.1]? =some o/\o.guard=none/\u.2∉o.looksAt l.toArray/\AOp P r E S o u.2 (S.get u.2)
theorem yAN (hr:r=none) (K:zNM l=true) (hu:u∈U) (hf:FlS P r E l S u) (G:∀o,l[u.1]? =some o->∀q∈U.erase u,yF8 l.toArray o q.2=true) (h:Sat E S (pnd a vs U) w):
  wpOpIn (fen r) 0 P l.toArray (QJ E J) u.1 (λa' w'=>Sat E S (pnd a' vs (U.erase u)) w') a w:=by
 obtain⟨o,T,hg,O,H⟩:=hf;have hd:u.2<E.n:=H.2.1;rw[yKA (List.perm_cons_erase hu)] at h;have h1:=yO1 hd h;have D:l.toArray[u.1]? =some o:=by simpa using T
 have aa:jI P r E o (S.put u.2 .top) ((S.put u.2 .top).put u.2 (S.get u.2)):=H.2.2 (S.put u.2 .top) ⟨rfl,λt ht=>by
  rw[wK,dU (λe=>O (by rw[e];exact zPN ht))]⟩
 refine yAM hr D (λcs b e=>?_) (U.erase u) (G o T) ?_
 ·have:=eO.1 K o (fH T)
  rw[e] at this;cases this
 ·unfold wpOpIn
  simp only[D];exact zJZ hg aa (pnd a vs (U.erase u)) w _ _ h1 λa' w' Z=>yKB hd Z
def zLO (l:List Oper) (fl:List (Nat×Nat)):Bool:=
 fl.all (λu=>match l[u.1]? with
  | none=>false
  | some o=>(aft o).all λj=>!fl.any λq=>q.1==j)&&
 (List.range l.length).all (λj=>match l[j]? with
  | none=>true
  | some h=>fl.all λu=>j==u.1 ||(aft h).contains u.1 ||yF8 l.toArray h u.2)&&zNM l&&fl.all λu=>fl.all λq=>u.1 != q.1 ||u==q
def zKZ (l:List Oper) (fl:List (Nat×Nat)) (listed:List Bool):Bool:=listed.length==l.length&&fl.all λu=>listed.getD u.1 false&&match l[u.1]? with
 | none=>false
 | some o=>(aft o).all λj=>listed.getD j false
def AnyF (P:Program) (r:Option Nat) (E:Env) (l:List Oper) (J:AState->Prop) (fl:List (Nat×Nat)) (fuel:Nat) (listed:List Bool) (S:AState):Prop:=
 ∀(U:List (Nat×Nat)),U.Nodup->(∀u∈U,u∈fl)->∀(vs:Nat->Value) (a:Act) (w:World),Sat E S (pnd a vs U) w->wpAnyIn (fen r) 0 P .any l.toArray (QJ E J) (fuel+U.length) (unf listed U).toArray a w
theorem zJI (listed:List Bool) (U:List (Nat×Nat)):(unf listed U).length=listed.length:=by simp[unf]
theorem zSI {b:Bool} (h:k<listed.length):(unf listed U).toArray.getD k b=(listed.getD k true&& !U.any λu=>u.1==k):=by simp[unf,dZ,h]
theorem z27 {D:List Bool} (h:D.getD k false=true):k<D.length/\D.getD k true=true:=by by_cases G:k<D.length;refine⟨G,?_⟩;simp[eT,G] at h ⊢;exact h;simp[eT,fN (Nat.le_of_not_lt G)] at h
theorem zJJ:(U.any λu=>u.1==k)=true↔∃u∈U,u.1=k:=by simp[gX]
section
theorem yAO (G:zLO l fl=true) (D:zKZ l fl listed=true) (K:∀u∈U,u∈fl) (T:u∈U):u.1∈Region.ready .any l.toArray (unf listed U).toArray:=by
 simp only[zLO,zKZ,eC,eO,beq_iff_eq] at G D;obtain⟨h1,h⟩:=D.2 u (K u T);obtain⟨k1,k2⟩:=z27 h1;have H:=G.1.1.1 u (K u T);cases O:l[u.1]? with
 | none=>rw[O] at h;cases h
 | some o=>
  rw[O] at h H;simp only[eO] at h H;refine zXB O ?_ λj Z=>?_;rw[zSI k1];have:(U.any λq=>q.1==u.1)=true:=zJJ.2 ⟨u,T,rfl⟩;rw[this];simp;obtain⟨j1,j2⟩:=z27 (h j Z);rw[zSI j1,j2];have:=H j Z;cases he:(U.any λq=>q.1==j) with
  | false=>rfl
  | true=>
   obtain⟨q,hq,e⟩:=zJJ.1 he;have h3:(fl.any λq=>q.1==j)=true:=zJJ.2 ⟨q,K q hq,e⟩;rw[h3] at this;cases this
theorem zRD (D:zKZ l fl listed=true) (hi:i∈Region.ready .any l.toArray (unf listed U).toArray) (hn:¬∃u∈U,u.1=i):i∈rdy l listed:=by
 simp only[zKZ,eC,beq_iff_eq] at D;obtain⟨G,H,O⟩:=zDP hi;have T:(U.any λu=>u.1==i)=false:=by
  cases Z:(U.any λu=>u.1==i) with
  | false=>rfl
  | true=>exact absurd (zJJ.1 Z) hn
 rw[zSI (by omega),T] at H;simp only[rdy,fX,fQ,eC,fG];refine⟨G,by simpa using H,?_⟩;have K:=dT G;rw[K];simp only[eO];intro j hj;have:=O _ K j hj;by_cases h:j<listed.length;rw[zSI h] at this;simp only[eC] at this;have q:=this.1;simp[eT,h] at q ⊢;exact q;rw[dZ,Array.getElem?_eq_none (by rw[gO,zJI];omega)] at this
 cases this
theorem yF9 (H:zLO l fl=true) (G:zKZ l fl listed=true) (K:∀u∈U,u∈fl) (O:U.Nodup) (Z:u∈U):(unf listed U).set u.1 true=unf listed (U.erase u):=by
 simp only[zLO,zKZ,eC,eO,gQ,bne_iff_ne,beq_iff_eq] at H G;refine iE (by simp[zJI]) λk h1 T=>?_;have hk:k<listed.length:=by rw[zJI] at T;exact T
 rw[List.getElem_set];by_cases e:u.1=k
 ·subst e
  obtain⟨_,k2⟩:=z27 (G.2 u (K u Z)).1;have:((U.erase u).any λq=>q.1==u.1)=false:=by
   cases he:((U.erase u).any λq=>q.1==u.1) with
   | false=>rfl
   | true=>
    obtain⟨q,D,e⟩:=zJJ.1 he;have:=H.2 u (K u Z) q (K q (iI D));rcases this with h | h
    ·exact absurd e.symm h
    ·subst h;exact absurd D (O.not_mem_erase)
  rw[eT] at k2;simp[unf,k2,this]
 ·have:(U.any λq=>q.1==k)=((U.erase u).any λq=>q.1==k):=by
   rw[i4,zJJ,zJJ];constructor
   ·rintro⟨q,D,rfl⟩
    exact⟨q,(List.mem_erase_of_ne (λh=>e (by rw[h]))).2 D,rfl⟩
   ·rintro⟨q,D,rfl⟩
    exact⟨q,iI D,rfl⟩
  simp[unf,e,this]
theorem yC6 (hi:i<listed.length) (K:¬∃u∈U,u.1=i):(unf listed U).set i true=unf (listed.set i true) U:=by
 refine iE (by simp[zJI]) λk O h=>?_;have H:k<listed.length:=by simpa[zJI] using h
 rw[List.getElem_set];have D:(U.any λu=>u.1==i)=false:=by
  cases G:(U.any λu=>u.1==i) with
  | false=>rfl
  | true=>exact absurd (zJJ.1 G) K
 by_cases e:i=k;subst e;simp[unf,D,hi];simp[unf,e,H,List.getElem_set_ne e]
end
theorem yWK (hr:r=none) (H:zLO l fl=true) (G:zKZ l fl listed=true) (aq:∀u∈fl,FlS P r E l S u)
  (Z:∀j∈rdy l listed,∃f o S',fuel=f+1/\l[j]? =some o/\o.guard=none/\jI P r E o S S'/\AnyF P r E l J fl f (listed.set j true) S') (ao:rdy l listed= []->J S):AnyF P r E l J fl fuel listed S:=by
 have ah:zNM l=true:=by simp only[zLO,eC] at H;exact H.1.2
 have bg:listed.length=l.length:=by simp only[zKZ,eC,beq_iff_eq] at G;exact G.1
 have off:∀{U:List (Nat×Nat)} {j:Nat} {oj:Oper},(∀u∈U,u∈fl)->l[j]? =some oj->j∈Region.ready .any l.toArray (unf listed U).toArray->∀u∈U,j≠u.1->yF8 l.toArray oj u.2=true:=by
  intro U j oj K hj bb u D ba;have ay:=(dV.1 hj).1;simp only[zLO,eC,eO] at H;have h1:=H.1.1.2 j (fQ.2 ay);rw[hj] at h1;simp only[eO,gQ,beq_iff_eq] at h1;rcases h1 u (K u D) with (h | h) | h
  ·exact absurd h ba
  ·exfalso
   have hm:=im.1 h;have h2:=(zDP bb).2.2 oj hj u.1 hm;have bc:u.1<listed.length:=by
    simp only[zKZ,eC,eO] at G;exact(z27 (G.2 u (K u D)).1).1
   rw[zSI bc] at h2;have:(U.any λq=>q.1==u.1)=true:=zJJ.2 ⟨u,D,rfl⟩;rw[this] at h2;simp at h2
  ·exact h
 have key:∀(n:Nat) (U:List (Nat×Nat)),U.length=n->U.Nodup->(∀u∈U,u∈fl)->∀(vs:Nat->Value) (a:Act) (w:World),Sat E S (pnd a vs U) w->wpAnyIn (fen r) 0 P .any l.toArray (QJ E J) (fuel+n) (unf listed U).toArray a w:=by
  intro n
  induction n with
  | zero=>
   intro U hn O K vs a w hs;have:U= []:=dQ hn;subst this;have sub:∀i,i∈rdy l listed->i∈Region.ready .any l.toArray (unf listed []).toArray:=by
    intro i hi;have e:unf listed []=listed:=by
     refine iE (by simp[zJI]) λk h1 h2=>?_;simp[unf,h2]
    rw[e];exact z23 (im.2 hi)
   have e0:Region.ready .any l.toArray (unf listed []).toArray= []->J S:=λhe=>ao (ir.2 λi hi=>by
    have:=sub i hi;rw[he] at this;cases this)
   cases fuel with
   | zero=>
    have he:Region.ready .any l.toArray (unf listed []).toArray= []:=ir.2 λi hi=>by
     obtain⟨f,_,_,h0,_⟩:=Z i (zRD G hi (λ⟨u,D,_⟩=>by cases D));cases h0
    exact⟨he,S,e0 he,hs⟩
   | succ fuel=>
   refine⟨λhe=>⟨S,e0 he,hs⟩,λi hi=>?_⟩
   ·obtain⟨f,o,S',hf,ho,hg,ak,hk⟩:=Z i (zRD G hi (λ⟨u,D,_⟩=>by cases D))
    cases hf;have ab:l.toArray[i]? =some o:=by simpa using ho
    unfold wpOpIn;simp only[ab];refine zJZ hg ak a w _ _ hs λa' w' T=>?_;have au:=(zDP hi).1;rw[zSG,yC6 (by omega) (λ⟨u,D,_⟩=>by cases D)];exact hk [] .nil (λu D=>by cases D) vs a' w' T
  | succ n ih=>
   intro U hn O K vs a w hs;refine⟨λhe=>?_,λi hi=>?_⟩
   ·exfalso
    cases U with
    | nil=>cases hn
    | cons u U=>
     have:=yAO (listed:=listed) H G K (u:=u) (by simp);rw[he] at this;cases this
   ·by_cases aa:∃u∈U,u.1=i
    ·obtain⟨u,D,rfl⟩:=aa
     refine wpOpIn_mono (λa' w' T=>?_) (yAN (J:=J) hr ah D (aq u (K u D)) (λo ho q hq=>off K ho hi q (iI hq) (λe=>?_)) hs)
     ·rw[zSG,yF9 H G K O D]
      exact ih (U.erase u) (by rw[List.length_erase_of_mem D];omega) (O.erase u) (λq hq=>K q (iI hq)) vs a' w' T
     ·simp only[zLO,eC,eO,gQ,bne_iff_ne,beq_iff_eq] at H
      rcases H.2 u (K u D) q (K q (iI hq)) with h | h
      ·exact h e
      ·subst h;exact O.not_mem_erase hq
    ·obtain⟨f,o,S',hf,ho,hg,ak,hk⟩:=Z i (zRD G hi aa)
     subst hf;have ab:l.toArray[i]? =some o:=by simpa using ho
     have au:=(zDP hi).1;have h1:wpOpIn (fen r) 0 P l.toArray (QJ E J) i (λa' w'=>Sat E S' a' w') (pnd a vs U) w:=by
      unfold wpOpIn;simp only[ab];exact zJZ hg ak (pnd a vs U) w _ _ hs λa' w' h=>h
     have h2:=yAM (vs:=vs) hr ab (λcs b e=>by
      have:=eO.1 ah o (fH ho);rw[e] at this;cases this) U (λu D=>off K ho hi u D (λe=>aa ⟨u,D,e.symm⟩)) h1
     refine wpOpIn_mono (λa' w' T=>?_) h2;rw[zSG,yC6 (by omega) aa];have h3:=hk U O K vs a' w' T;rw[show f+U.length=f+1+n by omega] at h3;exact h3
 intro U O K vs a w hs;exact key U.length U rfl O K vs a w hs
end
def Fl (E:Env) (S:AState) (x:AV):Prop:= ∀a w I ρ C,SatAt E S a w I ρ C->∃v,Holds w I ρ v x
section
theorem zB2 {x:Operand} {cells:List DV} {off:Nat} {e:DV} (O:S.ev x= .ip cells off) (G:cells[off]? =some e):Fl E S (.d e):=λa w I ρ C K=>by
 have h:=K.ev x;rw[O] at h;obtain⟨b,o',xs,Z,H,T,_⟩:=h;have D:off<xs.length:=by rw[H.1];exact(dV.1 G).1
 exact⟨xs[off],H.2 off _ e (dT D) G⟩
def FlA (P:Program) (r:Option Nat) (E:Env) (l:List Oper) (S:AState):List (Nat×Nat)->Prop
 | []=>True
 | u::fl=>FlS P r E l S u/\FlA P r E l S fl
theorem FlA.mem:∀{fl:List (Nat×Nat)},FlA P r E l S fl->∀u∈fl,FlS P r E l S u
 | [],_,u,h=>by cases h
 | v::fl,h,u,D=>by
  rcases eP.1 D with e | D;rw[e];exact h.1;exact h.2.mem u D
def AnyG (P:Program) (r:Option Nat) (E:Env) (l:List Oper) (J:AState->Prop) (fl:List (Nat×Nat)) (fuel:Nat) (listed:List Bool) (S:AState):List Nat->Prop
 | []=>True
 | i::is=>(∃o S',l[i]? =some o/\o.guard=none/\jI P r E o S S'/\AnyF P r E l J fl fuel (listed.set i true) S')/\AnyG P r E l J fl fuel listed S is
theorem AnyG.mem:∀{is:List Nat} {i:Nat},AnyG P r E l J fl fuel listed S is->i∈is->∃o S',l[i]? =some o/\o.guard=none/\jI P r E o S S'/\AnyF P r E l J fl fuel (listed.set i true) S'
 | [],_,_,h=>by cases h
 | k::is,i,h,hi=>by
  rcases eP.1 hi with e | hi;subst e;exact h.1;exact AnyG.mem h.2 hi
theorem yGA (is:List Nat) (hf:FlA P r E l S fl) (h:AnyG P r E l J fl fuel listed S is) (hr:r=none) (K:zLO l fl=true) (H:zKZ l fl listed=true) (G:rdy l listed=is) (D:is.isEmpty=false):AnyF P r E l J fl (fuel+1) listed S:=
 yWK hr K H hf.mem (λj O=>by
  rw[G] at O;obtain⟨o,S',T,Z,h3,h4⟩:=h.mem O;exact⟨fuel,o,S',rfl,T,Z,h3,h4⟩) (λe=>by rw[<-G,e] at D;cases D)
theorem zXP (O:FlA P r E l S fl) (h:J S) (T:r=none) (G:zLO l fl=true) (D:zKZ l fl listed=true) (H:rdy l listed= []):AnyF P r E l J fl fuel listed S:=
 yWK T G D O.mem (λj K=>by rw[H] at K;cases K) (λ_=>h)
theorem fa (h:FlS P r E l S u) (k:FlA P r E l S fl):FlA P r E l S (u::fl):=⟨h,k⟩
theorem fz:FlA P r E l S []:=trivial
theorem zDR {is:List Nat} (G:l[i]? =some o) (D:o.guard=none) (h:AOp P r E S o d x) (k:AnyF P r E l J fl fuel (listed.set i true) (S.put d x)) (H:AnyG P r E l J fl fuel listed S is):AnyG P r E l J fl fuel listed S (i::is):=
 ⟨⟨o,_,G,D,h.step,k⟩,H⟩
theorem zVO {is:List Nat} (G:l[i]? =some o) (D:o.guard=none) (h:jI P r E o S S') (k:AnyF P r E l J fl fuel (listed.set i true) S') (H:AnyG P r E l J fl fuel listed S is):AnyG P r E l J fl fuel listed S (i::is):=
 ⟨⟨o,S',G,D,h,k⟩,H⟩
theorem ff (K:l[i]? =some o) (G:o.guard=none) (h:AOp P r E S o d (S.get d)) (H:(o.looksAt l.toArray).contains d=false):FlS P r E l S (i,d):=by refine⟨o,K,G,λe=>?_,h⟩;have D:=im.2 e;rw[H] at D;cases D
theorem yKC:∀{U:List (Nat×Nat)},(∀u∈U,u.2≠d)->pnd a (λt=>if t=d then v else vs t) U=pnd a vs U
 | [],_=>rfl
 | u::U,h=>by
  show (pnd a _ U).put _ _=(pnd a vs U).put _ _;rw[yKC (λq D=>h q (by simp[D]))];simp only[dU (h u (by simp))]
theorem zAC (i d:Nat) (hx:Fl E S x) (hn:d<E.n) (h:AnyF P r E l J ((i,d)::fl) fuel (listed.set i true) (S.put d x)) (hi:listed.getD i true=false) (hd:fl.all (λu=>u.2 != d)=true):AnyF P r E l J fl (fuel+1) listed S:=by
 intro U Z hU vs a w O;obtain⟨I,ρ,C,O⟩:=O;obtain⟨v,hv⟩:=hx _ _ _ _ _ O;have D:i<listed.length:=by
  rcases gH i listed.length with h | h;exact h;rw[eT,fN h] at hi;cases hi
 have G:∀u∈U,u.2≠d:=λu H=>by
  have:=eO.1 hd u (hU u H);simpa using this
 have K:=h ((i,d)::U) (List.nodup_cons.2 ⟨λhm=>G _ hm rfl,Z⟩) (λu H=>by
  rcases eP.1 H with e | H;rw[e];simp;exact gI _ (hU u H)) (λt=>if t=d then v else vs t) a w (by
  show Sat E _ ((pnd a _ U).put (some d) (if d=d then v else vs d)) w;rw[yKC G,eG rfl];exact⟨I,ρ,C,O.put hn hv⟩)
 have e:unf (listed.set i true) ((i,d)::U)=unf listed U:=by
  refine iE (by simp[zJI]) λk h1 K=>?_;have hk:k<listed.length:=by simpa[zJI] using h1
  by_cases T:i=k;subst T;rw[eT,dT D] at hi;simp only[iU] at hi;simp[unf,hi,D];have e1:(i==k)=false:=by simpa using T
  simp[unf,hk,List.getElem_set_ne T,e1]
 rw[e] at K;have e2:fuel+((i,d)::U).length=fuel+1+U.length:=by simp;omega
 rw[e2] at K;exact K
theorem z6V (h:AnyF P r E l J [] fuel listed S):zFV P r E l J fuel listed S:=λa w G=>by
 have:=h [] .nil (λu H=>by cases H) (λ_=> .bool false) a w G;have e:unf listed []=listed:=by
  refine iE (by simp[zJI]) λk K D=>?_;simp[unf,D]
 rw[e] at this;exact this
theorem zB3 {s off n:Nat} {t:TypeId} {x:Operand} {cells:List DV} {ty:TypeId} {pos:String} {af:Array Edge} (hi:l[i]? =some ⟨some d,.fieldAddr s x k,ty,pos,af,none⟩) (hn:d<E.n) (hT:FldTy P s k off n t) (hx:S.ev x= .d (.pt cells)) (K:r=none) (D:zNM l=true)
  (G:z24 l listed i ⟨some d,.fieldAddr s x k,ty,pos,af,none⟩=true) (O:(rdy l listed).contains i=true) (k':zFV P r E l J fuel (listed.set i true) (S.put d (.ip cells (0+off)))):zFV P r E l J (fuel+1) listed S:=
 zH1 K hi rfl rfl D G O (λA w ⟨I,ρ,C,Z⟩=>by
  have h:=Z.ev x;rw[hx] at h;obtain⟨b,T,xs,hv,K,h1,H⟩:=yC2 (ρ:=ρ) h;refine⟨.pointer (some ⟨b,T+(0+off),none⟩),λw'=>?_,λw'=>rfl,I,ρ,C,Z.put hn ⟨b,T,xs,rfl,K,h1,H⟩⟩;simp only[execOp,hv,dP,zIM hT w' b (T+0),hY];rfl) k'
end
end Go.AV
namespace Go.M
def yGB (l:List Int):Str:=l.map λn=>UInt8.ofNat n.toNat
end Go.M
namespace Go.AV
open Go.RowKit Go.M
variable {e:TypeId} {x:Operand}
section
variable {P:Program} {r:Option Nat} {E:Env} {S:AState} {d:Nat} {ty:TypeId} {pos:String} {af:Array Edge} {g:Option (Nat×Bool)}
theorem yKD (l:List Int):e8.all l=l.map dby:=by
 induction l with
 | nil=>rfl
 | cons x l h=>
  show e8.cells x++e8.all l=dby x::l.map dby;rw[h];rfl
theorem yWL {k h:TypeId} {l:List Int} (H:d<E.n) (K:P.underlying k=some (.slice e)) (D:P.underlying h=some .string) (G:P.underlying e=some (.int .u8)) (O:S.ev x= .d (zJ e8 l)):
  AOp P r E S ⟨some d,.convert k h x,ty,pos,af,g⟩ d (.d (ds (yGB l))):=
 z2M H K D G (l:=l) (by rw[O,<-yKD];rfl)
theorem yTM {k h:TypeId} {id eb:Nat} {sh:Bool} {l:List Int} (H:d<E.n) (K:P.underlying k=some (.slice e)) (D:P.underlying h=some .string) (G:P.underlying e=some (.int .u8)) (O:S.ev x= .row id)
  (hb:S.blk id= .row eb e8.size sh (e8.all l)):AOp P r E S ⟨some d,.convert k h x,ty,pos,af,g⟩ d (.d (ds (yGB l))):=
 zXD H K D G O (sh:=sh) (l:=l) (by rw[hb,<-yKD];rfl)
theorem yAP {α:Type} {en:En α} {l l':List α} {t:TypeId} {n:Nat} {zs:List Value} {hi:Operand} {k2:IntKind} {b:Int} (hn:d<E.n) (Z:ArTy P t n en.size e zs) (ad:l.length=n) (hp:0<n) (hx:S.ev x= .d (.pt (en.all l))) (ac:S.ev hi= .d (.v (.int k2 b))) (h:slc l 0 b=some l'):
  AOp P r E S ⟨some d,.slice t x none (some hi) none,ty,pos,af,g⟩ d (.d (zJ en l')):=
 ⟨rfl,hn,λS' ha=>zV rfl hn (by simp) λA w I ρ C hs=>by
  obtain⟨rfl,h0,h1,h2⟩:=zJ1 h;have T:=hs.ev x;rw[(ha.ev (x:=x) (by simp[Op.operands])).trans hx] at T;have h4:=hs.val ((ha.ev (x:=hi) (by simp[Op.operands])).trans ac);have ab:b=(b.toNat:Int):=by omega
  generalize b.toNat=k at*;subst ab;generalize hv:A.eval x=v at T;cases T with
  | pt K off xs _ ag hc O hr=>
   have D:=vE en l;have aa:(Instr.sliceBounds false n n none (some (.int k2 k)) none).run P w= .ok (0,k,n) w:=by
    simp[Instr.sliceBounds,vJ (P:=P) w k2 k n _ (by omega)]
   rw[ad] at D;have hR:Rep w I (.slice (some ⟨K,off,none⟩) n n) (.sl en.size (en.all l)):= .sl K off n n en.size xs _ hp (d9 _) D ag hc O hr;have H:=z0X (l:=0) (h:=k) hR D Z.pos (g5 _) (by omega);rw[dU (by omega)] at H;have G:n≠0:=by omega
   simp only[gJ,zFF,Nat.zero_mul,gZ,Nat.sub_zero,e9] at H;refine⟨.slice (some ⟨K,off,none⟩) k n,?_,?_⟩
   ·simp only[execOp,Instr.sliceAt,dP,eM Z.und,dR,hv,gJ,iu,h4,Instr.sureAddr,eQ,aa,Z.size,G.symm,G,eE,zFF,Nat.zero_mul,gZ,Nat.sub_zero]
   ·rw[zOQ] at H
    exact H⟩
theorem yGC {α:Type} {en:En α} {t e bytes:Nat} {z:Value} {m Z:List α} {s:Operand} {id:Nat} (hn:d<E.n) (hT:SlTy P t e en.size bytes z) (hs:S.ev s= .d (.v (.slice none 0 0))) (H:((S.kill id).setBlk id (.row e en.size false [])).ev x= .d (zJ en m)) (ha:app [] m=some Z) (ai:0<bytes) (G:bytes<=32768)
  (hE:E.wrB=true) (K:E.nm id=none):
  jI P r E ⟨some d,.call {callee:= .builtin .append,args:= #[s,x],argTypes:= #[t,t]},ty,pos,af,g⟩ S (((((S.kill id).setBlk id (.row e en.size false [])).kill id).setBlk id (.row e en.size false (en.all Z))).put d (.row id)):=
 vR (by simp) λA w I ρ C h=>by
  obtain⟨hl,k⟩:=zEV ha;rw[show Z=m from hl];have h2:=h.update (iF w none) (id:=id) (u:= .slice none 0 0) (x:= .row e en.size false []) (by simp) (jJ I w) (by simp[blockOf])
   ⟨⟨hT.pos,by simp[upd,Value.ownBlock]⟩,0,[],by simp,by simp only[upd,eK];exact World.ownsRow_nil w _ e en.size,by simp,Pw.nil,by simp[upd,Value.ownBlock]⟩ (.inl rfl) K
  have D:((S.kill id).setBlk id (.row e en.size false [])).blk id= .row e en.size false []:=by rw[yC,eG rfl]
  have hb:=z05 (bytes:=bytes) G k;have T:0+m.length<=maxLen:=by unfold maxLen;unfold LIM at k;simp at k;omega
  obtain⟨v,w',h3,O⟩:=z0Q (ty:=ty) (pos:=pos) (af:=af) (g:=g) (s:=s) (x:=x) hn hT D (news:=en.all m) (n:=0) (m:=m.length) (by rw[H];rfl) (by simp) (vE en m) (by simpa using hb) T hE K h2 (by rw[h.val hs];simp[upd])
  rw[H] at O;simp only[AState.shareAV,D,Blk.appended,eN] at O;exact⟨v,w',h3,O⟩
end
end Go.AV
namespace Go.M
theorem z28 {k:Type} {a b:Int} {x y:Option k} {r: k} (h:cond (decide (a=b)) x y=some r):(a=b/\x=some r)\/y=some r:=by by_cases e:a=b;simp only[e,eH,dO] at h;exact .inl ⟨e,h⟩;simp only[e,e6,dN] at h;exact .inr h
theorem gT {k:Type} [Inhabited k] {m:Option k} {r: k} (h:gM true m=some r):m=some r:=h
end Go.M
namespace Go.AV
open Go.RowKit Go.M
section
variable {P:Program} {r:Option Nat} {E:Env} {l:List Oper} {J:AState->Prop} {S:AState} {fl:List (Nat×Nat)} {listed:List Bool} {fuel:Nat} {d:Nat} {ty:TypeId} {pos:String} {af:Array Edge}
theorem yTN {id eb off:Nat} {cells:List AV} {y:AV} (hb:S.blk id= .box eb cells) (D:cells[off]? =some y):Fl E S y:=λa w I ρ C K=>by
 have h:=K.blks id;rw[hb] at h;obtain⟨O,arr,H,Z,hh,T,G,hI⟩:=h;have k:off<arr.toList.length:=by rw[G.1];exact(dV.1 D).1
 exact⟨arr.toList[off],G.2 off _ y (dT k) D⟩
end
end Go.AV
namespace Go.M
def goB (h:Bool) (n k:Nat):Bool:=!(h&&Nat.beq (k+1) n)
end Go.M
namespace Go.AV
open Go.RowKit Go.M
section
variable {P:Program} {r:Option Nat} {E:Env} {S:AState} {d:Nat} {ty:TypeId} {pos:String} {af:Array Edge} {g:Option (Nat×Bool)}
theorem zPV {id e size:Nat} {cells:List DV} (hb:S.blk id= .row e size false cells):zDZ E S (S.setBlk id (.row e size true cells)):=by
 rintro a w ⟨I,ρ,C,h⟩
 have k:∀i,(S.setBlk id (.row e size true cells)).blk i≠ .none->S.blk i≠ .none:=λi hi=>by
  rw[yC] at hi;by_cases D:id=i;subst D;rw[hb];simp
  rwa [dU D] at hi
 refine⟨I,ρ,C,⟨h.tmps,λi=>?_,λi O b hn hi H=>h.dist i O b hn (k i hi) (k O H),h.frame,h.sub,h.old,h.size,h.defers,h.cI,λi b hi G=>h.cB i b (k i hi) G,λi v hv hi=>h.nm i v hv (k i hi)⟩⟩;rw[yC];by_cases D:id=i;subst D;rw[eG rfl];have K:=h.blks id;rw[hb] at K;obtain⟨T,n,xs,Z,h2,h3,h4,h5⟩:=K;exact⟨T,n,xs,Z,h2,h3,h4,λg j hg hi=>⟨rfl,(h5 g j hg hi).2⟩⟩;rw[dU D];exact h.blks i
end
end Go.AV
namespace Go.M
end Go.M
namespace Go.AV
open Go.RowKit Go.M
end Go.AV
namespace Go.M
open Go.AV
end Go.M
namespace Go.AV
open Go.M
theorem lr {a b:Nat} (h:Nat.blt a b=true:=by exact rfl):a<b:=lq h
section
variable {α:Type} {x y: α} {G:Prop}
theorem er (h:some x=some y) (k:x=y->G:=by intro e;cases e;refine zK ?_;exact zGV rfl):G:=k (oi h)
theorem es (h:some x=some y) (k:x=y->G:=by intro e;cases e;exact zGV rfl):G:=k (oi h)
theorem ex (h:some x=some y) (k:x=y->G:=by intro e;cases e;intro q;cases q;exact z1 wc):G:=k (oi h)
theorem eo (h:some x=some y) (k:x=y->G:=by intro e;cases e;exact z1 wc):G:=k (oi h)
theorem ew (h:some x=some y) (k:x=y->G:=by intro e;cases e;exact wc):G:=k (oi h)
theorem ep (h:some x=some y) (k:x=y->G:=by intro e;cases e;exact⟨rfl,wc⟩):G:=k (oi h)
end
end Go.AV
namespace Go.M
variable {q:List Nat}
def zT2 {k X Y:Type} (bs: k->X->Option (Stp X Y)) (h:X->Option (Stp X Y)):List k->X->Option Y
 | [],x=>(h x).bind λs=>match s with | .next _=>none | .done y=>some y
 | e::p,x=>(bs e x).bind λs=>match s with | .next x'=>zT2 bs h p x' | .done y=>some y
open Classical in
noncomputable def zT3 {k D:Type} (m:List k) (f:List k->Option D):Option D:=
 if h:∃r,∀p,p.Perm m->f p=some r then some (Classical.choose h) else none
theorem yAQ {k D:Type} {m:List k} {f:List k->Option D} {r: D} (h:zT3 m f=some r):∀p,p.Perm m->f p=some r:=by unfold zT3 at h;split at h;rename_i G;cases h;exact Classical.choose_spec G;cases h
theorem yGD {G H:Type} {m:List G} {f:List G->Option H} {r: H} (h:∀p,p.Perm m->f p=some r):zT3 m f=some r:=by unfold zT3;have D:∃r,∀p,p.Perm m->f p=some r:=⟨r,h⟩;rw[dif_pos D];have k:=Classical.choose_spec D m (.refl _);rw[h m (.refl _)] at k;exact k.symm
def atQ {h:Type} (m:List h) (q:List Nat):List h:=q.filterMap λi=>m[i]?
theorem zOY:∀{q l:List Nat},q.Nodup->(∀i∈q,i∈l)->∃D,(q++D).Perm l
 | [],l,_,_=>⟨l,.refl _⟩
 | i::q,l,k,H=>by
  rw[List.nodup_cons] at k;obtain⟨D,h⟩:=zOY (q:=q) (l:=l.erase i) k.2 λj G=>by
   have:j≠i:=λe=>k.1 (e▸G);exact(List.mem_erase_of_ne this).2 (H j (gI _ G))
  exact⟨D,(List.Perm.cons i h).trans (List.perm_cons_erase (H i (List.mem_cons_self ..))).symm⟩
theorem z1C {h:Type}:∀m:List h,atQ m (List.range m.length)=m
 | []=>rfl
 | x::m=>by
  unfold atQ;rw[eF,List.range_succ_eq_map,List.filterMap_cons];simp only[List.getElem?_cons_zero,List.filterMap_map];have:=z1C m;unfold atQ at this;exact congrArg (x:: ·) this
theorem zRE {k:Type} (m:List k) (q h:List Nat):atQ m (q++h)=atQ m q++atQ m h:=by unfold atQ;exact List.filterMap_append ..
theorem z6W {k:Type} {m:List k} (h:q.Perm (List.range m.length)):(atQ m q).Perm m:=by have:=List.Perm.filterMap (λi=>m[i]?) h;have e:=z1C m;unfold atQ at e ⊢;rw[e] at this;exact this
theorem yC7 {k:Type} {m:List k} {i:Nat} {e: k} (h:m[i]? =some e):atQ m [i]= [e]:=by simp[atQ,h]
theorem yO2 {D:Type} {m:List D} (H:q.Nodup) (O:∀i∈q,i<m.length) {i:Nat} {e: D} (hi:m[i]? =some e) (K:i∉q):
  ∃T,(atQ m q++e::T).Perm m:=by
 have k:i<m.length:=(dV.1 hi).1;obtain⟨Z,h⟩:=zOY (q:=q++ [i]) (l:=List.range m.length) (by
   rw[List.nodup_append];exact⟨H,by simp,λa G b hb e=>by simp at hb;subst hb;subst e;exact K G⟩) (λj hj=>by
   rw[fk] at hj;rcases hj with hj | hj
   ·exact fQ.2 (O j hj)
   ·simp at hj;subst hj;exact fQ.2 k)
 have:=z6W h;rw[zRE,zRE,yC7 hi,dW] at this;exact⟨_,this⟩
theorem yO3 {T:Type} {m:List T} (K:q.Nodup) (O:∀i∈q,i<m.length) (G:∀i,i<m.length->i∈q):(atQ m q).Perm m:=by
 obtain⟨D,h⟩:=zOY (l:=List.range m.length) K λi hi=>fQ.2 (O i hi);have k:(q++D).Nodup:=(h.nodup_iff).2 List.nodup_range;have:D= []:=by
  cases D with
  | nil=>rfl
  | cons j D=>
   exfalso;rw[List.nodup_append] at k;have H:j∈List.range m.length:=h.mem_iff.1 (by simp);exact k.2.2 j (G j (fQ.1 H)) j (by simp) rfl
 subst this;rw[fm] at h;exact z6W h
end Go.M
namespace Go.AV
open Go.RowKit Go.M
variable {w:World} {q:List Nat} {it:Operand} {X Y:Type}
theorem yO4 {I:Im} {v:Value} {κ ν:Type} {kv: κ->Value} {ev:En ν} {m:List (κ×ν)} (h:Rep w I v (mpD kv ev m)):
  ∃b D k,v= .map (some b)/\w.heap[b]? =some (.map D k)/\I b 0/\Pw (λ(x:MapEntry) (y:Value×DV)=>x.key=y.1/\Rep w I x.val y.2) D.toList (jF kv ev m)/\Born D k:=by
 obtain⟨b,D,k,Z,T,hp⟩:=yJ2 h;have O:I b 0/\Born D k:=by
  subst Z;unfold mpD at h;generalize (m.map λp=>kv p.1)=ks at h;cases h with
  | mp _ H K _ G hI _ _ hN=>rw[T] at G;cases G;exact⟨hI,hN⟩
 exact⟨b,D,k,Z,T,O.1,hp,O.2⟩
section
variable {P:Program} {r:Option Nat} {E:Env} {S:AState} {d:Nat} {ty:TypeId} {pos:String} {af:Array Edge} {g:Option (Nat×Bool)} {κ ν:Type} {kv: κ->Value} {ev:En ν} {m:List (κ×ν)} {t kt vt:TypeId} {x:Operand}
theorem yO5 (hn:d<E.n) (ht:P.underlying t=some (.map kt vt)) (hx:S.ev x= .d (mpD kv ev m)) (Z:E.nm d=none):
  jI P r E ⟨some d,.range t x,ty,pos,af,g⟩ S (((S.kill d).setBlk d (.it (jF kv ev m) [])).put d (.row d)):=
 vR (by simp) λA w I ρ C O=>by
  have T:∀b j,I b j->b<w.heap.size:=λb j h=>(O.old b j h).1;have hv:=O.ev x;rw[hx] at hv;obtain⟨K,H,k,aa,hh,G,hp,hN⟩:=yO4 hv;have ah:=T _ _ G;have D:Same I w (w.alloc (.mapIter (some K) k #[] k)):=zEU _ T;have hb:=O.update (zG7 w (.mapIter (some K) k #[] k)) (id:=d) (u:= .pointer (some ⟨w.heap.size,0,none⟩)) (x:= .it (jF kv ev m) []) (by simp) D (λb hb=> .inl (by simp[blockOf] at hb;omega))
   ⟨w.heap.size,K,H,k,#[],by simp[upd],E.mineB _ (E.size _ _ _ O.frame),hF w _,λj hj=>by have:=T _ j hj;omega,(D _ _ G).map _ _ hh,G,hp.imp λ_ _ h=>⟨h.1,h.2.mono D (λ_ _ h=>h)⟩,hN,rfl⟩ (.inl rfl) Z
  refine⟨.pointer (some ⟨w.heap.size,0,none⟩),w.alloc (.mapIter (some K) k #[] k),?_,I,_,C,hb.put hn (by simp[Holds,upd])⟩;simp only[execOp,aa,Instr.range,dP,eM ht,dR,getObj,Sem.run,hh,Result.andThen,eQ,run_newObj_alloc]
theorem z6X {b Z h:Nat} {D:Array Nat} {k:Array MapEntry} (hr:w.heap[b]? =some (.mapIter (some Z) h D h)) (hb:w.heap[Z]? =some (.map k h)) (hN:Born k h)
    (hq:D.toList.map some=q.map λi=>(k[i]?).map (·.born)) (ty:TypeId):
    ((∀i,i<k.size->i∈q)/\(Instr.next (.pointer (some ⟨b,0,none⟩)) false ty).run P w= .ok (.tuple #[.bool false]) w)\/
    ∃(i:Nat) (e:MapEntry) (T:World),k[i]? =some e/\i∉q/\(T=w\/T=w.drew)/\(Instr.next (.pointer (some ⟨b,0,none⟩)) false ty).run P w= .ok (.tuple #[.bool true,e.key,e.val]) (ChangeMaps.setBlock T b (.mapIter (some Z) h (D.push e.born) h)):=by
  have K:∀(i:Nat) (e:MapEntry),k[i]? =some e->(e.born∈D.toList↔i∈q):=by
    intro i e hi;have O:e.born∈D.toList↔some e.born∈D.toList.map some:=by simp
    rw[O,hq,fL];constructor
    · rintro⟨j,hj,H⟩
      cases G:k[j]? with
      | none=>rw[G] at H;cases H
      | some e2=>
        rw[G] at H;have ab:e2.born=e.born:=by simpa using H
        have ag:j=i:=by
          have ai:=(dX.1 G).1;have ao:=(dX.1 hi).1;refine(List.getElem?_inj (l:=k.toList.map (·.born)) (by simpa using ai) hN.nd).1 ?_;rw[e7,e7,Array.getElem?_toList,Array.getElem?_toList,G,hi];simp[ab]
        exact ag▸hj
    · intro hj
      exact⟨i,hj,by rw[hi];rfl⟩
  rcases run_next_at w ty b Z h h D k h hr hb hN.lt (d9 _) with ⟨h0,O⟩ | ⟨e,he,T,ak,O⟩
  · refine .inl ⟨λi hi=>?_,O⟩
    have ad:k[i]? =some k[i]:=gC hi;refine(K i _ ad).1 ?_;unfold leftOf at h0;rw[Array.size_eq_zero_iff,Array.filter_eq_empty_iff] at h0;have:=h0 k[i] (Array.getElem_mem hi);simpa using this
  · refine .inr ?_
    unfold leftOf at he;simp only[Array.toList_filter,fX] at he;obtain⟨hm,hc⟩:=he;obtain⟨i,hi⟩:=List.mem_iff_getElem?.1 hm;rw[Array.getElem?_toList] at hi;refine⟨i,e,T,hi,λaj=>?_,ak,O⟩;have:=(K i e hi).2 aj;simp at hc;exact hc (by simpa using this)
theorem yO6 {id:Nat} (hn:d<E.n) (hi:S.ev it= .row id) (hb:S.blk id= .it (jF kv ev m) q) (hE:E.wrB=true) {a:Act} (hs:Sat E S a w) {K:Act->World->Prop} {Q:Exit->Act->World->Prop}
  (k1:∀i k v,m[i]? =some (k,v)->i∉q->∀a' w',Sat E ((S.setBlk id (.it (jF kv ev m) (q++ [i]))).put d (.tup [.v (.bool true),.v (kv k),ev.dv v])) a' w'->K a' w')
  (k2:(∀i,i<m.length->i∈q)->∀a' w',Sat E (S.put d (.tup [.v (.bool false)])) a' w'->K a' w'):
  (⟨some d,.next it false,ty,pos,af,none⟩:Oper).wpIn (fen r) 0 P a w K Q:=by
 obtain⟨I,ρ,C,hs⟩:=hs;have hv:=hs.ev it;rw[hi] at hv;have hk:=hs.blks id;rw[hb] at hk;obtain⟨b,bm,O,D,H,ac,hM,hh,hI,hm,aj,hp,hN,hq⟩:=hk;have am:a.eval it= .pointer (some ⟨b,0,none⟩):=Eq.trans hv ac;have bo:O.size=m.length:=by have:=hp.1;simpa[jF] using this
 refine⟨λf _=>trivial,?_⟩;rw[Oper.semAt_eq _ _ _ (by simp)];rcases z6X (P:=P) hh hm hN hq ty with ⟨ah,h1⟩ | ⟨i,e,Z,aa,ar,T,h1⟩
 ·have hx:(execOp a.eval ⟨some d,.next it false,ty,pos,af,none⟩).run P w= .ok (.value (.tuple #[.bool false])) w:=by
   simp only[execOp,am,dP,h1];rfl
  rw[hx];exact k2 (λi hi=>ah i (by omega)) _ _ ⟨I,ρ,C,hs.put hn ⟨[.bool false],rfl,Pw.cons (.v _) Pw.nil⟩⟩
 ·have hx:(execOp a.eval ⟨some d,.next it false,ty,pos,af,none⟩).run P w= .ok (.value (.tuple #[.bool true,e.key,e.val])) (ChangeMaps.setBlock Z b (.mapIter (some bm) D (H.push e.born) D)):=by
   simp only[execOp,am,dP,h1];rfl
  rw[hx];have ay:SatAt E S a Z I ρ C:=by
   rcases T with rfl | rfl
   ·exact hs
   ·exact hs.grow (Below.drew (Below.refl _ _))
  have ap:Z.heap[b]? =some (.mapIter (some bm) D H D):=by rcases T with rfl | rfl<;>exact hh
  have aw:Z.heap[bm]? =some (.map O D):=by rcases T with rfl | rfl<;>exact hm
  have ai:Same I w Z:=by rcases T with rfl | rfl<;>exact λ_ _ _=>KeepB.of rfl
  have au:=(dX.1 ap).1;have aq:i<m.length:=by have:=(dX.1 aa).1;omega
  have ak:m[i]? =some m[i]:=dT aq;have al:=hp.2 i e (kv m[i].1,ev.dv m[i].2) (by rw[Array.getElem?_toList];exact aa) (by simp[jF,ak])
  have hg:Z.grownBy (ChangeMaps.setBlock Z b (.mapIter (some bm) D (H.push e.born) D)) (some b):=
   ⟨rfl,rfl,rfl,by simp[ChangeMaps.setBlock],λq _ hq=>eX (λe=>hq (by rw[e]))⟩
  have G:Same I Z (ChangeMaps.setBlock Z b (.mapIter (some bm) D (H.push e.born) D)):=λb' j hi=>by
   have:b'≠b:=λe=>hI j (e▸hi);exact KeepB.of (eX (λe=>this e.symm))
  have az:=ay.modify (x:= .it (jF kv ev m) (q++ [i])) hg (by rw[hb];simp) (by rw[ac];rfl) G
   ⟨b,bm,O,D,H.push e.born,ac,hM,by simp[ChangeMaps.setBlock,au],hI,(G _ _ aj).map _ _ aw,aj,hp.imp λ_ _ h=>⟨h.1,(h.2.mono ai (λ_ _ h=>h)).mono G (λ_ _ h=>h)⟩,hN,by simp[hq,aa]⟩ hE
  refine k1 i m[i].1 m[i].2 ak ar _ _ ⟨I,ρ,C,az.put hn ⟨[.bool true,e.key,e.val],rfl,Pw.cons (.v _) (Pw.cons ?_ (Pw.cons ((al.2.mono ai (λ_ _ h=>h)).mono G (λ_ _ h=>h)) Pw.nil))⟩⟩;rw[al.1];exact .v _
theorem yKE {O:Nat} {id:Nat} {rest:List Oper} {K:Exit->AState->Prop} (hn:d<E.n) (hi:S.ev it= .row id) (hb:S.blk id= .it (jF kv ev m) q) (hE:E.wrB=true)
  (k1:∀i k v,m[i]? =some (k,v)->i∉q->Sq P r E (⟨some d,.next it false,ty,pos,af,none⟩::rest).toArray rest ((S.setBlk id (.it (jF kv ev m) (q++ [i]))).put d (.tup [.v (.bool true),.v (kv k),ev.dv v])) (K .normal))
  (k2:(∀i,i<m.length->i∈q)->Sq P r E (⟨some d,.next it false,ty,pos,af,none⟩::rest).toArray rest (S.put d (.tup [.v (.bool false)])) (K .normal)):
  Avc P r E (.region O (⟨some d,.next it false,ty,pos,af,none⟩::rest).toArray false) K S:=λa w hs=>
 wpIn_region_lit (wpListIn_step λK' T=>by
  rw[eG (by simp[Region.wanted])];exact yO6 hn hi hb hE hs
   (λi k v G Z D w' h=>T D w' (Sq.wp rest (k1 i k v G Z) D w' h λS' _ _ H h=>⟨S',H,h⟩))
   (λG D w' h=>T D w' (Sq.wp rest (k2 G) D w' h λS' _ _ H h=>⟨S',H,h⟩)))
theorem yO7 {id i:Nat} {k: κ} {v: ν} (hn:d<E.n) (hi:S.ev it= .row id) (hb:S.blk id= .it (jF kv ev m) (q++ [i])) (hm:m[i]? =some (k,v)):
    AOp P r E S ⟨some d,.entry it,ty,pos,af,g⟩ d (.tup [.v (kv k),ev.dv v]):=
  ⟨rfl,hn,λS' ha=>zV rfl hn (by simp) λA w I ρ C hs=>by
    have hv:=hs.ev it;rw[(ha.ev (by simp[Op.operands])).trans hi] at hv;have H:=hs.blks id;rw[(ha.blk id).trans hb] at H;obtain⟨b,bm,h,aa,D,ad,_,hh,_,ab,_,hp,hN,hq⟩:=H;have ac:A.eval it= .pointer (some ⟨b,0,none⟩):=Eq.trans hv ad;have au:h.size=m.length:=by have:=hp.1;simpa[jF] using this
    have O:i<h.size:=by have:=(dV.1 hm).1;omega
    have K:h[i]? =some h[i]:=gC O;have T:=hp.2 i h[i] (kv k,ev.dv v) (by rw[Array.getElem?_toList];exact K) (by simp[jF,hm])
    have hl:D.toList.length=q.length+1:=by have:=congrArg List.length hq;simpa using this
    have G:D.back? =some h[i].born:=by
      have Z:D.toList[q.length]?.map some=some (some h[i].born):=by
        rw[<-e7,hq];simp[K]
      rw[Array.back?_eq_getElem?];have:D.size-1=q.length:=by simp at hl;omega
      rw[this,<-Array.getElem?_toList];cases hx:D.toList[q.length]? with
      | none=>rw[hx] at Z;cases Z
      | some u=>rw[hx] at Z;simpa using Z
    have hf:h.find? (·.born==h[i].born)=some h[i]:=by rw[<-Array.find?_toList];exact find_born h[i] h.toList hN.nd (Array.getElem_mem_toList O)
    refine⟨.tuple #[h[i].key,h[i].val],?_,[h[i].key,h[i].val],rfl,Pw.cons (by rw[T.1];exact .v _) (Pw.cons T.2 Pw.nil)⟩
    simp only[execOp,ac,Instr.entry,getObj,dP,Sem.run,hh,ab,Result.andThen,G,bne_self_eq_false,fg,eE,hf];rfl⟩
def z29 (E:Env) (T:X->AState) (ex:Y->Exit) (st:Y->AState):Stp X Y->Exit->AState->Prop
 | .next x',.normal,S=>zDZ E S (T x')
 | .next _,_,_=>False
 | .done _,.normal,_=>False
 | .done y,e,S=>e=ex y/\zDZ E S (st y)
section
variable {α X Y:Type}
def yWM (m:List α) (q:List Nat) (bs: α->X->Option (Stp X Y)) (x:X):Prop:= ∀i e,m[i]? =some e->i∉q->∃s,bs e x=some s
def yWN (m:List α) (q:List Nat) (h:X->Option (Stp X Y)) (x:X):Prop:=(∀i,i<m.length->i∈q)->∃s,h x=some s
def yAS (E:Env) (m:List α) (q:List Nat) (bs: α->X->Option (Stp X Y)) (h:X->Option (Stp X Y)) (x:X) (T:List Nat->X->AState) (ex:Y->Exit) (st:Y->AState):Exit->AState->Prop:=λe S'=>
 (∃i u s,m[i]? =some u/\i∉q/\bs u x=some s/\z29 E (T (q++ [i])) ex st s e S')\/∃s,(∀i,i<m.length->i∈q)/\h x=some s/\z29 E (T q) ex st s e S'
end
theorem z6Y {c:Code} {R:Type} {K:Exit->AState->Prop} {bs: κ×ν->X->Option (Stp X Y)} {O:X->Option (Stp X Y)} {x0:X} {rest:Y->Option R} {H:R} (ex:Y->Exit) (st:Y->AState) (T:List Nat->X->AState)
  (h:zT3 m (λp=>(zT2 bs O p x0).bind rest)=some H) (hS:zDZ E S (T [] x0))
  (round:∀q x,yWM m q bs x->yWN m q O x->Avc P r E c (yAS E m q bs O x T ex st) (T q x))
  (tail:∀y,rest y=some H->K (ex y) (st y)):Avc P r E (.loop c) K S:=by
 have aa:=yAQ h;have key:Avc P r E (.loop c) (λe S'=> ∃y,rest y=some H/\e=ex y/\zDZ E S' (st y)) S:=by
  refine zW4 (ι:=List Nat×X) (λp=>T p.1 p.2) (λp=>p.1.Nodup/\(∀i∈p.1,i<m.length)/\∀p',zT2 bs O (atQ m p.1++p') x0=zT2 bs O p' p.2) (λp=>m.length-p.1.length) ([],x0) ⟨List.nodup_nil,by simp,λ_=>rfl⟩ hS ?_
  rintro⟨q,x⟩ ⟨hn,hs,hp⟩
  have ax:q.length<=m.length:=by
   obtain⟨q',h⟩:=zOY (l:=List.range m.length) hn λi hi=>fQ.2 (hs i hi);have:=h.length_eq;simp at this;omega
  have f1:∀i e,m[i]? =some e->i∉q->∃s,bs e x=some s/\(∀y,s= .done y->rest y=some H)/\∀x',s= .next x'->∀p',zT2 bs O (atQ m (q++ [i])++p') x0=zT2 bs O p' x':=by
   intro i e hi hq;obtain⟨p',ak⟩:=yO2 hn hs hi hq;have k:=aa _ ak;rw[hp] at k;simp only[zT2] at k;cases hb:bs e x with
   | none=>rw[hb] at k;cases k
   | some s=>
    rw[hb] at k;refine⟨s,rfl,λy hy=>?_,λx' am p2=>?_⟩
    ·subst hy;exact k
    ·subst am
     rw[zRE,yC7 hi,dW,hp];simp only[fV,eN,zT2,hb];rfl
  have f2:(∀i,i<m.length->i∈q)->∃y,O x=some (.done y)/\rest y=some H:=by
   intro Z;have k:=aa _ (yO3 hn hs Z);have h2:=hp [];rw[fm] at h2;rw[h2] at k;simp only[zT2] at k;cases hb:O x with
   | none=>rw[hb] at k;cases k
   | some s=>
    rw[hb] at k;cases s with
    | next x'=>cases k
    | done y=>exact⟨y,rfl,k⟩
  refine zOF (round q x (λi e hi hq=>let ⟨s,h,_⟩:=f1 i e hi hq;⟨s,h⟩) (λZ=>let ⟨y,h,_⟩:=f2 Z;⟨_,h⟩)) λe S' G=>?_
  rcases G with ⟨i,u,s,hi,hq,hb,G⟩ | ⟨s,Z,hb,G⟩
  ·obtain⟨s',D,hd,hx⟩:=f1 i u hi hq
   rw[hb] at D;cases D;cases s with
   | next x'=>
    cases e with
    | normal=>
     have ag:=(dV.1 hi).1;refine⟨(q++ [i],x'),⟨?_,?_,hx x' rfl⟩,?_,G⟩
     ·rw[List.nodup_append]
      exact⟨hn,by simp,λa Z b hb e=>by simp at hb;subst hb;subst e;exact hq Z⟩
     ·intro j hj
      rw[fk] at hj;rcases hj with hj | hj
      ·exact hs j hj
      ·simp at hj;subst hj;exact ag
     ·have:q.length≠m.length:=by
       intro e;obtain⟨q',h⟩:=zOY (q:=q++ [i]) (l:=List.range m.length) (by
        rw[List.nodup_append];exact⟨hn,by simp,λa Z b hb e=>by simp at hb;subst hb;subst e;exact hq Z⟩) (λj hj=>by
        rw[fk] at hj;rcases hj with hj | hj
        ·exact fQ.2 (hs j hj)
        ·simp at hj;subst hj;exact fQ.2 ag)
       have:=h.length_eq;simp at this;omega
      simp;omega
    | _=>exact G.elim
   | done y=>
    cases e with
    | normal=>exact G.elim
    | _=>exact⟨y,hd y rfl,G.1,G.2⟩
  ·obtain⟨y,D,hd⟩:=f2 Z
   rw[hb] at D;cases D;cases e with
   | normal=>exact G.elim
   | _=>exact⟨y,hd,G.1,G.2⟩
 exact λa w hs=>g7 (key a w hs) λe' a' w' ⟨S',⟨y,hy,he,hw⟩,al⟩=>by
  subst he;exact⟨st y,tail y hy,hw a' w' al⟩
section
variable {bs: κ×ν->X->Option (Stp X Y)} {bn:X->Option (Stp X Y)} {ex:Y->Exit} {st:Y->AState} {T:List Nat->X->AState} {x:X} {s:Stp X Y} {c:Code} {ops:Array Oper} {l:List Oper}
theorem Sq.mono {J D:AState->Prop} (G:∀S,J S->D S):∀(l:List Oper) {S:AState},Sq P r E ops l S J->Sq P r E ops l S D
 | [],_,h=>G _ h
 | _::l,_,⟨S',h,k⟩=>⟨S',h,Sq.mono G l k⟩
theorem yGE {i:Nat} {u: κ×ν} (h:yWM m q bs x) (hi:m[i]? =some u) (D:i∉q) (k:∀s,bs u x=some s->Sq P r E ops l S (z5X P r E c (z29 E (T (q++ [i])) ex st s) .normal)):
  Sq P r E ops l S (z5X P r E c (yAS E m q bs bn x T ex st) .normal):=
 let ⟨s,hb⟩:=h i u hi D
 Sq.mono (λ_ h=>zOF h λ_ _ G=> .inl ⟨i,u,s,hi,D,hb,G⟩) l (k s hb)
theorem yGF (h:yWN m q bn x) (D:∀i,i<m.length->i∈q) (k:∀s,bn x=some s->Sq P r E ops l S (z5X P r E c (z29 E (T q) ex st s) .normal)):
  Sq P r E ops l S (z5X P r E c (yAS E m q bs bn x T ex st) .normal):=
 let ⟨s,hb⟩:=h D
 Sq.mono (λ_ h=>zOF h λ_ _ G=> .inr ⟨s,D,hb,G⟩) l (k s hb)
end
end
section
variable {E:Env} {S:AState}
theorem SatAt.relabel {a:Act} {I:Im} {ρ:Nat->Value} {C:Nat->Prop} (h:SatAt E S a w I ρ C) {t:Nat} {x:AV} (k:t<E.n) (D:Holds w I ρ (a.tmps.getD t undef) x):SatAt E (S.put t x) a w I ρ C:=by
 refine⟨λu=>?_,h.blks,h.dist,by rw[vZ _ _ k];exact h.frame,h.sub,h.old,h.size,h.defers,h.cI,h.cB,h.nm⟩
 rw[wK];by_cases e:t=u;subst e;simpa using D;simp only[e,eE];exact h.tmps u
theorem yAT {Z ν:Type} {kv: Z->Value} {ev:En ν} {m:List (Z×ν)} {t id:Nat} (hn:t<E.n) (ht:S.get t= .row id) (O:S.blk id= .map (jF kv ev m)):
  zDZ E S ((S.setBlk id .none).put t (.d (mpD kv ev m))):=by
 rintro a w ⟨I,ρ,C,h⟩
 have K:=h.blks id;rw[O] at K;obtain⟨b,H,D,k,hM,hh,hp,hI,hN⟩:=K;have h2:=h.giveUp (id:=id) (b:=b) (by rw[O];simp) (by rw[k];rfl)
 have T:=h.tmps t;rw[ht] at T;refine⟨_,ρ,C,h2.relabel hn ?_⟩;have G:a.tmps.getD t undef= .map (some b):=Eq.trans T k;rw[G];exact yR7 hh (.inr rfl) (hp.imp λ_ _ q=>⟨q.1,q.2.mono (jJ I w) λ_ _ h=> .inl h⟩) hN
end
end Go.AV
namespace Go.M
end Go.M
namespace Go.AV
open Go.RowKit Go.M Go.Sort
section
variable {P:Program} {α:Type} [Inhabited α]
theorem z6Z {w:World} {g n off:Nat} {os:Array Obj} {k:Array Value} {e:TypeId} {fr:Nat×Nat} (h: α->Value) (d:Array α) (hb:w.heap[g]? =some (.cells k e fr)):
  (grow (putRow h (Sort.ahead w n) g off d) os).heap[g]? =some (.cells (putCells h off d k) e fr):=by
 have D:g<w.heap.size:=(dX.1 hb).1;rw[heap_grow_old _ _ (by simpa using D)];simp[putRow,mapBlock,Sort.ahead,Array.getElem?_modify,hb,onCells]
theorem zOZ {w:World} {g n off k:Nat} {os:Array Obj} (h: α->Value) (d:Array α) (G:k<w.heap.size) (D:k≠g):
  (grow (putRow h (Sort.ahead w n) g off d) os).heap[k]? =w.heap[k]?:=by
 rw[heap_grow_old _ _ (by simpa using G)];have:g≠k:=λe=>D e.symm;simp[putRow,mapBlock,Sort.ahead,Array.getElem?_modify,this]
end
section
variable {P:Program} {r:Option Nat} {E:Env} {S:AState} {d:Nat} {ty:TypeId} {pos:String} {af:Array Edge} {g:Option (Nat×Bool)} {t tz:TypeId} {ps rs:Array TypeId} {vr:Bool} {x:Operand}
theorem zXQ (h:P.underlying t=some (.func ps rs vr)) (w:World):(Op.equal t .nilFunc .nilFunc).run P w= .ok true w:=by show (Op.equalIn (9999+1) t .nilFunc .nilFunc).run P w=_;rw[Op.equalIn];simp[eM h]
theorem z1D (h:d<E.n) (K:P.underlying t=some (.func ps rs vr)) (T:S.ev x= .d (.v .nilFunc)):
  AOp P r E S ⟨some d,.binOp .neq t x (.const .nilFunc) tz,ty,pos,af,g⟩ d (.d (.v (.bool false))):=
 ⟨rfl,h,λS' k=>yD rfl h (by simp) λA w I ρ C H=>by
  have O:=H.val ((k.ev (x:=x) (by simp[Op.operands])).trans T);have D:A.eval (.const .nilFunc)= .nilFunc:=rfl;have hb:binOp .neq t .nilFunc .nilFunc=(do pure (.bool (!(<-Op.equal t .nilFunc .nilFunc)))):=rfl;have G:eqGuard .neq t x (.const .nilFunc) .nilFunc .nilFunc=pure ():=rfl;simp only[execOp,O,D,hb,G,dP,eQ,dR,zXQ K];rfl⟩
end
end Go.AV
namespace Go
section
variable {F:Fence} {n:Nat} {P:Program} {b:Frame} {a:Act} {k:List Item} {cs:List Frame} {w:World} {Q:Exit->Act->World->Prop}
theorem zGW {c:Code}:step P (lone (b.atR a (.code (.scope c)::k)) cs w)= .next (lone (b.atR a (.code c:: .inScope c::k)) cs w):=
 step_lone_go (by simp[stepG,stepG.exec,Frame.atR])
theorem zZM {c:Code}:step P (lone (b.atR a (.inScope c::k)) cs w)= .next (lone (b.atR a k) cs w):=
 step_lone_go (by simp[stepG,stepG.exec,Frame.atR])
def yYF (Q:Exit->Act->World->Prop):Exit->Act->World->Prop
 | .goto _,_,_=>False
 | e,a,w=>Q e a w
theorem yAU {c:Code} (h:c.wpIn F n P (yYF Q) a w):(Code.scope c).wpIn F n P Q a w:=by
 intro b k cs ad hb hr;have O:(lone (b.atR a (.code (.scope c)::k)) cs w).fenced P F:=fenced_calm hb hr rfl;obtain⟨e,G,H,T,D⟩:=h b (.inScope c::k) cs ad hb hr;cases e with
 | normal=>exact⟨.normal,G,H,T,.head O zGW (StepsIn.trans D (.one (fenced_calm hb hr rfl) zZM))⟩
 | exit K=>
  have hx:exitTo K (.inScope c::k)=exitTo K k:=by simp[exitTo]
  exact⟨.exit K,G,H,T,λk' hk=> .head O zGW (D.1 k' (by rw[hx];exact hk)),
   λac hk=>let ⟨Z,h1,h2⟩:=D.2 ac (by rw[hx];exact hk);⟨Z,h1,.head O zGW h2⟩⟩
 | goto l=>exact T.elim
 | ret=>exact⟨_,G,H,T,.of_steps (.one O zGW) D⟩
 | panic ch=>exact⟨_,G,H,T,.of_steps (.one O zGW) D⟩
 | outgrown=>exact⟨_,G,H,T,.of_steps (.one O zGW) D⟩
end
end Go
namespace Go.AV
section
variable {P:Program} {r:Option Nat} {E:Env} {S:AState} {K:Exit->AState->Prop}
def yTO (K:Exit->AState->Prop):Exit->AState->Prop
 | .goto _,_=>False
 | e,S=>K e S
theorem zPW {c:Code} (h:Avc P r E c (yTO K) S):Avc P r E (.scope c) K S:=λa w G=>
 yAU (g7 (h a w G) λe H w' ⟨S',D,k⟩=>by
  cases e with
  | goto l=>exact D
  | _=>exact⟨S',D,k⟩)
theorem zPX {l:Nat} (h:K .normal S):Avc P r E (.label l) K S:=λ_ _ k=>wpIn_label ⟨S,h,k⟩
end
end Go.AV
namespace Go.M
end Go.M
namespace Go.AV
open Go.RowKit Go.M Go.Sort
end Go.AV


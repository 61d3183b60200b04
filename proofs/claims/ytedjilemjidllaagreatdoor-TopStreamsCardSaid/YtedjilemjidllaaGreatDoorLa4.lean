/- The layer of abstract values: what a temporary holds, said once; every rule of it is proved from the model. Conditions: none. -/
import Derived.Test.YtedjilemjidllaaGreatDoorLa3
import Derived.Lib.ItoaLen
import Derived.Lib.AppendStr
import Derived.Lib.UnsafeStr
import Derived.Lib.Builder
import Derived.Shelf.GgSortFunc.InsertionK
import Derived.Test.YtedjilemjidllaaGreatDoorLa2
import Derived.ChangeArms
import Derived.OpenShut
import Derived.WideShapes
set_option linter.unusedSimpArgs false
set_option linter.unusedVariables false
set_option linter.unnecessarySimpa false
namespace Go.M
end Go.M
namespace Go.AV
open Go.RowKit Go.M
variable {P:Program} {f:FuncId} {w:World} {e size:Nat}
section
variable {r:Option Nat} {E:Env} {S:AState} {d:Nat} {ty:TypeId} {pos:String} {af:Array Edge} {g:Option (Nat×Bool)}
theorem yKF {h:List Operand} {ds:List DV} (O:d<E.n) (D:unD (h.map S.ev)=some ds):
  AOp P r E S ⟨some d,.makeFunc (.func f) h.toArray #[],ty,pos,af,g⟩ d (.d (.bm f ds)):=
 ⟨rfl,O,λS' ha=>zV rfl O (by simp) λA w I ρ C hs=>by
  have K:h.map S'.ev=h.map S.ev:=fZ λx hx=>ha.ev (by simp[Op.operands];simpa using hx)
  rw[<-K] at D;obtain⟨T,Z⟩:=zFT S' D;have k:Reps w I (h.map A.eval) ds:=by
   have:=v2 hs h;generalize h.map A.eval=vs at this ⊢;generalize h.map S'.ev=H at this D;clear T Z K
   induction H generalizing vs ds with
   | nil=>simp[unD] at D;subst D;have:vs= []:=dQ this.1;subst this;exact Pw.nil
   | cons c cells ih=>
    cases vs with
    | nil=>have:=this.1;simp at this
    | cons x xs=>
     cases c with
     | d y=>
      simp only[unD] at D;cases G:unD cells with
      | none=>simp[G] at D
      | some ys=>
       simp[G] at D;subst D;exact Pw.cons (this.2 0 x (.d y) rfl rfl) (ih xs ⟨by have:=this.1;simpa using this,λj u z G hz=>this.2 (j+1) u z (by simpa using G) (by simpa using hz)⟩ G)
     | _=>simp[unD] at D
  refine⟨.func (.func f) (h.map A.eval).toArray #[],?_,.bm f _ ds k.1 k.2⟩;simp[execOp,Instr.makeFunc]⟩
theorem yKG {x:Operand} {xs:List Operand} {ats:Array TypeId} {h ds rs:List DV} (hn:d<E.n) (hx:S.ev x= .d (.bm f h)) (aa:unD (xs.map S.ev)=some ds) (hc:zB P f (h++ds) rs) (hG:E.gdt=vF P:=by rfl):
  AOp P r E S ⟨some d,.call {callee:= .value x,args:=xs.toArray,argTypes:=ats},ty,pos,af,g⟩ d (zQP rs):=
 ⟨rfl,hn,λS' ha=>by
  have he:xs.map S'.ev=xs.map S.ev:=fZ λx hx=>ha.ev (by simp[Op.operands,Call.operands,hx]);rw[<-he] at aa;obtain⟨an,ao⟩:=zFT S' aa
  rintro A w K Q ⟨I,ρ,C,hs⟩ hk
  obtain⟨⟨fn,hf,T,H⟩,O⟩:=hc;obtain⟨I1,h1,G,h3⟩:=SatAt.dvL _ hs (v2 hs xs) an;rw[ao] at G;have ah:=hs.ev x;rw[(ha.ev (x:=x) (by simp[Op.operands,Call.operands])).trans hx] at ah;have k:Rep w I (A.eval x) (.bm f h):=ah;generalize ar:A.eval x=vx at k;cases k with
  | bm f D h am al=>
   have Z:Reps w I1 D h:=⟨am,λj u z hu hz=>(al j u z hu hz).mono (jJ I w) h1⟩;have ak:=O w I1 (D++xs.map A.eval) (λb j hi=>(G.old b j hi).1) (hG▸G.gl) (Pw.append Z h3);refine⟨λf _=>trivial,?_⟩;rw[Oper.semAt_eq _ _ _ (by simp)];have ad:(execOp A.eval ⟨some d,.call {callee:= .value x,args:=xs.toArray,argTypes:=ats},ty,pos,af,g⟩).run P w= .ok (.enter f (D++xs.map A.eval).toArray) w:=by
    simp only[execOp,resolve,ar,Deferred.ofValue];have ap:¬fn.name= "runtime.NumGoroutine" :=by simpa using T
    have hn2:¬fn.body=none:=by intro e;simp[e] at H
    simp[invoke,callFunc,hf,ap,hn2,fq]
   rw[ad];refine⟨by simp[fen,Fence.wide],?_⟩;show CallsIn Fence.wide 0 P f _ w _;refine g8.2 (ak.mono ?_)
   rintro e w' ⟨v,I',rfl,hb,ag,ab,ac⟩
   refine hk _ _ ⟨I',ρ,C,SatAt.put ?_ hn (zIL ac)⟩;have h4:=G.grow hb;exact h4.widen ag ab (λi b hi ai=>(G.blt i b hi ai).2) (E.size _ _ _ G.frame) (λb hc=>E.csize _ _ _ G.frame b hc)⟩
end
open Go.Proofs
theorem z60 {B s n:Nat} {v:Value} {xs:List Value} (h:w.ownsRow B e s v n xs):blockOf v=v.ownBlock:=by rcases h.2 with ⟨rfl,_⟩ | ⟨g,k,D,rfl,_⟩<;>rfl
theorem yTP {args:List Cap} (hp:0<size) (ah:∃fn,P.funcs[f]? =some fn/\(fn.name== "runtime.NumGoroutine")=false/\fn.body.isNone=false)
  (G:∀(w:World) (I:Im) (ρ:Nat->Value) (vs:List Value),Pw (HoldsC w I ρ) vs args->Calls P f vs.toArray w λen w'=> ∃v,en= .returned v/\w'.ownsRow w.heap.size e size v 0 []/\Below w.heap.size w w'):
  GC P f args [] [] [.row 0] [(0,.row e size false [])]:=by
 refine⟨ah,λw I ρ vs hI hG ai aj=>?_⟩;refine(G w I ρ vs aj).mono ?_
 rintro en w' ⟨v,rfl,D,hb⟩
 have H:∀id,id≠0->look Blk.none [(0,Blk.row e size false [])] id= .none:=λid h=>by
  rw[kB,dU (Ne.symm h)];rfl
 have h0:look Blk.none [(0,Blk.row e size false [])] 0= .row e size false []:=rfl;refine⟨v,I,λ_=>v,rfl,⟨hb.os,hb.tape,hb.output,hb.size,λk hk _=>hb.block k hk⟩,λb j hi=>KeepB.of (hb.block b (hI b j hi)),λ_ _ h=>h,λb j hi=>⟨fF (hI b j hi) hb.size,.inl hi⟩,⟨λid=>?_,λid Z b T h1 K _ _=>?_⟩,rfl,λb ag=>?_,λid h _=>by cases h⟩
 ·by_cases O:id=0
  ·subst O
   rw[h0];refine⟨⟨hp,λ_ _=>trivial⟩,0,[],by simp,⟨D.1,?_⟩,(λx hx=>by cases hx),Pw.nil,λg j hg hi=>?_⟩
   ·rcases D.2 with h | ⟨g,ab,ac,h1,K,h3⟩
    ·exact .inl h
    ·exact .inr ⟨g,ab,ac,h1,g5 _,h3⟩
   ·have:=(D.lt g hg).1
    have:=hI g j hi;omega
  ·rw[H id O]
   trivial
 ·have e1:id=0:=Classical.byContradiction λq=>h1 (H id q)
  have e2:Z=0:=Classical.byContradiction λq=>K (H Z q);exact absurd (e1.trans e2.symm) T
 ·obtain⟨id,h1,K⟩:=ag
  rw[z60 D] at K;have:=D.lt b K;exact⟨this.2,.inl this.1⟩
theorem yO8 {bytes:Nat} {z:Value} {i0:TypeInfo} {n:Nat} (hz:z.cells.size=size) (hi:i0.size=size) (G:i0.bytes=bytes) (Z:0<size) (H:∃fn,P.funcs[f]? =some fn/\(fn.name== "runtime.NumGoroutine")=false/\fn.body.isNone=false)
  (T:n*bytes<=140737488355328) (K:n<=4611686018427387904)
  (k:∀(w:World),Calls P f #[.slice none 0 0,.int .i64 ((0:Nat):Int)] w λe w'=>e= .returned (.slice none 0 0)/\w'=w)
  (h:∀(w:World),0<0+n->(0+n)*i0.bytes<=140737488355328->0+n<=4611686018427387904->Calls P f #[.slice none 0 0,.int .i64 (n:Int)] w λen w'=>
   en= .returned (.slice (some ⟨w.heap.size,0,none⟩) 0 (grownCap w (0+n) 0 e))/\
   w'=w.drew.alloc (.cells (([]:List Value).toArray++Builtin.zeroCells z.cells (0+n-0)++Builtin.zeroCells z.cells (grownCap w (0+n) 0 e-(0+n))) e)):
  GC P f [.d (.v (.slice none 0 0)),.d (di (n:Int))] [] [] [.row 0] [(0,.row e size false [])]:=by
 refine yTP Z H λw I ρ vs D=>?_;obtain⟨u,v,rfl⟩:∃u v,vs= [u,v]:=by
  have:=D.1
  match vs,this with
  | [u,v],_=>exact⟨u,v,rfl⟩
 have hu:Rep w I u (.v (.slice none 0 0)):=D.2 0 u _ rfl rfl;have hv:Rep w I v (.v (.int .i64 (n:Int))):=D.2 1 v _ rfl rfl;cases hu;cases hv;rcases Nat.eq_zero_or_pos n with rfl | hpos
 ·refine(k w).mono ?_
  rintro en w' ⟨rfl,rfl⟩
  exact⟨_,rfl,World.ownsRow_nil _ _ _ _,Below.refl _ _⟩
 ·refine(h w (by omega) (by rw[G,fM];exact T) (by omega)).mono ?_
  rintro en w' ⟨rfl,rfl⟩
  have hg:=grownCap_ge w (0+n) 0 e;have O:=grownCap_le_maxLen w (0+n) 0 e (by unfold maxLen;omega)
  refine⟨_,rfl,⟨by simp,.inr ⟨w.heap.size,_,_,rfl,d9 _,hF w.drew _,g5 _,O,?_,by simp⟩⟩,(Below.refl _ _).drew.alloc (d9 _) _⟩;rw[Array.size_append,Array.size_append,size_zeroCells,size_zeroCells,hz];have:grownCap w (0+n) 0 e*size=n*size+(grownCap w (0+n) 0 e-(0+n))*size:=by rw[<-fT];congr 1;omega
  rw[this];simp
def z61 (n:Int):Option Unit:=if 0<=n/\n<=1000000 then some () else none
section
variable {r:Option Nat} {E:Env} {S:AState} {d:Nat} {ty:TypeId} {pos:String} {af:Array Edge} {g:Option (Nat×Bool)}
theorem SatAt.same {S':AState} {a:Act} {I:Im} {ρ:Nat->Value} {C:Nat->Prop} (h:SatAt E S a w I ρ C) (D:∀t,S'.get t=S.get t) (hb:∀i,S'.blk i=S.blk i):SatAt E S' a w I ρ C:=by
 have G:S'.ghost=S.ghost:=by unfold AState.ghost;rw[D]
 exact⟨λt=>by rw[D];exact h.tmps t,λi=>by rw[hb];exact h.blks i,λi O b H hi k=>h.dist i O b H (by rw[<-hb];exact hi) (by rw[<-hb];exact k),by rw[G];exact h.frame,h.sub,h.old,h.size,h.defers,h.cI,λi b hi=>h.cB i b (by rw[<-hb];exact hi),λi v K hi=>h.nm i v K (by rw[<-hb];exact hi)⟩
theorem yKH {S':AState} {a:Act} (h:Sat E S a w) (k:∀t,S'.get t=S.get t) (hb:∀i,S'.blk i=S.blk i):Sat E S' a w:=by obtain⟨I,ρ,C,h⟩:=h;exact⟨I,ρ,C,h.same k hb⟩
theorem zVA {t:TypeId} {x:Operand} {id off eb k:Nat} {cells:List AV} {T:List DV} (G:d<E.n) (hT:OneTy P t) (hx:S.ev x= .ptr id off) (hb:S.blk id= .box eb cells) (hc:cells[off]? =some (.row k)) (hr:S.blk k= .row e size true T):
  AOp P r E S ⟨some d,.load t x,ty,pos,af,g⟩ d (.d (.sl size T)):=
 ⟨rfl,G,λS' h=>λa w K Q hs hk=>by
  refine(zQN G hT ((h.ev (by simp[Op.operands])).trans hx) ((h.blk id).trans hb) hc) a w K Q hs λZ w' O=>hk Z w' ?_;have H:(S'.put d (.row k)).blk k= .row e size true T:=by rw[zPK];exact(h.blk k).trans hr
  have h2:=k7 (t:=d) G (by rw[wK,eG rfl]) H Z w' O;refine yKH h2 (λu=>?_) λi=>?_
  ·rw[wK,wK,zGF,wK]
   by_cases D:d=u<;>simp[D]
  ·rw[zPK,zPK,yC,zPK]
   by_cases D:k=i
   ·subst D;simp only[eK];exact(h.blk k).trans hr
   ·simp only[D,eE]⟩
end
end Go.AV
namespace Go.M
def zRF (k:IntKind) (a b:Int):Int:=k.wrap ((BitVec.ofInt k.bits a &&& BitVec.ofInt k.bits b).toNat:Int)
def bOr (k:IntKind) (a b:Int):Int:=k.wrap ((BitVec.ofInt k.bits a ||| BitVec.ofInt k.bits b).toNat:Int)
def yKI (k:IntKind) (a n:Int):Option Int:=if n<0 then none else some (k.wrap (a*2 ^ min n.toNat k.bits))
def z62 (k:IntKind) (a n:Int):Option Int:=if n<0 then none else some (a/2 ^ min n.toNat k.bits)
end Go.M
namespace Go.AV
open Go.RowKit Go.M
variable {P:Program} {r:Option Nat} {E:Env} {S S':AState} {d e size n off eb u:Nat} {ty tz t:TypeId} {pos m:String} {af:Array Edge} {g:Option (Nat×Bool)} {x y:Operand} {a b:Int} {c:Code} {sh:Bool} {o:Oper} {cells:List AV} {f:FuncId} {ats:Array TypeId} {rs:List DV} {w:World} {I:Im} {v:Value} {C:Nat->Prop} {xs:List Operand} {Q:Exit->Act->World->Prop} {fn:Func} {args rets:List Cap} {T T':List (Nat×Blk)} {keep ids:List Nat} {D:Deferred} {l:List Oper}
section
section ints
variable {k k':IntKind} {tx:TypeId} (hn:d<E.n) (hx:S.ev x= .d (.v (.int k a)))
include hn hx
theorem yWO (H:S.ev y= .d (.v (.int k b))):AOp P r E S ⟨some d,.binOp .and tx x y tz,ty,pos,af,g⟩ d (.d (.v (.int k (zRF k a b)))):=
 ⟨rfl,hn,λS' h=>yD rfl hn (by simp) λA w I ρ C G=>by
  simp only[execOp,G.val ((h.ev (by simp[Op.operands])).trans hx),G.val ((h.ev (by simp[Op.operands])).trans H)];simp[binOp,eqGuard,Op.intBits,zRF]⟩
theorem yTQ (H:S.ev y= .d (.v (.int k b))):AOp P r E S ⟨some d,.binOp .or tx x y tz,ty,pos,af,g⟩ d (.d (.v (.int k (bOr k a b)))):=
 ⟨rfl,hn,λS' h=>yD rfl hn (by simp) λA w I ρ C G=>by
  simp only[execOp,G.val ((h.ev (by simp[Op.operands])).trans hx),G.val ((h.ev (by simp[Op.operands])).trans H)];simp[binOp,eqGuard,Op.intBits,bOr]⟩
theorem yWP {c:Int} (K:S.ev y= .d (.v (.int k' b))) (G:yKI k a b=some c):AOp P r E S ⟨some d,.binOp .shl tx x y tz,ty,pos,af,g⟩ d (.d (.v (.int k c))):=
 ⟨rfl,hn,λS' h=>yD rfl hn (by simp) λA w I ρ C H=>by
  unfold yKI at G;split at G;cases G;rename_i hb;cases G;simp only[execOp,H.val ((h.ev (by simp[Op.operands])).trans hx),H.val ((h.ev (by simp[Op.operands])).trans K)];simp[binOp,eqGuard,Op.shift,hb]⟩
theorem ySA {c:Int} (O:S.ev y= .d (.v (.int k' b))) (G:z62 k a b=some c):AOp P r E S ⟨some d,.binOp .shr tx x y tz,ty,pos,af,g⟩ d (.d (.v (.int k c))):=
 ⟨rfl,hn,λS' h=>yD rfl hn (by simp) λA w I ρ C H=>by
  unfold z62 at G;split at G;cases G;rename_i hb;cases G;have K:a.fdiv (2 ^ min b.toNat k.bits)=a/2 ^ min b.toNat k.bits:=Int.fdiv_eq_ediv_of_nonneg a (Int.le_of_lt (Int.pow_pos (by decide)));simp only[execOp,H.val ((h.ev (by simp[Op.operands])).trans hx),H.val ((h.ev (by simp[Op.operands])).trans O)];simp[binOp,eqGuard,Op.shift,hb,K]⟩
end ints
section strs
variable {s s':Str} (hn:d<E.n) (hu:P.underlying t=some .string) (hx:S.ev x= .d (ds s))
include hn hu hx
theorem zXR {lo hi:Option Operand} {l h:Nat} (hb:Bd S s.length lo hi l h) (ai:(s.take h).drop l=s'):AOp P r E S ⟨some d,.slice t x lo hi none,ty,pos,af,g⟩ d (.d (ds s')):=
 ⟨rfl,hn,λS' ha=>yD rfl hn (by simp) λA w I ρ C hs=>by
  have e1:A.eval x= .string ⟨s.toArray⟩:=hs.val ((ha.ev (by simp[Op.operands])).trans hx);have K:(⟨s.toArray⟩:ByteArray).size=s.length:=by simp[ByteArray.size]
  have ad:∀o,lo=some o->∃k,A.eval o= .int k (l:Int):=λo ho=>by
   subst ho;obtain⟨k,i,h1,rfl⟩:=hb.lo;exact⟨k,hs.val ((ha.ev (by simp[Op.operands])).trans h1)⟩
  have H:∀o,hi=some o->∃k,A.eval o= .int k (h:Int):=λo ho=>by
   subst ho;obtain⟨k,i,h1,rfl⟩:=hb.hi;exact⟨k,hs.val ((ha.ev (by simp[Op.operands])).trans h1)⟩
  have hl:=hb.le;have hh:=hb.len;have G:(Instr.sliceBounds false s.length s.length (lo.map A.eval) (hi.map A.eval) none).run P w= .ok (l,h,s.length) w:=by
   cases lo with
   | none=>
    have e0:l=0:=hb.lo;cases hi with
    | none=>
     have Z:h=s.length:=hb.hi;simp[Instr.sliceBounds,e0,Z]
    | some o=>
     obtain⟨k,O⟩:=H o rfl;simp[Instr.sliceBounds,e0,O,vJ (P:=P) w k h s.length _ hh]
   | some o=>
    obtain⟨k,O⟩:=ad o rfl;cases hi with
    | none=>
     have Z:h=s.length:=hb.hi;subst Z;simp[Instr.sliceBounds,O,vJ (P:=P) w k l s.length _ hl]
    | some o2=>
     obtain⟨k2,e4⟩:=H o2 rfl;simp[Instr.sliceBounds,O,e4,vJ (P:=P) w k2 h s.length _ hh,vJ (P:=P) w k l h _ hl]
  have ac:(⟨s.toArray⟩:ByteArray).extract l h=⟨s'.toArray⟩:=by
   rw[<-ai];apply ByteArray.ext;simp[ByteArray.data_extract,List.extract_toArray,List.extract_eq_take_drop,List.drop_take]
  simp only[execOp,Instr.sliceAt,dP,eM hu,dR,e1,Instr.slice,K,G,iu];simp[ac,K,G]⟩
theorem z63 {lo hi:Operand} {H K:IntKind} (G:S.ev lo= .d (.v (.int H a))) (k:S.ev hi= .d (.v (.int K b))) (h:slc s a b=some s'):AOp P r E S ⟨some d,.slice t x (some lo) (some hi) none,ty,pos,af,g⟩ d (.d (ds s')):=by obtain⟨rfl,Z,h2,O⟩:=zJ1 h;exact zXR hn hu hx (l:=a.toNat) (h:=b.toNat) ⟨⟨H,a,G,by omega⟩,⟨K,b,k,by omega⟩,by omega,O⟩ rfl
theorem zT4 {lo:Operand} {G:IntKind} (k:S.ev lo= .d (.v (.int G a))) (h:slc s a (s.length:Int)=some s'):AOp P r E S ⟨some d,.slice t x (some lo) none none,ty,pos,af,g⟩ d (.d (ds s')):=by obtain⟨rfl,H,K,O⟩:=zJ1 h;exact zXR hn hu hx (l:=a.toNat) (h:=s.length) ⟨⟨G,a,k,by omega⟩,rfl,by omega,by omega⟩ (by simp)
theorem z1E {hi:Operand} {G:IntKind} (k:S.ev hi= .d (.v (.int G b))) (h:slc s 0 b=some s'):AOp P r E S ⟨some d,.slice t x none (some hi) none,ty,pos,af,g⟩ d (.d (ds s')):=by obtain⟨rfl,K,O,H⟩:=zJ1 h;exact zXR hn hu hx (l:=0) (h:=b.toNat) ⟨rfl,⟨G,b,k,by omega⟩,by omega,H⟩ (by simp)
omit hu in
theorem yTR {b c:Str} (hy:S.ev y= .d (ds b)) (h:app s b=some c):AOp P r E S ⟨some d,.binOp .add t x y tz,ty,pos,af,g⟩ d (.d (ds c)):=
 ⟨rfl,hn,λS' H=>yD rfl hn (by simp) λA w I ρ C K=>by
  have O:A.eval x= .string ⟨s.toArray⟩:=K.val ((H.ev (by simp[Op.operands])).trans hx);have Z:A.eval y= .string ⟨b.toArray⟩:=K.val ((H.ev (by simp[Op.operands])).trans hy);unfold app at h;split at h;rename_i hl;cases h;have hz:¬((((⟨s.toArray⟩:ByteArray).size+(⟨b.toArray⟩:ByteArray).size:Nat):Int) > IntKind.i64.max):=by
   simp only[ByteArray.size,gO];unfold LIM at hl;show ¬_ > (9223372036854775807:Int);omega
  have G:(⟨s.toArray⟩:ByteArray)++⟨b.toArray⟩=⟨(s++b).toArray⟩:=by
   apply ByteArray.ext;simp[ByteArray.data_append]
  simp only[execOp,O,Z];have k:(Op.stringOp .add ⟨s.toArray⟩ ⟨b.toArray⟩).run P w= .ok (.string ⟨(s++b).toArray⟩) w:=by
   unfold Op.stringOp;simp only[dU hz,G];rfl
  simp[binOp,eqGuard,k];cases h⟩
end strs
end
section
theorem zSJ {t a b:Nat} {rc:List DV} (hn:t<E.n) (bg:a≠b) (ao:E.nm b=none) (ht:S.get t= .row a) (hr:S.blk a= .row e size sh rc):
  zDZ E S ((((S.killL [a,b]).setBlk a .none).setBlk b (.row e size sh rc)).put t (.row b)):=by
 rintro ac w ⟨I,ρ,C,h⟩
 have ad:S.blk a≠ .none:=by rw[hr];simp
 have O:∀i,i≠b->upd ρ b (ρ a) i= ρ i:=λi hi=>by unfold upd;rw[dU hi]
 have k:upd ρ b (ρ a) b= ρ a:=by unfold upd;rw[eG rfl]
 have ha:∀id,[a,b].contains id=false->upd ρ b (ρ a) id= ρ id:=λid am=>O id (by rintro rfl;simp at am)
 have ak:((((S.killL [a,b]).setBlk a .none).setBlk b (.row e size sh rc)).put t (.row b)).ghost=S.ghost:=by
  rw[vZ _ _ hn];unfold AState.ghost;rw[zGF,zGF,zPO];exact z6A _ _
 have H:∀i,((((S.killL [a,b]).setBlk a .none).setBlk b (.row e size sh rc)).put t (.row b)).blk i=if b=i then .row e size sh rc else if a=i then .none else zD1 [a,b] (S.blk i):=λi=>by
  rw[zPK,yC,yC,zTZ]
 have own:∀i,((((S.killL [a,b]).setBlk a .none).setBlk b (.row e size sh rc)).put t (.row b)).blk i≠ .none->∃j,S.blk j≠ .none/\upd ρ b (ρ a) i= ρ j/\(i=b->j=a)/\(i≠b->j=i)/\(i≠b->i≠a):=λi hi=>by
  rw[H] at hi;by_cases G:b=i
  ·subst G;exact⟨a,ad,k,λ_=>rfl,λq=>absurd rfl q,λq=>absurd rfl q⟩
  ·rw[dU G] at hi
   by_cases h3:a=i
   ·rw[eG h3] at hi;exact absurd rfl hi
   ·rw[dU h3] at hi
    exact⟨i,yC1.1 hi,O _ (Ne.symm G),λq=>absurd q.symm G,λ_=>rfl,λ_ q=>h3 q.symm⟩
 refine⟨I,upd ρ b (ρ a),C,⟨λu=>?_,λi=>?_,λi i' x hn hi al=>?_,by rw[ak];exact h.frame,h.sub,h.old,h.size,h.defers,h.cI,λi x hi hx=>?_,λi v hv hi=>?_⟩⟩
 ·rw[wK]
  by_cases e1:t=u
  ·subst e1
   simp only[eK];have:=h.tmps t;rw[ht] at this;show ac.tmps.getD t undef=upd ρ b (ρ a) b;rw[k];exact this
  ·simp only[e1,eE]
   rw[zGF,zGF,zPO];exact zLN (h.tmps u) ha
 ·rw[H]
  by_cases G:b=i
  ·subst G
   rw[eG rfl];have hk:=h.blks a;rw[hr] at hk;simpa only[BlkOk,k] using hk
  ·rw[dU G]
   by_cases h3:a=i
   ·rw[eG h3];trivial
   ·rw[dU h3]
    exact(h.blks i).agree (O _ (Ne.symm G)) ha
 ·obtain⟨j,p1,p2,p3,p4,p5⟩:=own i hi
  obtain⟨j',ar,au,aw,ai,ax⟩:=own i' al;rw[p2,au];refine h.dist j j' x ?_ p1 ar;intro e;by_cases K:i=b
  ·by_cases Z:i'=b
   ·exact hn (K.trans Z.symm)
   ·have:=p3 K;have:=ai Z;have:=ax Z;omega
  ·by_cases Z:i'=b
   ·have:=aw Z;have:=p4 K;have:=p5 K;omega
   ·have:=p4 K;have:=ai Z;omega
 ·obtain⟨j,p1,p2,_⟩:=own i hi
  rw[p2] at hx;exact h.cB j x p1 hx
 ·obtain⟨j,p1,p2,p3,p4,_⟩:=own i hi
  have K:i≠b:=by rintro rfl;rw[ao] at hv;cases hv
  have e:=p4 K;rw[p2,e];exact h.nm i v hv (e▸p1)
theorem z1F {G S2:AState} (h:jI P r E o S G) (hw:zDZ E G S2):jI P r E o S S2:=λa w K Q Z O=>h a w K Q Z λH w' k=>O H w' (hw H w' k)
theorem zB4 {t id:Nat} {ds:List DV} (hn:d<E.n) (hT:AggTy P t n) (hx:S.ev x= .ptr id off) (hb:S.blk id= .box eb cells) (hd:unD ((cells.drop off).take n)=some ds) (hl:((cells.drop off).take n).length=n):
  AOp P r E S ⟨some d,.load t x,ty,pos,af,g⟩ d (.d (.agg ds)):=
 ⟨rfl,hn,λS' G=>zV rfl hn (by simp) λA w I ρ C hs=>by
  have h:=hs.ev x;rw[(G.ev (by simp[Op.operands])).trans hx] at h;obtain⟨b,ab,hv⟩:=h;have O:=hs.blks id;rw[(G.blk id).trans hb] at O;obtain⟨b',arr,ac,hB,hh,ag,Z,hI⟩:=O;have ah:b'=b:=by rw[ac] at ab;simpa[blockOf] using ab
  subst ah;have H:((arr.toList.drop off).take n).length=n:=by rw[fU,fD,Z.1,<-fD,<-fU];exact hl
  have aa:Pw (Holds w I ρ) ((arr.toList.drop off).take n) ((cells.drop off).take n):=by
   refine⟨H.trans hl.symm,λj a b G hb=>?_⟩;rw[ft] at G hb;split at G
   ·rename_i K
    rw[eG K] at hb;rw[fK] at G hb;exact Z.2 _ a b G hb
   ·cases G
  have k:Reps w I ((arr.toList.drop off).take n) ds:=zR6 aa hd;refine⟨.agg ((arr.toList.drop off).take n).toArray,?_,.agg _ _ k.1 (λu hu=>ag u (fW (gA hu))) k.2⟩;simp only[execOp,hv,dP];rw[zDN w hT b' off ((arr.toList.drop off).take n) H (λj v K=>by
   rw[gN w b' _ arr eb (0,0) hh];rw[ft] at K;split at K
   ·rw[fK] at K;simpa using K
   ·cases K)]
  rfl⟩
theorem z3A {t:Nat} {id:Nat} {ds:List DV} (hT:AggTy P t n) (hx:S.ev x= .ptr id off) (hb:S.blk id= .box eb cells) (hy:S.ev y= .d (.agg ds)) (ak:ds.length=n) (hl:off+n<=cells.length) (hE:E.wrB=true):
  jI P r E ⟨none,.store t x y,ty,pos,af,g⟩ S (S.setBlk id (.box eb (cells.take off++ds.map AV.d++cells.drop (off+n)))):=
 zGS rfl (by simp) λA w I ρ C hs=>by
  have h:=hs.ev x;rw[hx] at h;obtain⟨b,H,hv⟩:=h;have aa:=hs.blks id;rw[hb] at aa;obtain⟨K,arr,G,hB,hh,O,ac,hI⟩:=aa;have aj:K=b:=by rw[G] at H;simpa[blockOf] using H
  subst aj;have ad:=hs.ev y;rw[hy] at ad;have k:Rep w I (A.eval y) (.agg ds):=ad;generalize he:A.eval y=vy at k;cases k with
  | agg xs ag ab h1 hr=>
   have az:arr.size=cells.length:=by rw[<-fB,ac.1]
   have an:xs.length=n:=by rw[ab];exact ak
   have am:=zQ7 (P:=P) w hT (b:=K) (off:=off) (vs:=xs) hh (by omega) an h1;refine⟨_,?_,I,ρ,C,hs.modify (zCU w K (arr.toList.take off++xs++arr.toList.drop (off+n)).toArray) (by rw[hb];simp) H (vA hI) ⟨K,(arr.toList.take off++xs++arr.toList.drop (off+n)).toArray,G,hB,iQ w K arr _ eb _ hh,?_,?_,hI⟩ hE⟩
   ·simp only[execOp,hv,he,dP,am]
    rfl
   ·intro u hu
    simp only[fk] at hu;rcases hu with (hu | hu) | hu
    ·exact O u (gA hu)
    ·exact h1 u hu
    ·exact O u (fW hu)
   ·have al:Reps w I xs ds:=⟨ab,hr⟩
    have hA:=yTB (ρ:=ρ) (Reps.mono al (vA (arr:=(arr.toList.take off++xs++arr.toList.drop (off+n)).toArray) hI) (λ_ _ h=>h));have Z:Pw (Holds (w.setRow K (arr.toList.take off++xs++arr.toList.drop (off+n)).toArray) I ρ) arr.toList cells:=ac.imp λx y h=>h.mono (vA hI) (λ_ _ h=>h);exact(Z.take off).append hA |>.append (Z.drop (off+n))
theorem z3B {e:TypeId} {id:Nat} (k:d<E.n) (hu:P.underlying t=some (.pointer e)) (hx:S.ev x= .ptr id off):
  AOp P r E S ⟨some d,.binOp .eql t x (.const (.pointer none)) tz,ty,pos,af,g⟩ d (.d (.v (.bool false))):=
 ⟨rfl,k,λS' G=>yD rfl k (by simp) λA w I ρ C Z=>by
  have h:=Z.ev x;rw[(G.ev (x:=x) (by simp[Op.operands])).trans hx] at h;obtain⟨b,_,hv⟩:=h;have H:A.eval (.const (.pointer none))= .pointer none:=rfl;have hb:binOp .eql t (.pointer (some ⟨b,off,none⟩)) (.pointer none)=(do pure (.bool (<-Op.equal t (.pointer (some ⟨b,off,none⟩)) (.pointer none)))):=rfl;have O:eqGuard .eql t x (.const (.pointer none)) (.pointer (some ⟨b,off,none⟩)) (.pointer none)=pure ():=rfl;have K:(Op.equal t (.pointer (some ⟨b,off,none⟩)) (.pointer none)).run P w= .ok false w:=by
   show (Op.equalIn (9999+1) t _ _).run P w=_;rw[Op.equalIn];simp only[dP,eM hu,dR];rfl
  simp only[execOp,hv,H,hb,O,dP,eQ,dR,K]⟩
theorem yC8 {ps rs:Array TypeId} {vr:Bool} {k:List DV} (H:d<E.n) (hu:P.underlying t=some (.func ps rs vr)) (hx:S.ev x= .d (.bm f k)):
  AOp P r E S ⟨some d,.binOp .neq t x (.const .nilFunc) tz,ty,pos,af,g⟩ d (.d (.v (.bool true))):=
 ⟨rfl,H,λS' K=>yD rfl H (by simp) λA w I ρ C hs=>by
  have h:=hs.ev x;rw[(K.ev (x:=x) (by simp[Op.operands])).trans hx] at h;have G:Rep w I (A.eval x) (.bm f k):=h;generalize hv:A.eval x=v at G;cases G with
  | bm f xs k _ _=>
   have O:A.eval (.const .nilFunc)= .nilFunc:=rfl;have hb:∀q,binOp .neq t (.func (.func f) xs.toArray q) .nilFunc=(do pure (.bool (!(<-Op.equal t (.func (.func f) xs.toArray q) .nilFunc)))):=λ_=>rfl;have hg:∀q,eqGuard .neq t x (.const .nilFunc) (.func (.func f) xs.toArray q) .nilFunc=pure ():=λ_=>rfl;have Z:∀q,(Op.equal t (.func (.func f) xs.toArray q) .nilFunc).run P w= .ok false w:=λq=>by
    show (Op.equalIn (9999+1) t _ _).run P w=_;rw[Op.equalIn];simp only[dP,eM hu,dR];rfl
   simp only[execOp,hv,O,hb,hg,dP,eQ,dR,Z];rfl⟩
theorem yTS {z:Operand} {c:Int} (O:d<E.n) (Z:S.ev x= .d (.v (.int .i64 a))) (hy:S.ev y= .d (.v (.int .i64 b))) (hz:S.ev z= .d (.v (.int .i64 c))):
  AOp P r E S ⟨some d,.call {callee:= .builtin .max,args:= #[x,y,z],argTypes:=ats},ty,pos,af,g⟩ d (.d (.v (.int .i64 (max (max a b) c)))):=
 ⟨rfl,O,λS' h=>yD rfl O (by simp) λA w I ρ C k=>by
  have G:=(h.ev (x:=x) (by simp[Op.operands,Call.operands])).trans Z;have H:=(h.ev (x:=y) (by simp[Op.operands,Call.operands])).trans hy;have K:=(h.ev (x:=z) (by simp[Op.operands,Call.operands])).trans hz;simp only[execOp,resolve,fq,fp,gE,k.val G,k.val H,k.val K];simp[invoke,builtin,Builtin.max_,Builtin.max2];split<;>split<;>(try simp)<;>(try split)<;>omega⟩
theorem yGG {k:TypeDesc} (H:d<E.n) (hu:P.underlying t=some k) (G:∀ms,k≠ .interface ms) (hx:S.ev x= .d (.agg [])):
  AOp P r E S ⟨some d,.makeInterface t x,ty,pos,af,g⟩ d (.d (.v (.iface t (.agg #[])))):=
 ⟨rfl,H,λS' O=>yD rfl H (by simp) λA w I ρ C Z=>by
  have h:=Z.ev x;rw[(O.ev (x:=x) (by simp[Op.operands])).trans hx] at h;have hv:A.eval x= .agg #[]:=by
   have K:Rep w I (A.eval x) (.agg ([].map DV.v)):=h;exact zL7 (vs:=[]) K
  simp only[execOp,hv,Instr.makeInterface,dP,eM hu,dR];cases k<;>first | rfl | exact absurd rfl (G _)⟩
theorem yTT {u:Value} (h:d<E.n) (K:S.ev x= .d (.v (.iface t u))):AOp P r E S ⟨some d,.nilCheck x,ty,pos,af,g⟩ d (.d (.v (.iface t u))):=
 ⟨rfl,h,λS' k=>yD rfl h (by simp) λA w I ρ C G=>by
  have H:=G.val ((k.ev (x:=x) (by simp[Op.operands])).trans K);simp[execOp,H]⟩
theorem yGH {xt:TypeId} {G:TypeDesc} (O:d<E.n) (hu:P.underlying t=some G) (H:∀ms,G≠ .interface ms) (K:S.ev x= .d (.v (.iface t (.agg #[])))):
  AOp P r E S ⟨some d,.typeAssert x xt t true,ty,pos,af,g⟩ d (.tup [.agg [],.v (.bool true)]):=
 ⟨rfl,O,λS' k=>zV rfl O (by simp) λA w I ρ C Z=>by
  have hv:=Z.val ((k.ev (x:=x) (by simp[Op.operands])).trans K);refine⟨.tuple #[.agg #[],.bool true],?_,⟨[.agg #[],.bool true],rfl,rfl,?_⟩⟩
  ·simp only[execOp,hv,Instr.typeAssert,dP,eM hu,dR]
   cases G<;>first | (simp;done) | exact absurd rfl (H _)
  ·intro j a b k hb
   match j,k,hb with
   | 0,k,hb=>cases k;cases hb;exact .agg [] [] rfl (λ_ h=>by cases h) (λj x c K=>by simp at K)
   | 1,k,hb=>cases k;cases hb;exact .v _⟩
theorem yKJ {u:Value} (h:d<E.n) (K:S.ev x= .d (.v (.iface t u))):
  AOp P r E S ⟨some d,.makeFunc (.method m) #[x] #[],ty,pos,af,g⟩ d (.d (.v (.func (.method m) #[.iface t u] #[]))):=
 ⟨rfl,h,λS' k=>yD rfl h (by simp) λA w I ρ C G=>by
  have H:=G.val ((k.ev (x:=x) (by simp[Op.operands])).trans K);simp[execOp,Instr.makeFunc,H]⟩
theorem z64 (w:World) (I:Im):Rep w I (.agg #[]) (.agg []):= .agg [] [] rfl (λ_ h=>by cases h) (λj x c k=>by simp at k)
theorem yTU {ds:List DV} (k:∀args w,(callMethod (.iface t (.agg #[])) m args).run P w=(callFunc f (#[.agg #[]]++args)).run P w) (h:zB P f (.agg []::ds) rs):FnC P (.v (.func (.method m) #[.iface t (.agg #[])] #[])) ds rs:=
 .inr (.inr ⟨m,t,_,f,.agg [],rfl,k,z64,h⟩)
end
theorem zPY (Z:0<size) (h:∀B c,zB P f [.v (.slice B 0 c)] rs):zB P f [.sl size []] rs:=by
 refine⟨(h none 0).1,λw I vs H hG G=>?_⟩
 match vs,G.1 with
 | [v],_=>
  have hr:Rep w I v (.sl size []):=G.2 0 v (.sl size []) rfl rfl;cases hr with
  | nil A c=>exact(h A c).2 w I _ H hG (Pw.cons (.v _) Pw.nil)
  | sl b off n c size xs cells O k K=>exact absurd K (by have:=Nat.mul_pos O Z;simp only[fE];omega)
def z1G (size:Nat):Cap->Option (List Cap)
 | .d y=>if okDV size y then some ((uA y).map Cap.d) else none
 | .row i=>if Nat.beq size 1 then some [.row i] else none
 | .ptr i o=>if Nat.beq size 1 then some [.ptr i o] else none
 | .top=>none
def z65 (places:List (Nat×Nat)):List Cap->List (Nat×Cap)->Option (List Cap)
 | cells,[]=>some cells
 | cells,(i,v)::rest=>match places[i]? with
  | none=>none
  | some (off,size)=>match z1G size v with
   | none=>none
   | some l=>if Nat.ble (off+size) cells.length then z65 places (cells.take off++l++cells.drop (off+size)) rest else none
section
variable {ρ:Nat->Value}
theorem z67 {c:Cap} {l:List Cap} (h:HoldsC w I ρ v c) (K:(∃y,c= .d y)\/v.oneCell'=true) (k:z1G size c=some l):
  Pw (HoldsC w I ρ) v.cells.toList l/\(∀x∈v.cells.toList,x.oneCell'=true)/\l.length=size:=by
 have one:∀(_:v.oneCell'=true),v.cells= #[v]:=λh=>zHY h;cases c with
 | top=>cases k
 | d y=>
  simp only[z1G] at k;split at k
  ·rename_i O
   cases k;obtain⟨a,b,c⟩:=Rep.flat (size:=size) (show Rep w I v y from h) O;refine⟨⟨by rw[a.1,fO],λj u q hu Z=>?_⟩,b,by simp[c]⟩;rw[e7] at Z;cases H:(uA y)[j]? with
   | none=>rw[H] at Z;cases Z
   | some z=>rw[H] at Z;cases Z;exact a.2 j u z hu H
  ·cases k
 | row i=>
  simp only[z1G] at k;split at k
  ·rename_i O
   cases k;have G:v.oneCell'=true:=by rcases K with ⟨y,e⟩ | K;exact absurd e (by simp);exact K
   rw[one G];exact⟨Pw.cons h Pw.nil,by simpa using G,by simp[iG O]⟩
  ·cases k
 | ptr i o=>
  simp only[z1G] at k;split at k
  ·rename_i O
   cases k;have G:v.oneCell'=true:=by rcases K with ⟨y,e⟩ | K;exact absurd e (by simp);exact K
   rw[one G];exact⟨Pw.cons h Pw.nil,by simpa using G,by simp[iG O]⟩
  ·cases k
theorem z68 {places:List (Nat×Nat)}:∀(ds:List (Nat×Cap)) (vs:List (Nat×Value)) (arr:Array Value) (cells h:List Cap),Pw (HoldsC w I ρ) arr.toList cells->(∀x∈arr.toList,x.oneCell'=true)->
  Pw (λ(v:Nat×Value) (y:Nat×Cap)=>v.1=y.1/\HoldsC w I ρ v.2 y.2/\((∃z,y.2= .d z)\/v.2.oneCell'=true)) vs ds->z65 places cells ds=some h->
  ∃k,Instr.fill (λi=>places[i]?) arr vs=some k/\Pw (HoldsC w I ρ) k.toList h/\∀x∈k.toList,x.oneCell'=true:=by
 intro ds
 induction ds with
 | nil=>
  intro vs arr cells h hr h1 O G;have:vs= []:=dQ O.1;subst this;simp only[z65,gD] at G;subst G;exact⟨arr,rfl,hr,h1⟩
 | cons p ds ih=>
  intro vs arr cells h hr h1 O G;obtain⟨i,y⟩:=p;cases vs with
  | nil=>have:=O.1;simp at this
  | cons q vs=>
   obtain⟨i',v⟩:=q;obtain⟨hi,hv,ho⟩:=O.2 0 (i',v) (i,y) rfl rfl;simp only at hi hv ho;subst hi;simp only[z65] at G;cases K:places[i']? with
   | none=>simp[K] at G
   | some os=>
    obtain⟨off,size⟩:=os;simp only[K] at G;cases H:z1G size y with
    | none=>simp[H] at G
    | some l=>
     simp only[H] at G;split at G
     ·rename_i hc
      obtain⟨Z,ah,ai⟩:=z67 hv ho H;have aj:off+size<=cells.length:=hZ hc;have am:v.cells.size=size:=by rw[<-fB,Z.1,ai]
      have ag:arr.toList.length=cells.length:=hr.1;have ak:Pw (HoldsC w I ρ) (arr.toList.take off++v.cells.toList++arr.toList.drop (off+size)) (cells.take off++l++cells.drop (off+size)):=
       Pw.append (Pw.append (hr.take off) Z) (hr.drop (off+size))
      obtain⟨k,ha,al,ac⟩:=ih vs (arr.toList.take off++v.cells.toList++arr.toList.drop (off+size)).toArray _ h (by simpa using ak) (by
       intro x hx;simp only[fk] at hx;rcases hx with (hx | hx) | hx
       ·exact h1 x (gA hx)
       ·exact ah x hx
       ·exact h1 x (fW hx)) ⟨by have:=O.1;simpa using this,λj a b ha hb=>O.2 (j+1) a b (by simpa using ha) (by simpa using hb)⟩ G
      refine⟨k,?_,al,ac⟩;rw[zW6 (off:=off) (size:=size) K am (by rw[<-fB,ag];exact aj)]
      exact ha
     ·cases G
end
def yKK (S:AState):List (Nat×Operand)->Option (List (Nat×Cap))
 | []=>some []
 | (i,x)::r=>match S.ev x,yKK S r with
  | .d y,some ys=>some ((i,.d y)::ys)
  | .row k,some ys=>if zQO S (.row k) then some ((i,.row k)::ys) else none
  | .ptr k o,some ys=>some ((i,.ptr k o)::ys)
  | _,_=>none
section
theorem zM9 (K:Agree S S' o) {A:Act} {ρ:Nat->Value} (Z:SatAt E S' A w I ρ C):∀{ps:List (Nat×Operand)} {ds:List (Nat×Cap)},(∀p∈ps,p.2∈o.op.operands)->yKK S ps=some ds->
  Pw (λ(v:Nat×Value) (y:Nat×Cap)=>v.1=y.1/\HoldsC w I ρ v.2 y.2/\((∃z,y.2= .d z)\/v.2.oneCell'=true)) (ps.map λp=>(p.1,A.eval p.2)) ds
 | [],ds,_,h=>by simp[yKK] at h;subst h;exact Pw.nil
 | (i,x)::rest,ds,hm,h=>by
  simp only[yKK] at h;have H:=Z.ev x;rw[K.ev (hm (i,x) (by simp))] at H;split at h
  ·rename_i y ys hy G
   cases h;rw[hy] at H;exact Pw.cons ⟨rfl,H,.inl ⟨_,rfl⟩⟩ (zM9 K Z (λp O=>hm p (by simp[O])) G)
  ·rename_i k ys hy G
   split at h
   ·rename_i hr
    cases h;rw[hy] at H;refine Pw.cons ⟨rfl,H,.inr ?_⟩ (zM9 K Z (λp O=>hm p (by simp[O])) G);exact zTQ Z.blks H rfl (λi' e=>by
     cases e;have:=zJW hr k rfl
     rwa [K.blk])
   ·cases h
  ·rename_i k off ys hy G
   cases h;rw[hy] at H;refine Pw.cons ⟨rfl,H,.inr ?_⟩ (zM9 K Z (λp O=>hm p (by simp[O])) G);obtain⟨b,_,h2⟩:=H;show (A.eval x).oneCell'=true;rw[h2];rfl
  ·cases h
theorem zMB {places:List (Nat×Nat)} {zs:List Value} {ps:List (Nat×Operand)} {ds:List (Nat×Cap)} {cells:List Cap} (hn:d<E.n) (H:StTy P t places zs) (K:yKK S ps=some ds) (hf:z65 places (zs.map λz=>Cap.d (.v z)) ds=some cells):
  AOp P r E S ⟨some d,.build t ps.toArray,ty,pos,af,g⟩ d (.aggc cells):=
 ⟨rfl,hn,λS' ha=>zV rfl hn (by simp) λA w I ρ C hs=>by
  obtain⟨k,G,O⟩:=H.und;have h0:Pw (HoldsC w I ρ) zs.toArray.toList (zs.map λz=>Cap.d (.v z)):=by
   refine⟨by simp,λj u q G Z=>?_⟩;rw[e7] at Z;simp only[fJ] at G;have aa:zs[j]? =some u:=by simpa using G
   rw[aa] at Z;cases Z;exact .v _
  obtain⟨h,h1,h2,h3⟩:=z68 (places:=places) ds (ps.map λp=>(p.1,A.eval p.2)) zs.toArray _ cells h0 (by simpa using H.one) (zM9 ha hs (λp O=>by simp only[Op.operands];simp;exact⟨p.1,O⟩) K) hf
  refine⟨.agg h,?_,h.toList,by simp,h2,h3⟩;have hz:=H.zero w;simp only[execOp,Instr.build,fq,dP,hz,dR,eM G,O w,Value.cells,fJ,h1,eQ]⟩
theorem yGI {O:Callee} {us:List Value} {ys:List DV} {A:Act} {ρ:Nat->Value} {K:Act->World->Prop} (hn:d<E.n) (H:SatAt E S' A w I ρ C) (hc:zB P f ys rs) (hG:E.gdt=vF P) (h3:Reps w I us ys)
  (ab:∀fn,P.funcs[f]? =some fn->(fn.name== "runtime.NumGoroutine")=false->fn.body.isNone=false->(execOp A.eval ⟨some d,.call {callee:=O,args:=xs.toArray,argTypes:=ats},ty,pos,af,g⟩).run P w= .ok (.enter f us.toArray) w)
  (hk:∀a' w',Sat E (S'.put d (zQP rs)) a' w'->K a' w'):Oper.wpIn (fen r) 0 P ⟨some d,.call {callee:=O,args:=xs.toArray,argTypes:=ats},ty,pos,af,g⟩ A w K Q:=by
 obtain⟨⟨fn,hf,G,h⟩,k⟩:=hc;have ah:=k w I us (λb j hi=>(H.old b j hi).1) (hG▸H.gl) h3;refine⟨λf _=>trivial,?_⟩;rw[Oper.semAt_eq _ _ _ (by simp)];rw[ab fn hf G h];refine⟨by simp[fen,Fence.wide],?_⟩;show CallsIn Fence.wide 0 P f _ w _;refine g8.2 (ah.mono ?_)
 rintro e w' ⟨v,I',rfl,hb,ac,Z,aa⟩
 refine hk _ _ ⟨I',ρ,C,SatAt.put ?_ hn (zIL aa)⟩;have h4:=H.grow hb;exact h4.widen ac Z (λi b hi ad=>(H.blt i b hi ad).2) (E.size _ _ _ H.frame) (λb hc=>E.csize _ _ _ H.frame b hc)
theorem yKL {ds:List DV} (hn:d<E.n) (hx:S.ev x= .d (.v (.iface t (.agg #[])))) (aa:unD (xs.map S.ev)=some ds)
  (hm:∀args w,(callMethod (.iface t (.agg #[])) m args).run P w=(callFunc f (#[.agg #[]]++args)).run P w) (hc:zB P f (.agg []::ds) rs) (hG:E.gdt=vF P:=by rfl):
  AOp P r E S ⟨some d,.call {callee:= .invoke x m,args:=xs.toArray,argTypes:=ats},ty,pos,af,g⟩ d (zQP rs):=by
 refine⟨rfl,hn,λS' G=>?_⟩;have ad:=(G.ev (x:=x) (by simp[Op.operands,Call.operands])).trans hx;have H:unD (xs.map S'.ev)=some ds:=by
  have:xs.map S'.ev=xs.map S.ev:=fZ λy hy=>G.ev (by simp[Op.operands,Call.operands,hy]);rw[this];exact aa
 obtain⟨O,Z⟩:=zFT S' H
 rintro A w K Q ⟨I,ρ,C,hs⟩ hk
 obtain⟨I1,h1,h2,h3⟩:=SatAt.dvL _ hs (v2 hs xs) O;rw[Z] at h2;have hv:=hs.val ad;refine yGI (us:= .agg #[]::xs.map A.eval) hn h2 hc hG ?_ (λfn hf k h=>?_) hk
 ·refine⟨by simp[h3.1],λj a b G hb=>?_⟩
  cases j with
  | zero=>simp only[List.getElem?_cons_zero,gD] at G hb;subst G;subst hb;exact z64 w I1
  | succ j=>exact h3.2 j a b (by simpa using G) (by simpa using hb)
 ·simp only[execOp,resolve,hv]
  have ab:¬fn.name= "runtime.NumGoroutine" :=by simpa using k
  have hn2:¬fn.body=none:=by intro e;simp[e] at h
  have he:(#[Value.iface t (.agg #[])]++xs.toArray.map A.eval).extract 1 (#[Value.iface t (.agg #[])]++xs.toArray.map A.eval).size=xs.toArray.map A.eval:=by
   rw[<-Array.toList_inj];simp[gS]
  have h0:(#[Value.iface t (.agg #[])]++xs.toArray.map A.eval)[0]? =some (.iface t (.agg #[])):=by simp
  have h1:(callMethod (.iface t (.agg #[])) m (xs.toArray.map A.eval)).run P w= .ok (.enter f (.agg #[]::xs.map A.eval).toArray) w:=by
   rw[hm];simp[callFunc,hf,ab,hn2,fq]
  simp only[dP,eQ,dR,invoke,h0,he,h1]
theorem z3C {t:Nat} {id:Nat} {cs:List Cap} (hT:AggTy P t n) (hx:S.ev x= .ptr id 0) (hb:S.blk id= .box eb cells) (hy:S.ev y= .aggc cs) (hl:cells.length=n) (ah:cs.length=n) (hE:E.wrB=true):
  jI P r E ⟨none,.store t x y,ty,pos,af,g⟩ S (S.setBlk id (.box eb (cs.map Cap.av))):=
 zGS rfl (by simp) λA w I ρ C hs=>by
  have h:=hs.ev x;rw[hx] at h;obtain⟨b,H,hv⟩:=h;have O:=hs.blks id;rw[hb] at O;obtain⟨K,arr,k,hB,hh,ao,aj,hI⟩:=O;have ag:K=b:=by rw[k] at H;simpa[blockOf] using H
  subst ag;have ab:=hs.ev y;rw[hy] at ab;obtain⟨xs,he,hp,h1⟩:=ab;have ax:arr.size=n:=by rw[<-fB,aj.1];exact hl
  have ak:xs.length=n:=by rw[hp.1];exact ah
  have aa:=zQ7 (P:=P) w hT (b:=K) (off:=0) (vs:=xs) hh (by omega) ak h1;have e1:arr.toList.take 0++xs++arr.toList.drop (0+n)=xs:=by
   rw[List.drop_eq_nil_of_le (by simp;omega)];simp
  rw[e1] at aa;refine⟨_,?_,I,ρ,C,hs.modify (zCU w K xs.toArray) (by rw[hb];simp) H (vA hI) ⟨K,xs.toArray,k,hB,iQ w K arr _ eb _ hh,by simpa using h1,?_,hI⟩ hE⟩
  ·simp only[execOp,hv,he,dP,aa]
   rfl
  ·refine⟨by rw[hp.1,fO],λj u c hu Z=>?_⟩
   rw[e7] at Z;cases G:cs[j]? with
   | none=>rw[G] at Z;cases Z
   | some q=>rw[G] at Z;cases Z;exact(Cap.holds (hp.2 j u q hu G)).mono (vA hI) (λ_ _ h=>h)
end
theorem yKM (h:∀w,(method (P.types.size+Made.depth) t v m).run P w= .ok (f,v) w):∀args w,(callMethod (.iface t v) m args).run P w=(callFunc f (#[v]++args)).run P w:=λargs w=>by simp only[callMethod,dP,run_program,dR,h]
theorem yAV {t:Nat} {d:DV} (G:t<E.n) (K:S.get t= .d (.v v)) (H:∀w I,Rep w I v d):zDZ E S (S.put t (.d d)):=by
 rintro a w ⟨I,ρ,C,h⟩
 refine⟨I,ρ,C,⟨λu=>?_,h.blks,h.dist,by rw[vZ _ _ G];exact h.frame,h.sub,h.old,h.size,h.defers,h.cI,h.cB,h.nm⟩⟩
 rw[wK];by_cases e:t=u;subst e;simp only[eK];have:=h.tmps t;rw[K] at this;generalize a.tmps.getD t undef=x at this ⊢;have k:Rep w I x (.v v):=this;rw[zOS k];exact H w I;simp only[e,eE];exact h.tmps u
theorem yKN {vs:List Value} (G:vs.all Value.oneCell'=true) (w:World) (I:Im):Rep w I (.agg vs.toArray) (.agg (vs.map DV.v)):=
 .agg vs _ (by simp) (λx h=>eO.1 G x h) (λj x c h k=>by
  rw[e7,h] at k;cases k;exact .v _)
section
theorem yO9 {α:Type} {en:En α} {l:List α} {t bytes:Nat} {z:Value} {m:Int} {zero: α} (hn:d<E.n) (G:SlTy P t e en.size bytes z) (hx:S.ev x= .d (.v (.int .i64 m))) (ha:mkM zero m=some l) (H:bytes<=32768) (ai:E.nm d=none):
  jI P r E ⟨some d,.makeSlice t (.const (.int .i64 0)) x,ty,pos,af,g⟩ S (((S.kill d).setBlk d (.row e en.size false (en.all []))).put d (.row d)):=by
 unfold mkM at ha;split at ha
 ·rename_i hh
  cases ha;obtain⟨n,rfl⟩:∃n:Nat,m=(n:Int):=⟨m.toNat,by omega⟩;have hl:=hh.2;simp only[hP] at hl;have Z:n<=maxLen:=by unfold LIM at hl;unfold maxLen;omega
  have hb:n*bytes<=140737488355328:=by
   have h1:n*bytes<=4294967296*bytes:=fP _ hl;have h2:4294967296*bytes<=4294967296*32768:=iY _ H;omega
  refine vR (by simp) λA w I ρ C hs=>?_;obtain⟨i,hi,hz,aj,ad⟩:=G.info;have aa:=hs.newRow (id:=d) (e:=e) (size:=en.size) (n:=0) (c:=n) (xs:=[]) (cells:=[]) (rest:=(List.replicate n z.cells.toList).flatten) G.pos (by simp) (g5 _) Z (by simp[G.zs])
   (by simpa using zOJ w I []) (by simp) ai
  refine⟨.slice (some ⟨w.heap.size,0,none⟩) 0 n,_,?_,I,_,C,aa.put hn (by simp[Holds,upd])⟩;have K:=zOI z.cells n;rw[G.zs] at K;have O:madeCells z.cells (n*i.size)=((List.replicate n z.cells.toList).flatten).toArray:=by
   apply Array.ext';rw[aj];simpa using K
  have ac:(i.bytes:Int)*(n:Int)<=281474976710656:=by
   have h:((i.bytes*n:Nat):Int)<=281474976710656:=by rw[ad,Nat.mul_comm];omega
   rwa [Int.natCast_mul] at h
  have k:=run_make (P:=P) w t e i z G.und hi hz .i64 .i64 0 n (by omega) (by omega) ac (by simp only[maxLen] at Z;omega)
  simp only[hP] at k;have ag:A.eval (.const (.int .i64 0))= .int .i64 0:=rfl;simp only[execOp,ag,hs.val hx,dP,eN];rw[k,O];rfl
 ·cases ha
end
section
variable {R:Value->World->Prop}
theorem OutM.go {F:Fence}:∀(ds:List Deferred) (w:World) (fr:Frame) (cs:List Frame),OutM P fn fr.tmps R ds w->fr.mode= .returning->fr.defers=ds->fr.kind= .deferred->P.funcs[fr.fn]? =some fn->F.fn fr.fn->F.room (cs.length+1+n)->
  ∃v w' h,R v w'/\StepsIn (Machine.fenced P F) P (lone fr cs w) (lone h cs w')/\h.kind= .deferred/\h.fn=fr.fn/\h.going P w' (.returned v)
 | [],w,fr,cs,⟨v,G,K⟩,k,H,Z,O,_,_=>⟨v,w,fr,K,StepsIn.refl _,Z,rfl,k,H,fn,O,G⟩
 | d::ds,w,fr,cs,⟨r,w1,G,K,h3⟩,k,H,Z,O,hb,hr=>by
  obtain⟨v,w',h,a1,a2,a3,a4,a5⟩:=OutM.go ds w1 {fr with defers:=ds} cs h3 k rfl Z O hb hr;have i1:(lone fr cs w).fenced P F:=fenced_out hb hr (by rw[k];simp) H λg hg=>by rw[G] at hg;simp[Target.leads] at hg
  have s1:=step_collected (cs:=cs) (by rw[k];simp) H G K
  exact⟨v,w',h,a1,StepsIn.trans (.one i1 s1) a2,a3,a4,a5⟩
theorem OutM.mono {tmps:Array Value} {R':Value->World->Prop}:∀(ds:List Deferred) (w:World),OutM P fn tmps R ds w->(∀v w,R v w->R' v w)->OutM P fn tmps R' ds w
 | [],_,⟨v,k,G⟩,h=>⟨v,k,h _ _ G⟩
 | _::ds,_,⟨r,H,k,G,K⟩,h=>⟨r,H,k,G,OutM.mono ds H K h⟩
theorem yGJ {args:Array Value} (hf:P.funcs[f]? =some fn) (hb:fn.body=some c)
  (h:c.wpIn (fen none) 0 P (outQ P fn R) {tmps:=args++Array.replicate (fn.ntmps-args.size) undef,defers:=[]} w):
  CallsDIn (fen none) 0 P f args .returning w λe u w'=>u= .returning/\∃v,e= .returned v/\R v w':=by
 refine⟨trivial,λG cs hu hr=>?_⟩
 let b:Frame:={(default:Frame) with fn:=f,kind:= .deferred,roundOf:=none}
 have ab:Frame.enter P f args .deferred=b.atR {tmps:=args++Array.replicate (fn.ntmps-args.size) undef,defers:=[]} [.code c]:=by
  simp[Frame.enter,Frame.atR,hf,hb,b]
 have aa:({G with mode:=FrameMode.returning}:Frame)=G:=by rw[<-hu]
 obtain⟨e,a,w1,⟨he,K⟩,k⟩:=h b [] (G::cs) rfl trivial hr;rw[<-ab] at k;have H:∀(fr:Frame),fr.mode= .returning->fr.defers=a.defers->fr.kind= .deferred->fr.fn=f->fr.tmps=a.tmps->StepsIn (Machine.fenced P (fen none)) P (lone (Frame.enter P f args .deferred) (G::cs) w) (lone fr (G::cs) w1)->
   ∃e u' w' fr,(u'=FrameMode.returning/\∃v,e=Ending.returned v/\R v w')/\ComesIn (Machine.fenced P (fen none)) P (lone (Frame.enter P f args .deferred) (G::cs) w) (lone fr ({G with mode:=u'}::cs) w') e/\fr.kind= .deferred/\fr.fn=f/\fr.going P w' e:=by
  intro fr q1 q2 q3 q4 q5 hs;obtain⟨v,w',Z,a1,a2,a3,a4,a5⟩:=OutM.go (F:=fen none) (n:=0) a.defers w1 fr (G::cs) (by rw[q5];exact K) q1 q2 q3 (by rw[q4];exact hf) trivial hr
  exact⟨.returned v,.returning,w',Z,⟨rfl,v,rfl,a1⟩,by rw[aa];exact StepsIn.trans hs a2,a3,by rw[a4,q4],a5⟩
 rcases he with rfl | rfl
 ·exact H {b.atR a [] with mode:= .returning} rfl rfl rfl rfl rfl (StepsIn.trans k (.one (fenced_calm (fr:=b.atR a []) trivial hr rfl) (stepR_end rfl)))
 ·obtain⟨O,hs⟩:=k.1 rfl
  exact H {b.atR a O with mode:= .returning} rfl rfl rfl rfl rfl hs
end
def GD (P:Program) (f:FuncId) (args:List Cap) (T:List (Nat×Blk)) (keep:List Nat) (T':List (Nat×Blk)):Prop:=
 (∃fn,P.funcs[f]? =some fn/\(fn.name== "runtime.NumGoroutine")=false/\fn.body.isNone=false)/\
 ∀(w:World) (I:Im) (ρ:Nat->Value) (vs:List Value),(∀b j,I b j->b<w.heap.size)->GlI (vF P) w I->Frag w I ρ T->Pw (HoldsC w I ρ) vs args->
  CallsDIn (fen none) 0 P f vs.toArray .returning w λe u w'=>u= .returning/\∃v,e= .returned v/\z58 T keep (λ_ _ _ _=>True) T' w I ρ v w'
section
theorem yC9 (H:P.funcs[f]? =some fn) (G:(fn.name== "runtime.NumGoroutine")=false) (hb:fn.body=some c) (hn:args.length<=fn.ntmps) (hn2:fn.ntmps<=1000000)
  (h:∀w0 I0 hG Z,Avc P none (Env.gen (vF P) w0 I0 hG Z T keep fn.ntmps hn2) c (yR4 P fn rets T') ⟨zL0 args 0,T⟩):GD P f args T keep T':=
 ⟨⟨fn,H,G,by simp[hb]⟩,λw I ρ vs hI hG k K=>yGJ H hb (g7 (z59 (λw I ρ v=>yFR w I ρ v rets) (λS=>RetGS P S fn.results.toList rets) (λ_ _ _ _ _ _ _ hs hr=>RetGS.run hs hr) H hb hn hn2 h hI hG k K)
  λe a w' hq=>⟨hq.1,OutM.mono (R':=λv w'=>z58 T keep (λ_ _ _ _=>True) T' w I ρ v w') _ _ hq.2 λv w' ⟨I',O,h1,h2,h3,h4,h5,_,h7,h8⟩=>⟨I',O,h1,h2,h3,h4,h5,trivial,h7,h8⟩⟩)⟩
def Env.dfr (E:Env) (D:Deferred) (ids:List Nat) (val:Nat->Value):Env:=
 {E with dq:=[D],nm:=λid=>match E.nm id with | some v=>some v | none=>if ids.contains id then some (val id) else none}
def yAW (P:Program) (r:Option Nat) (E:Env) (c:Code) (Q:Exit->Act->World->Prop) (S:AState):Prop:=
 ∀a w,Sat E S a w->c.wpIn (fen r) 0 P Q a w
def QK (E:Env) (Q:Exit->Act->World->Prop):Exit->AState->Prop:=λe S=> ∀a w,Sat E S a w->Q e a w
def yWQ (P:Program) (r:Option Nat) (E:Env) (y:Code) (Q:Exit->Act->World->Prop):Exit->AState->Prop
 | .normal,S=>yAW P r E y Q S
 | e,S=>QK E Q e S
theorem zWA (h:Avc P r E c (QK E Q) S):yAW P r E c Q S:=λa w H=>g7 (h a w H) λ_ _ _ ⟨_,G,k⟩=>G _ _ k
theorem zG9 {x y:Code} (h:Avc P r E x (yWQ P r E y Q) S):yAW P r E (.seq x y) Q S:=λa w K=>
 wpIn_seq (g7 (h a w K) λe G w' ⟨S',H,k⟩=>by
  cases e with
  | normal=>exact H G w' k
  | _=>exact H G w' k)
def yTV (ρ:Nat->Value) (v:Value):Cap->Prop
 | .ptr id off=> ∃b,blockOf (ρ id)=some b/\v= .pointer (some ⟨b,off,none⟩)
 | .d (.v x)=>v=x
 | _=>False
def z3D:Cap->Bool
 | .ptr _ _=>true
 | .d (.v _)=>true
 | _=>false
theorem yDA {ρ:Nat->Value} {c:Cap} (k:z3D c=true) (h:HoldsC w I ρ v c):yTV ρ v c:=by
 cases c with
 | ptr id off=>exact h
 | d x=>
  cases x with
  | v u=>exact zOS h
  | _=>cases k
 | _=>cases k
def DIs (f:FuncId) (args:List Cap) (ρ:Nat->Value) (D:Deferred):Prop:=
 ∃vs cs:List Value,D= {target:= .fn (.func f) cs.toArray,args:=vs.toArray}/\Pw (yTV ρ) (vs++cs) args
theorem DIs.real {ρ:Nat->Value} (h:DIs f args ρ D):realD D=true:=by obtain⟨_,_,rfl,_⟩:=h;rfl
def CapsAre:List AV->List Cap->Prop
 | [],[]=>True
 | x::xs,c::cs=>CapOf x c/\CapsAre xs cs
 | _,_=>False
theorem CapsAre.holds {ρ:Nat->Value}:∀{vs:List Value} {xs:List AV} {cs:List Cap},CapsAre xs cs->cs.all z3D=true->Pw (Holds w I ρ) vs xs->Pw (yTV ρ) vs cs
 | vs,[],[],_,_,k=>⟨k.1,λj v c _ K=>by simp at K⟩
 | vs,[],_::_,h,_,_=>h.elim
 | vs,_::_,[],h,_,_=>h.elim
 | [],_::_,_::_,_,_,k=>by have:=k.1;simp at this
 | v::vs,x::xs,c::cs,h,G,k=>by
  simp only[iK,eC] at G;refine Pw.cons (yDA G.1 (h.1.holds (k.2 0 v x rfl rfl))) (CapsAre.holds h.2 G.2 ⟨by have:=k.1;simpa using this,λj a b H hb=>k.2 (j+1) a b (by simpa using H) (by simpa using hb)⟩)
def yDB (P:Program) (E:Env) (S:AState) (o:Oper) (f:FuncId) (args:List Cap):Prop:=
 o.dst=none/\o.guard=none/\∀A w I ρ C,SatAt E S A w I ρ C->∃D,DIs f args ρ D/\(execOp A.eval o).run P w= .ok (.defer D) w
theorem z3E (H:CapsAre (xs.map S.ev) args) (h:args.all z3D=true):yDB P E S ⟨none,.defer {callee:= .value (.func f),args:=xs.toArray,argTypes:=ats},ty,pos,af,none⟩ f args:=
 ⟨rfl,rfl,λA w I ρ C k=>⟨{target:= .fn (.func f) #[],args:=(xs.map A.eval).toArray},⟨xs.map A.eval,[],rfl,by rw[fm];exact H.holds h (v2 k xs)⟩,by
  have G:A.eval (.func f)= .func (.func f) #[] #[]:=rfl;simp[execOp,resolve,G,Deferred.ofValue]⟩⟩
theorem yPA {k:List Cap} (hx:S.ev x= .clo f k) (K:args.all z3D=true) (O:k=args):yDB P E S ⟨none,.defer {callee:= .value x,args:= #[],argTypes:=ats},ty,pos,af,none⟩ f args:=
 ⟨rfl,rfl,λA w I ρ C Z=>by
  subst O;have h:=Z.ev x;rw[hx] at h;obtain⟨cs,hv,G⟩:=h;refine⟨{target:= .fn (.func f) cs.toArray,args:= #[]},⟨[],cs,rfl,⟨G.1,λj v c H hb=>yDA (eO.1 K c (fH hb)) (G.2 j v c (by simpa using H) hb)⟩⟩,?_⟩;simp[execOp,resolve,hv,Deferred.ofValue]⟩
def pinned (E:Env) (D:Deferred) (ids:List Nat) (ρ:Nat->Value):Prop:= ∀id,ids.contains id=true->(E.dfr D ids ρ).nm id=some (ρ id)
theorem z1H (h:yDB P E S o f args) (ad:E.dq= []) (O:ids.all (λi=>zQO S (.row i))=true) {a:Act} {K:Act->World->Prop} (G:Sat E S a w)
  (hk:∀D ρ a' w',DIs f args ρ D->pinned E D ids ρ->Sat (E.dfr D ids ρ) S a' w'->K a' w'):o.wpIn (fen none) 0 P a w K Q:=by
 obtain⟨I,ρ,C,G⟩:=G;obtain⟨hd,hg,h⟩:=h;obtain⟨D,hD,ab⟩:=h a w I ρ C G;have k:=hD.real;refine⟨λf _=>trivial,?_⟩;have he:Oper.semAt (fen none).round a.eval o=execOp a.eval o:=Oper.semAt_none _ _;rw[he,ab];have aa:pinned E D ids ρ:=by
  intro id hi;show (match E.nm id with | some v=>some v | none=>if ids.contains id then some (ρ id) else none)=_;cases Z:E.nm id with
  | none=>simp only[hi,eK]
  | some v=>
   have hb:S.blk id≠ .none:=zJW (eO.1 O id (by simpa using hi)) id rfl;simp only[G.nm id v Z hb]
 show K (({a with defers:=D::a.defers}:Act).put o.dst undef) w;rw[hd];have h0:=G.defers;have ah:a.defers.filter realD= []:=h0.real.trans ad;refine hk D ρ _ w hD aa ⟨I,ρ,C,⟨G.tmps,G.blks,G.dist,G.frame,G.sub,G.old,G.size,⟨?_,?_,?_,?_⟩,G.cI,G.cB,?_⟩⟩
 ·intro d hd
  rcases eP.1 hd with rfl | hd
  ·exact .inr k
  ·exact h0.each d hd
 ·exact gB.2 ⟨λe _ q hq=>absurd hq (zWW k q),h0.dist⟩
 ·intro ag
  refine h0.wr ?_
  rwa [show (({a with defers:=D::a.defers}:Act).put none undef).defers=D::a.defers from rfl,gW (by simp[k])] at ag
 ·show (D::a.defers).filter realD= [D]
  rw[gP k,ah]
 ·intro id v hv hi
  have H:(match E.nm id with | some v=>some v | none=>if ids.contains id then some (ρ id) else none)=some v:=hv;cases Z:E.nm id with
  | none=>
   rw[Z] at H;simp only at H;split at H
   ·cases H;rfl
   ·cases H
  | some u=>
   rw[Z] at H;cases H;exact G.nm id _ Z hi
theorem Sq.wp2 {ops:Array Oper} {tail:List Oper}:∀(l:List Oper) {S:AState} {J:AState->Prop} (_:Sq P r E ops l S J) (a:Act) (w:World),Sat E S a w->(∀S' G w',J S'->Sat E S' G w'->wpListIn (fen r) 0 P ops Q tail G w')->wpListIn (fen r) 0 P ops Q (l++tail) a w
 | [],_,_,h,a,w,O,H=>H _ a w h O
 | _::l,_,_,⟨_,h,k⟩,a,w,O,H=>wpListIn_step λK hK=>h a w K Q O λG w' Z=>hK G w' (Sq.wp2 l k G w' Z H)
def DJ (P:Program) (E:Env) (o:Oper) (f:FuncId) (args:List Cap) (ids:List Nat) (y:Code) (Q:Exit->Act->World->Prop) (h:AState):Prop:=
 yDB P E h o f args/\ids.all (λi=>zQO h (.row i))=true/\∀D ρ,DIs f args ρ D->pinned E D ids ρ->yAW P none (E.dfr D ids ρ) y Q h
theorem zRG {id:Nat} {y:Code} (ids:List Nat) (N:Nat) (hl:l.drop N= [o]) (G:E.dq= [])
  (h:Sq P none E l.toArray (l.take N) S (DJ P E o f args ids y Q)):yAW P none E (.seq (.region id l.toArray false) y) Q S:=λa w hs=>by
 refine wpIn_seq (wpIn_region_lit ?_);have H:l=l.take N++ [o]:=by rw[<-hl];exact(fh N l).symm
 conv=>arg 6;rw[H]
 refine Sq.wp2 (l.take N) h a w hs λS1 a1 w1 hj Z=>?_;obtain⟨hd,k,hk⟩:=hj;refine wpListIn_step λK hK=>?_;simp only[Region.wanted,hd.2.1,eK];exact z1H hd G k Z λD ρ a' w' hD hp O=>hK a' w' (hk D ρ hD hp a' w' O)
theorem yKO {fuel:Nat} {listed:Array Bool} {a:Act} (k:listed.size=l.length) (h:∀i,i<l.length->listed.getD i false=true) (G:Q .normal a w):wpAnyIn (fen r) 0 P .any l.toArray Q fuel listed a w:=by
 cases fuel with
 | zero=>exact⟨zTX h k,G⟩
 | succ fuel=>
  refine⟨λ_=>G,λi hi=>?_⟩;rw[zTX h k] at hi;cases hi
theorem yKP {N:Nat} (ai:DrawOk l N) (ho:l.drop N= [o]) (hg:o.guard=none) {X:Act->World->Prop} (H:∀a w K Q',Sat E S a w->(∀G w',X G w'->K G w')->o.wpIn (fen r) 0 P a w K Q') (hX:∀G w',X G w'->Q .normal G w')
  (fuel:Nat) (listed:Array Bool) (a:Act) (w:World) (hd:Down l listed) (hu:unl listed<=fuel) (hL:∀i,i<l.length->(listed.getD i false=true↔i<N)) (hs:Sat E S a w):wpAnyIn (fen r) 0 P .any l.toArray Q fuel listed a w:=by
 have al:l.length=N+1:=by have:=congrArg List.length ho;simp only[fD,gL] at this;omega
 have aa:listed.getD N false=false:=by
  cases hb:listed.getD N false with
  | false=>rfl
  | true=>have:=(hL N (by omega)).1 hb;omega
 cases fuel with
 | zero=>
  have h0:listed.getD N false=true:=zXC (by omega) N (by rw[hd.size];omega)
  rw[aa] at h0;cases h0
 | succ fuel=>
  refine⟨λZ=>?_,λi hi=>?_⟩
  ·have:=zTW ai hd.size Z N (by omega)
   rw[aa] at this;cases this
  ·obtain⟨h1,h2,h3⟩:=zDP hi
   have O:i<listed.size:=by rw[hd.size];exact h1
   have ag:listed.getD i false=false:=by simpa[dZ,O] using h2
   have ad:i=N:=by
    rcases gH i N with h | h
    ·have:=(hL i h1).2 h;rw[ag] at this;cases this
    ·omega
   subst ad;have ah:l[i]? =some o:=by
    have:=congrArg (λq=>q[0]?) ho;simpa[fK] using this
   unfold wpOpIn;simp only[fJ,ah,Region.wanted,hg,eK];refine H a w _ Q hs λG w' hx=>?_;refine yKO (by simp[hd.size]) (λk hk=>?_) (hX G w' hx);rw[zLY O];by_cases e:i=k
   ·subst e;simp
   ·simp only[e,eE]
    exact(hL k hk).2 (by omega)
theorem z69 {id:Nat} {y:Code} (ids:List Nat) (N:Nat) (hm:P.follows .mixedOrders=true) (ab:zW9 l N=true) (hl:l.drop N= [o]) (Z:E.dq= [])
  (h:DA P none E l.toArray (l.take N) S (DJ P E o f args ids y Q)):yAW P none E (.seq (.region id l.toArray true) y) Q S:=λa w H=>by
 have hk:=zU3 ab;obtain⟨ps,h1,h2,h3⟩:=DA.list _ h;have ad:ps.length=N:=by rw[h1,fU];have:=hk.le;omega
 obtain⟨hd,G,hy⟩:=h2;refine wpIn_seq (wpIn_region_any hm (z0W hk S ps ad (λi o p hi ho hp=>h3 i o p (by rw[ft,eG hi];exact ho) hp)
  (λfuel listed a w O hu hL H=>yKP hk hl hd.2.1 (X:=λk w'=>y.wpIn (fen none) 0 P Q k w') (λa w K Q' H hK=>z1H hd Z G H λD ρ k w' hD hp ag=>hK k w' (hy D ρ hD hp k w' ag)) (λk w' hx=>hx) fuel listed a w O hu hL H)
  _ _ S a _ ⟨by simp,λi o _ hi=>?_⟩ ?_ (λi _ hi=>by simp[hi]) ⟨rfl,λi p _ hi=>?_,λt _=>rfl⟩ (zXA H)))
 ·simp[dZ,iV] at hi
  split at hi<;>simp at hi
 ·simp[unl]
 ·simp[dZ,iV] at hi
  split at hi<;>simp at hi
theorem zVB {tmps:Array Value} {R':Ending->World->Prop} {B:Nat} {Z:Bool}:∀(ds:List Deferred) (w:World),DefOk [D] B Z C w ds->
  (∀G k,Below B w G->Taken w G->DefOk [] B Z C G k->∃fv K f args,D.target= .fn fv K/\(invoke D.target D.args).run P G= .ok (.enter f args) G/\
   CallsDIn (fen none) 0 P f args .returning G λe u' w'=>u'= .returning/\∃v,e= .returned v/\LeavesInM (fen none) 0 P fn tmps R' k .returning w')->
  LeavesInM (fen none) 0 P fn tmps R' ds .returning w
 | [],w,H,_=>by have:=H.real;cases this
 | d::ds,w,H,h=>by
  by_cases hr:realD d=true
  ·have h0:d::ds.filter realD= [D]:=by have:=H.real;rwa [gP hr] at this
   obtain⟨rfl,aa⟩:=List.cons.inj h0;have O:DefOk [] B Z C w ds:=⟨λe he=>H.each e (by simp[he]),(gB.1 H.dist).2,λah=>H.wr (by rw[gW (by simp[hr])];exact ah),aa⟩
   obtain⟨fv,K,f,args,h1,h2,h3⟩:=h w ds (Below.refl _ _) ⟨λ_=> .inl rfl,rfl⟩ O;refine⟨by simp,.inr ⟨by simp[fen,Fence.wide],fv,K,f,args,h1,h2,λ_ _=>trivial,h3.mono λe u' w' hq=>?_⟩⟩;obtain⟨rfl,v,rfl,hq⟩:=hq;exact hq
  ·rcases H.each d (by simp) with ⟨r,h1,h2,_,h3⟩ | hr'
   ·obtain⟨G,e1,e2,e3⟩:=z0P (P:=P) H h1 h2 h3
    exact⟨by simp,.inl ⟨r,G,h1,e1,zVB ds G e2 λw2 k hb hk O=>h w2 k (e3 w2 hb hk).1 (e3 w2 hb hk).2 O⟩⟩
   ·exact absurd hr' hr
def yWR (P:Program) (fn:Func) (T:List (Nat×Blk)) (keep:List Nat) (rets:List Cap) (T':List (Nat×Blk)) (w:World) (I:Im) (ρ:Nat->Value):Exit->Act->World->Prop:=
 bodyPostM (fen none) 0 P fn λe w'=> ∃v k h,e= .returned v/\Chg w w' (jS T ρ)/\Same I w w'/\(∀b j,I b j->k b j)/\
   (∀b j,k b j->b<w'.heap.size/\(I b j\/w.heap.size<=b\/jS T ρ b))/\Frag w' k h T'/\yFR w' k h v rets/\
   (∀b,jS T' h b->b<w'.heap.size/\(w.heap.size<=b\/jS T ρ b))/\(∀id,keep.contains id=true->look Blk.none T' id≠ .none->h id= ρ id)
theorem z3F (Z:P.funcs[f]? =some fn) (G:(fn.name== "runtime.NumGoroutine")=false) (hb:fn.body=some c) (hn:args.length<=fn.ntmps) (hn2:fn.ntmps<=1000000)
  (h:∀w0 O hG H,yAW P none (Env.gen (vF P) w0 O hG H T keep fn.ntmps hn2) c (yWR P fn T keep rets T' w0 O H) ⟨zL0 args 0,T⟩):GC P f args T keep rets T':=by
 refine⟨⟨fn,Z,G,by simp[hb]⟩,λw I ρ vs hI hG k K=>?_⟩;refine g8 (n:=0) |>.1 (callsIn_of_wp_marks Z hb trivial ?_)
 exact h w I hG ρ _ w (yC0 hn hn2 hI hG k K)
def nmD (σ:List (Nat×Nat)) (keep ids h:List Nat) (G k:List (Nat×Blk)):Bool:=σ.all λp=>(!keep.contains p.2&& !ids.contains p.2) ||(h.contains p.1&&(look Blk.none G p.1).isSome&&(look Blk.none k p.1).isSome)
def ySB (ids:List Nat):Cap->Bool
 | .ptr id _=>ids.contains id
 | _=>true
theorem zPZ {b:Blk} (h:b.isSome=true):b≠ .none:=by rintro rfl;cases h
theorem zWB {w0:World} {I0:Im} {hG:GlI (vF P) w0 I0} {aa:Nat->Value} {hn2:n<=1000000} {ab:Nat->Value} {Z O:List Cap} {T1 K:List (Nat×Blk)} {H:List Nat}
  (σ:List (Nat×Nat)) (hc:GD P f O T1 H K) (hD:DIs f Z ab D) (bb:pinned (Env.gen (vF P) w0 I0 hG aa T keep n hn2) D ids ab) (bw:(σ.map Prod.fst).Nodup/\(σ.map Prod.snd).Nodup) (ai:Z=O.map (Cap.ren σ)) (ce:O.all (Cap.idsLt σ)=true)
  (bc:Z.all (ySB ids)=true) (az:ids.all (λi=>zQO S (.row i))=true) (hT:BlksAs S σ T1) (aw:uS σ T1=true) (ax:uS σ K=true) (bp:zOT S σ T1=true) (bu:nmD σ keep ids H T1 K=true)
  (h:RetGS P ((S.killL (zI4 σ H K)).setL (renL σ K++zL1 σ T1 K)) fn.results.toList rets/\zQ8 ((S.killL (zI4 σ H K)).setL (renL σ K++zL1 σ T1 K)) T'):
  QK ((Env.gen (vF P) w0 I0 hG aa T keep n hn2).dfr D ids ab) (yWR P fn T keep rets T' w0 I0 aa) .ret S:=by
 rintro a w ⟨I,ρ,C,hs⟩
 obtain⟨⟨au,hf,ap,am⟩,an⟩:=hc;refine zVB a.defers w hs.defers λw1 bi hb hk bv=>?_
 let E2:Env:={Env.gen (vF P) w0 I0 hG aa T keep n hn2 with nm:=((Env.gen (vF P) w0 I0 hG aa T keep n hn2).dfr D ids ab).nm}
 have G:=hs.frame;have ay:E2.fr S.ghost C w1:=⟨⟨⟨hb.os.trans G.1.1.os,hb.tape.trans G.1.1.tape,hb.output.trans G.1.1.output,fA G.1.1.size hb.size,λk hk bt=>(hb.block k hk).trans (G.1.1.block k hk bt)⟩,λb j hi=>(hk.same (I:=I0) b j hi).trans (G.1.2 b j hi)⟩,G.2⟩;have ac:SatAt E2 S {a with defers:=bi} w1 I ρ C:=hs.takenX (E':=E2) hk ay rfl rfl rfl rfl bv;have aj:=zRB bw;have ao:=zU4 aj hT aw ac;obtain⟨vs,cs,rfl,bf⟩:=hD;have al:Pw (HoldsC w1 I (λk=>ρ (look 0 σ k))) (vs++cs) O:=by
  refine⟨by rw[bf.1,ai,fO],λj v c hv bn=>?_⟩;have hd:Z[j]? =some (c.ren σ):=by rw[ai,e7,bn];rfl
  have ad:=bf.2 j v _ hv hd;have bq:ySB ids (c.ren σ)=true:=eO.1 bc _ (fH hd);cases c with
  | ptr k off=>
   obtain⟨b,bl,bm⟩:=ad;have hi:ids.contains (look 0 σ k)=true:=bq;have:=ac.nm (look 0 σ k) _ (bb _ hi) (zJW (eO.1 az _ (by simpa using hi)) _ rfl);exact⟨b,by show blockOf (ρ (look 0 σ k))=some b;rw[this];exact bl,bm⟩
  | d x=>
   cases x with
   | v u=>cases ad;exact .v _
   | _=>exact ad.elim
  | _=>exact ad.elim
 have bo:=an w1 I (λk=>ρ (look 0 σ k)) (vs++cs) (λb j hi=>(ac.old b j hi).1) ac.gl ao al;refine⟨.func f,cs.toArray,f,(vs++cs).toArray,rfl,?_,bo.mono λe u' w2 hq=>?_⟩
 ·have br:¬au.name= "runtime.NumGoroutine" :=by simpa using ap
  have hn2:¬au.body=none:=by intro e;simp[e] at am
  simp[invoke,callFunc,hf,br,hn2]
 ·obtain⟨rfl,v,rfl,I',cn,q1,q2,q3,q4,q5,_,q7,q8⟩:=hq
  have ba:∀k,xR σ k=true->E2.nm (look 0 σ k)=none\/(H.contains k=true/\look Blk.none T1 k≠ .none/\look Blk.none K k≠ .none):=by
   intro k hk;have:=eO.1 bu _ (zED hk);simp only[gQ,eC,fG] at this;rcases this with ⟨h1,h2⟩ | ⟨⟨h1,h2⟩,h3⟩
   ·refine .inl ?_
    show (match (if keep.contains (look 0 σ k) then some (aa (look 0 σ k)) else none) with | some v=>some v | none=>if ids.contains (look 0 σ k) then some (ab (look 0 σ k)) else none)=none;simp only[h1,h2];rfl
   ·exact .inr ⟨h1,zPZ h2,zPZ h3⟩
  obtain⟨cm,bg,_⟩:=zXG aj hT aw ax (zJ4 bp) ba rfl ac q1 q2 q3 q4 q5 q7 q8;refine⟨rfl,v,rfl,OutM.leaves (λv w' ⟨I',bx,hp⟩=>⟨v,I',bx,rfl,hp⟩) _ _ (yCZ (λw I ρ v=>yFR w I ρ v rets) (λS=>RetGS P S fn.results.toList rets) (λ_ _ _ _ _ _ _ hs hr=>RetGS.run hs hr) (hG:=hG) (hn2:=hn2) (nm':=E2.nm) (λid hk=>?_) bg h)⟩;show (match (if keep.contains id then some (aa id) else none) with | some v=>some v | none=>if ids.contains id then some (ab id) else none)=some (aa id);simp only[hk,eK]
theorem z3G {G:Nat->Option (List Value)} {w0:World} {I0:Im} {Z:GlI G w0 I0} {K:Nat->Value} {T0:List (Nat×Blk)} {h:List Nat} {n0:Nat} {ab:n0<=1000000} {O:Nat->Value} (σ:List (Nat×Nat)) (hc:GC P f args T keep rets T') (hn:d<n0) (an:(σ.map Prod.fst).Nodup/\(σ.map Prod.snd).Nodup)
  (H:ArgsAs σ (xs.map S.ev) args) (aj:args.all (Cap.idsLt σ)=true) (am:rets.all (Cap.idsLt σ)=true) (hT:BlksAs S σ T) (ai:uS σ T=true) (aa:uS σ T'=true)
  (ak:zOT S σ T=true) (al:nmD σ h ids keep T T'=true) (hG:G=vF P:=by rfl):
  jI P r ((Env.gen G w0 I0 Z K T0 h n0 ab).dfr D ids O) ⟨some d,.call {callee:= .value (.func f),args:=xs.toArray,argTypes:=ats},ty,pos,af,g⟩ S
   (((S.killL (zI4 σ keep T')).setL (renL σ T'++zL1 σ T T')).put d ((zOO rets).ren σ)):=
 z2P (E:=(Env.gen G w0 I0 Z K T0 h n0 ab).dfr D ids O) σ hn (zRB an) H aj am hT ai aa (zJ4 ak) (λk hk=>by
  have:=eO.1 al _ (zED hk);simp only[gQ,eC,fG] at this;rcases this with ⟨h1,h2⟩ | ⟨⟨h1,h2⟩,h3⟩
  ·refine .inl ?_
   show (match (if h.contains (look 0 σ k) then some (K (look 0 σ k)) else none) with | some v=>some v | none=>if ids.contains (look 0 σ k) then some (O (look 0 σ k)) else none)=none;simp only[h1,h2];rfl
  ·exact .inr ⟨h1,zPZ h2,zPZ h3⟩) hc rfl hG
theorem yPB {k:TypeId} {id:Nat} (Z:d<E.n) (hx:S.ev x= .ptr id off) (H:E.nm d=none):
  jI P r E ⟨some d,.box k x,ty,pos,af,g⟩ S (((S.kill d).setBlk d (.box k [zFQ d (.ptr id off)])).put d (.ptr d 0)):=
 vR (by simp) λA w I ρ C K=>by
  have h:=K.ev x;rw[hx] at h;have G:(A.eval x).oneCell'=true:=by obtain⟨b,_,O⟩:=h;rw[O];rfl
  have hb:=K.newBox (id:=d) (e:=k) (arr:= #[A.eval x]) (cells:=[.ptr id off]) (Pw.cons h Pw.nil) (by simpa using G) H;refine⟨.pointer (some ⟨w.heap.size,0,none⟩),w.alloc (.cells #[A.eval x] k),?_,I,_,C,hb.put Z (show Holds _ _ _ (.pointer (some ⟨w.heap.size,0,none⟩)) (AV.ptr d 0) from ⟨w.heap.size,by simp[upd,blockOf],rfl⟩)⟩;simp only[execOp,Instr.box,newVar,zHY G];simp[newRow]
end
def sB (s:Str):List DV:=s.map λb=> .v (.int .u8 b.toNat)
theorem yTW (a b:Str):sB (a++b)=sB a++sB b:=by simp[sB]
theorem zXS (a:Str):(sB a).length=a.length:=by simp[sB]
theorem z7A (w:World) {B t ty:Nat} (hT:SlTy P t e 1 1 (.int .u8 0)) (hu:P.underlying u=some .string) {xs:List Value} (O:w.ownsRow B e 1 v n xs) (s:ByteArray)
  (al:n+s.size<=maxLen) (ao:n+s.size<=140737488355328) (hB:B<=w.heap.size):
  ∃v' w',(Builtin.append_ #[t,u] ty #[v,.string s]).run P w= .ok v' w'/\w'.ownsRow B e 1 v' (n+s.size) (xs++Lib.strCells s)/\
   ((w.grownBy w' v.ownBlock/\v'.ownBlock=v.ownBlock/\∀gb,v.ownBlock=some gb->∀j,j<n*1->w'.cell? ⟨gb,j,none⟩=w.cell? ⟨gb,j,none⟩)\/(w.grownBy w' none/\v'.ownBlock=some w.heap.size)):=by
 obtain⟨i,hi,hz,ah,an⟩:=hT.info;have ht:=hT.und;have aq:n+s.size<=9223372036854775807:=by simp only[maxLen] at al;omega
 have ac:xs.length=n:=by simpa using O.1
 have K:(xs++Lib.strCells s).length=(n+s.size)*1:=by rw[d8,ac,Lib.strCells_length,iR]
 have ai:=Lib.strCells_length s;have G:∀(H:Nat),
   (w.drew.alloc (.cells (xs.toArray++(Lib.strCells s).toArray++Builtin.zeroCells (Value.int .u8 0).cells (grownCap w (n+s.size) H e-(n+s.size))) e)).ownsRow B e 1
    (.slice (some ⟨w.heap.size,0,none⟩) (n+s.size) (grownCap w (n+s.size) H e)) (n+s.size) (xs++Lib.strCells s)/\
   w.grownBy (w.drew.alloc (.cells (xs.toArray++(Lib.strCells s).toArray++Builtin.zeroCells (Value.int .u8 0).cells (grownCap w (n+s.size) H e-(n+s.size))) e)) none:=by
  intro H;have ba:=grownCap_ge w (n+s.size) H e;have ad:grownCap w (n+s.size) H e<=maxLen:=grownCap_le_maxLen w (n+s.size) H e al;refine⟨⟨K,.inr ⟨w.heap.size,_,_,rfl,hB,hF w.drew _,ba,ad,?_,?_⟩⟩,⟨rfl,rfl,rfl,by simp,λk hk _=>_root_.Go.heap_alloc_old w.drew _ hk⟩⟩
  ·simp only[Array.size_append,gO,size_zeroCells,ac,ai]
   simp[Value.cells];omega
  ·simp only[Array.toList_append,dW]
   rw[<-dW,<-K];exact iB
 rcases O.2 with ⟨rfl,rfl⟩ | ⟨gb,h,Z,rfl,ax,hg,bl,ad,ay,aj⟩
 ·obtain rfl:xs= []:=dQ ac
  by_cases hm:s.size=0
  ·have hn:Lib.strCells s= []:=dQ (ai.trans hm)
   have hf:=Lib.run_firstCells_string (P:=P) w 1 s;rw[hm] at hf;exact⟨_,w,by simp[Builtin.append_,eM ht,eM hu,sizeOf,typeInfo,hi,ah,Builtin.lenOf,hm,hf],by rw[hm,hn];exact O,.inl ⟨iF w _,rfl,λ_ _ _ _=>rfl⟩⟩
  ·have hr:=run_append_nil_string (P:=P) w t u ty e i (.int .u8 0) ht hu hi hz s (by omega) (by omega) (by rw[an];omega)
   have e1:(s.data.map λb=>Value.int .u8 b.toNat)=(Lib.strCells s).toArray:=by
    apply Array.ext';simp[Lib.strCells]
   rw[e1] at hr;have ag:=G 0;simp only[fM,eN,Array.empty_append] at ag ⊢;exact⟨_,_,hr,ag.1,.inr ⟨ag.2,rfl⟩⟩
 ·have bf:Z.size=h:=by simpa using ay
  by_cases ab:n+s.size<=h
  ·have hr:=Lib.run_append_room_string (P:=P) w t u ty e i ht hu hi ah gb n h Z hg s ab (by omega)
   refine⟨_,_,hr,⟨K,.inr ⟨gb,h,_,rfl,ax,iQ w gb Z _ e _ hg,ab,ad,?_,?_⟩⟩,.inl ⟨⟨rfl,rfl,rfl,by simp,λk _ hk=>setRow_other w gb k _ (λe=>hk (by simp[Value.ownBlock,e]))⟩,rfl,?_⟩⟩
   ·simp only[gO,d8,fU,fD,fB,ai]
    omega
   ·have bc:Z.toList.take n=xs:=by simpa using aj
    rw[bc,<-K];exact iB
   ·intro g' am j hj
    simp[Value.ownBlock] at am;subst am;refine zOH hg _ ?_;have:j<Z.size:=by omega
    simp only[fJ,dW];rw[eZ (by simp;omega),ft,eG (by omega)]
    simp
  ·have holds:∀j u,xs[j]? =some u->w.cell? ((⟨gb,0,none⟩:Addr).add j)=some u:=O.cells (g:=gb) rfl
   have hr:=Lib.run_append_grow_string (P:=P) w t u ty e i (.int .u8 0) ht hu hi hz ⟨gb,0,none⟩ n h xs (by rw[ah];simpa using ac) holds s (by omega) (by omega) (by rw[an];exact growslice_fits (by omega) (by omega))
   exact⟨_,_,hr,(G h).1,.inr ⟨(G h).2,rfl⟩⟩
section
theorem yPC (w:World) (I:Im) (s:Str):Reps w I (Lib.strCells ⟨s.toArray⟩) (sB s):=by
 have e:sB s=(Lib.strCells ⟨s.toArray⟩).map DV.v:=by simp[sB,Lib.strCells]
 rw[e];exact zOJ w I _
theorem z1I {t id:Nat} {s:Operand} {a b c:Str} (hn:d<E.n) (hT:SlTy P t e 1 1 (.int .u8 0)) (hu:P.underlying u=some .string) (hs:S.ev s= .row id) (hb:S.blk id= .row e 1 sh (sB a)) (hx:S.ev x= .d (ds b)) (ha:app a b=some c) (hE:E.wrB=true) (ac:E.nm id=none):
  jI P r E ⟨some d,.call {callee:= .builtin .append,args:= #[s,x],argTypes:= #[t,u]},ty,pos,af,g⟩ S (((S.kill id).setBlk id (.row e 1 sh (sB c))).put d (.row id)):=
 vR (by simp) λA w I ρ C h=>by
  obtain⟨rfl,hl⟩:=zEV ha;have ag:A.eval s= ρ id:=by have:=h.ev s;rw[hs] at this;exact this
  have hv:A.eval x= .string ⟨b.toArray⟩:=h.val hx;have hk:=h.blks id;rw[hb] at hk;obtain⟨hp,n,xs,O,G,h1,ad,aa⟩:=hk;have ab:n=a.length:=by rw[zXS] at O;omega
  have hz:(⟨b.toArray⟩:ByteArray).size=b.length:=by simp[ByteArray.size]
  have k:n+(⟨b.toArray⟩:ByteArray).size<=LIM:=by rw[hz,ab];simpa using hl
  have Z:n+(⟨b.toArray⟩:ByteArray).size<=maxLen:=by unfold LIM at k;unfold maxLen;omega
  obtain⟨v',w',hr,K,H⟩:=z7A (ty:=ty) w hT hu G ⟨b.toArray⟩ Z (by unfold LIM at k;omega) (g5 _)
  refine⟨v',w',?_,?_⟩
  ·simp only[execOp,resolve,invoke,builtin,dP,eQ,dR,fq,fp,gE,ag,hv,hr]
  ·rw[yTW]
   exact zU2 hn h hb hE ac hp O (by rw[zXS,hz,iR]) G h1 ad aa K H (yPC w I b) (Lib.strCells_oneCell _)
theorem z1J {ρ:Nat->Value} {M:Nat->Prop} {id:Nat} (h:BlkOk w I ρ M id (.box e cells)):∃b,blockOf (ρ id)=some b/\w.shape? b=some (e,cells.length):=by obtain⟨b,arr,G,_,H,_,k,_⟩:=h;exact⟨b,by rw[G];rfl,by simp[World.shape?,H,<-k.1]⟩
theorem yPD {O H t id k:Nat} (hn:d<E.n) (hs:P.underlying O=some (.pointer t)) (hd:P.underlying H=some .unsafePointer) (ab:(P.info? t).map (·.size)=some k) (hk:k≠0) (hx:S.ev x= .ptr id off) (hb:S.blk id= .box e cells) (ho:off<cells.length):
    AOp P r E S ⟨some d,.convert O H x,ty,pos,af,g⟩ d (.ptr id off):=
  ⟨rfl,hn,λS' ha=>zV rfl hn (by simp) λA w I ρ C G=>by
    have h:=G.ev x;rw[(ha.ev (by simp[Op.operands])).trans hx] at h;have K:=G.blks id;rw[(ha.blk id).trans hb] at K;obtain⟨b,h1,h2⟩:=h;obtain⟨Z,h3,aa⟩:=z1J K;obtain rfl:Z=b:=by rw[h1] at h3;cases h3;rfl
    obtain⟨j,ht,hj⟩:=g6.1 ab;refine⟨.pointer (some ⟨Z,off,none⟩),?_,Z,h1,rfl⟩;simp only[execOp,h2,dP,Lib.run_to_unsafe w ⟨Z,off,none⟩ hs hd ht (by rw[hj];exact hk) aa ho,dR,eQ]⟩
theorem yGK {K G id:Nat} (hn:d<E.n) (hs:P.underlying K=some .unsafePointer) (hd:P.underlying G=some (.pointer u)) (aa:(P.info? u).isSome=true) (hx:S.ev x= .ptr id 0) (hb:S.blk id= .box e cells) (hl:liesAt P P.depth e (cells.length/P.cellsOf e) 0 u 1=true):
  AOp P r E S ⟨some d,.convert K G x,ty,pos,af,g⟩ d (.ptr id 0):=
 ⟨rfl,hn,λS' ha=>zV rfl hn (by simp) λA w I ρ C k=>by
  have h:=k.ev x;rw[(ha.ev (by simp[Op.operands])).trans hx] at h;have H:=k.blks id;rw[(ha.blk id).trans hb] at H;obtain⟨b,h1,h2⟩:=h;obtain⟨O,h3,Z⟩:=z1J H;obtain rfl:O=b:=by rw[h1] at h3;cases h3;rfl
  obtain⟨j,hu⟩:=iw.1 aa;refine⟨.pointer (some ⟨O,0,none⟩),?_,O,h1,rfl⟩;simp only[execOp,h2,dP,Lib.run_from_unsafe w ⟨O,0,none⟩ hs hd hu Z hl,dR,eQ]⟩
theorem yPE {id:Nat} (K:d<E.n) (hf:P.funcs[f]? =some fn) (k:(fn.name== "runtime.NumGoroutine")=false) (hb:fn.body.isNone=true) (H:Extern.findNext fn=none) (he:Extern.find fn=some Extern.AbiNoEscape.same) (hx:S.ev x= .ptr id off):
  AOp P r E S ⟨some d,.call {callee:= .value (.func f),args:= #[x],argTypes:=ats},ty,pos,af,g⟩ d (.ptr id off):=
 ⟨rfl,K,λS' ha=>zV rfl K (by simp) λA w I ρ C G=>by
  have h:=G.ev x;rw[(ha.ev (by simp[Op.operands,Call.operands])).trans hx] at h;obtain⟨b,O,Z⟩:=h;refine⟨.pointer (some ⟨b,off,none⟩),?_,b,O,rfl⟩;have hv:A.eval (.func f)= .func (.func f) #[] #[]:=rfl;simp only[execOp,resolve,hv,Deferred.ofValue,dP,eQ,dR,invoke,fq,fp,gE,Z];have q:=run_callFunc_extern hf k hb H he #[.pointer (some ⟨b,off,none⟩)] w;rw[Lib.run_noEscape] at q;simpa[Result.andThen] using q⟩
theorem yPF {e:TypeId} {id:Nat} (Z:d<E.n) (hu:P.underlying t=some (.pointer e)) (H:(P.info? e).isSome=true) (hx:S.ev x= .ptr id off) (hy:S.ev y= .ptr id off):
  AOp P r E S ⟨some d,.binOp .neq t x y tz,ty,pos,af,g⟩ d (.d (.v (.bool false))):=
 ⟨rfl,Z,λS' O=>yD rfl Z (by simp) λA w I ρ C hs=>by
  have h:=hs.ev x;rw[(O.ev (x:=x) (by simp[Op.operands])).trans hx] at h;have k:=hs.ev y;rw[(O.ev (x:=y) (by simp[Op.operands])).trans hy] at k;obtain⟨b,h1,h2⟩:=h;obtain⟨G,K,h4⟩:=k;obtain rfl:G=b:=by rw[h1] at K;cases K;rfl
  obtain⟨j,hi⟩:=iw.1 H;have hq:=Lib.run_neq_ptr_same (P:=P) w ⟨G,off,none⟩ hu hi;have hg:eqGuard .neq t x y (.pointer (some ⟨G,off,none⟩)) (.pointer (some ⟨G,off,none⟩))=pure ():=rfl;simp only[execOp,h2,h4,hg,dP,eQ,dR,hq]⟩
theorem z1K {ρ:Nat->Value} {M:Nat->Prop} {id:Nat} {l:Str} (h:BlkOk w I ρ M id (.row e 1 sh (sB l))) (h0:l≠[]):
  ∃g k G,ρ id= .slice (some ⟨g,0,none⟩) l.length k/\w.heap[g]? =some (.cells G e (0,0))/\l.length<=k/\k<=maxLen/\G.size=k/\∀j x,l[j]? =some x->w.cell? ((⟨g,0,none⟩:Addr).add j)=some (.int .u8 x.toNat):=by
 obtain⟨hp,n,xs,hl,H,h1,Z,hI⟩:=h;have hn:n=l.length:=by rw[zXS] at hl;omega
 subst hn;have O:l.length≠0:=by simpa using h0
 have K:∀g,(ρ id).ownBlock=some g->∀j x,l[j]? =some x->w.cell? ((⟨g,0,none⟩:Addr).add j)=some (.int .u8 x.toNat):=by
  intro g hg j x hx;have ai:(sB l)[j]? =some (.v (.int .u8 x.toNat)):=by simp[sB,hx]
  have ag:j<xs.length:=by rw[Z.1,zXS];exact(dV.1 hx).1
  have aa:=dT ag;have:=Z.2 j _ _ aa ai;rw[<-zOS this];exact H.cells (g:=g) hg j _ aa
 rcases H.2 with ⟨_,hz⟩ | ⟨g,k,G,hv,hb,hg,ah,ab,ac,ht⟩
 ·exact absurd hz O
 ·exact⟨g,k,G,hv,hg,ah,ab,by simpa using ac,K g (by rw[hv];rfl)⟩
theorem z7B {id:Nat} {l:Str} (hn:d<E.n) (hx:S.ev x= .row id) (hb:S.blk id= .row e 1 sh (sB l)) (O:l≠[]):
  AOp P r E S ⟨some d,.call {callee:= .builtin .unsafeSliceData,args:= #[x],argTypes:=ats},ty,pos,af,g⟩ d (.ptr id 0):=
 ⟨rfl,hn,λS' Z=>zV rfl hn (by simp) λA w I ρ C k=>by
  have h:=k.ev x;rw[(Z.ev (by simp[Op.operands,Call.operands])).trans hx] at h;have H:=k.blks id;rw[(Z.blk id).trans hb] at H;obtain⟨g,G,ad,hv,_,ag,_⟩:=z1K H O;have K:A.eval x= .slice (some ⟨g,0,none⟩) l.length G:=Eq.trans h hv;have ab:l.length≠0:=by simpa using O
  refine⟨.pointer (some ⟨g,0,none⟩),?_,g,by rw[hv];rfl,rfl⟩
  simp only[execOp,resolve,invoke,builtin,dP,eQ,dR,fq,fp,gE,K,Lib.run_unsafeSliceData_row w _ _ _ _ _ (show G≠0 by omega)]⟩
theorem z3H (h:d<E.n) (K:S.ev x= .d (.v (.slice none 0 0))):
  AOp P r E S ⟨some d,.call {callee:= .builtin .unsafeSliceData,args:= #[x],argTypes:=ats},ty,pos,af,g⟩ d (.d (.v (.pointer none))):=
 ⟨rfl,h,λS' k=>yD rfl h (by simp) λA w I ρ C G=>by
  have H:=G.val ((k.ev (x:=x) (by simp[Op.operands,Call.operands])).trans K);simp only[execOp,resolve,invoke,builtin,dP,eQ,dR,fq,fp,gE,H,Lib.run_unsafeSliceData_nil w]⟩
theorem z3I {u:TypeId} (G:d<E.n) (O:S.ev x= .d (.v (.pointer none))) (Z:S.ev y= .d (.v (.int .i64 0))):
  AOp P r E S ⟨some d,.call {callee:= .builtin .unsafeString,args:= #[x,y],argTypes:= #[t,u]},ty,pos,af,g⟩ d (.d (ds [])):=
 ⟨rfl,G,λS' k=>yD rfl G (by simp) λA w I ρ C H=>by
  have K:=H.val ((k.ev (x:=x) (by simp[Op.operands,Call.operands])).trans O);have h:=H.val ((k.ev (x:=y) (by simp[Op.operands,Call.operands])).trans Z);simp only[execOp,resolve,invoke,builtin,dP,eQ,dR,fq,fp,gE,K,h,Lib.run_unsafeString_none w];rfl⟩
theorem z7C {id:Nat} {l:Str} {u:TypeId} (hn:d<E.n) (ht:P.underlying t=some (.pointer e)) (am:P.cellsOf e=1) (hx:S.ev x= .ptr id 0) (hy:S.ev y= .d (.v (.int .i64 (l.length:Int)))) (hb:S.blk id= .row e 1 false (sB l)) (h0:l≠[]) (hE:E.wrB=true) (ao:E.nm id=none):
  jI P r E ⟨some d,.call {callee:= .builtin .unsafeString,args:= #[x,y],argTypes:= #[t,u]},ty,pos,af,g⟩ S (((S.kill id).setBlk id .none).put d (.d (ds l))):=
 vR (by simp) λA w I ρ C G=>by
  have h:=G.ev x;rw[hx] at h;have K:=G.blks id;rw[hb] at K;have aa:=K;obtain⟨_,_,_,_,_,_,_,ak⟩:=aa;obtain⟨g',au,ah,hv,hg,be,an,ba,O⟩:=z1K K h0;obtain⟨b,h1,h2⟩:=h;have al:b=g':=by rw[hv] at h1;cases h1;rfl
  subst al;have ap:=G.val hy;have ad:=Lib.run_unsafeString_row (P:=P) w t u ty e ht am b ah.size (by simp[World.shape?,hg]) l h0 (by omega) (by unfold maxLen at an;omega) O
  refine⟨.string ⟨l.toArray⟩,w.freeze ⟨b,0,none⟩ l.length,?_,?_⟩
  ·simp only[execOp,resolve,invoke,builtin,dP,eQ,dR,fq,fp,gE,h2,ap,ad]
  ·have ac:l.length≠0:=by simpa using h0
   have ab:w.grownBy (w.freeze ⟨b,0,none⟩ l.length) (some b):=by
    unfold World.freeze;rw[dU ac];exact⟨rfl,rfl,rfl,by simp,λk hk H=>by
     simp only[Array.getElem?_modify];rw[dU (λe=>H (by rw[e]))]⟩
   have Z:Same I w (w.freeze ⟨b,0,none⟩ l.length):=by
    intro b' j hi;by_cases e:b'=b
    ·subst e
     have:=(ak b' j (by rw[hv];rfl) hi).1
     cases this
    ·exact KeepB.of (ab.block b' (G.old b' j hi).1 (λe2=>e (by cases e2;rfl)))
   have H:S.blk id≠ .none:=by rw[hb];simp
   exact⟨I,_,C,(G.update ab (id:=id) (u:=ρ id) (x:= .none) (λk hk=>⟨H,by cases hk;exact h1⟩) Z (λb hb=> .inr ⟨H,hb⟩) trivial (.inr hE) ao).put hn (show Rep _ _ _ _ from .v _)⟩
theorem yTX {e:TypeId} (h:d<E.n) (Z:P.underlying t=some (.pointer e)) (hx:S.ev x= .d (.v (.pointer none))):
  AOp P r E S ⟨some d,.binOp .eql t x (.const (.pointer none)) tz,ty,pos,af,g⟩ d (.d (.v (.bool true))):=
 ⟨rfl,h,λS' k=>yD rfl h (by simp) λA w I ρ C O=>by
  have hv:=O.val ((k.ev (x:=x) (by simp[Op.operands])).trans hx);have G:A.eval (.const (.pointer none))= .pointer none:=rfl;have hb:binOp .eql t (.pointer none) (.pointer none)=(do pure (.bool (<-Op.equal t (.pointer none) (.pointer none)))):=rfl;have K:eqGuard .eql t x (.const (.pointer none)) (.pointer none) (.pointer none)=pure ():=rfl;have H:(Op.equal t (.pointer none) (.pointer none)).run P w= .ok true w:=by
   show (Op.equalIn (9999+1) t _ _).run P w=_;rw[Op.equalIn];simp only[dP,eM Z,dR];rfl
  simp only[execOp,hv,G,hb,K,dP,eQ,dR,H]⟩
end
section
variable {listed:List Bool} {J:AState->Prop} {fuel:Nat}
theorem zGL {i id:Nat} (hi:l[i]? =some ⟨some d,.nilCheck x,ty,pos,af,none⟩) (hn:d<E.n) (hx:S.ev x= .ptr id off) (hr:r=none) (k:zNM l=true)
  (G:z24 l listed i ⟨some d,.nilCheck x,ty,pos,af,none⟩=true) (H:(rdy l listed).contains i=true) (k':zFV P r E l J fuel (listed.set i true) (S.put d (.ptr id off))):zFV P r E l J (fuel+1) listed S:=
 zH1 hr hi rfl rfl k G H (λA w ⟨I,ρ,C,K⟩=>by
  have h:=K.ev x;rw[hx] at h;obtain⟨b,O,Z⟩:=h;exact⟨.pointer (some ⟨b,off,none⟩),λw'=>by simp[execOp,Z],λw'=>rfl,I,ρ,C,K.put hn ⟨b,O,rfl⟩⟩) k'
theorem zB5 {i id o s k:Nat} (hi:l[i]? =some ⟨some d,.fieldAddr s x k,ty,pos,af,none⟩) (hn:d<E.n) (hT:FldTy P s k off n t) (hx:S.ev x= .ptr id o) (hr:r=none) (G:zNM l=true)
  (H:z24 l listed i ⟨some d,.fieldAddr s x k,ty,pos,af,none⟩=true) (K:(rdy l listed).contains i=true) (k':zFV P r E l J fuel (listed.set i true) (S.put d (.ptr id (o+off)))):zFV P r E l J (fuel+1) listed S:=
 zH1 hr hi rfl rfl G H K (λA w ⟨I,ρ,C,O⟩=>by
  have h:=O.ev x;rw[hx] at h;obtain⟨b,Z,h2⟩:=h;refine⟨.pointer (some ⟨b,o+off,none⟩),λw'=>?_,λw'=>rfl,I,ρ,C,O.put hn ⟨b,Z,rfl⟩⟩;simp only[execOp,h2,dP,zIM hT w' b o];rfl) k'
theorem yDC {id:Nat} {ds:List DV} (hb:S.blk id= .box eb cells) (K:unD ((cells.drop off).take n)=some ds):Fl E S (.d (.agg ds)):=λa w I ρ C Z=>by have k:=Z.blks id;rw[hb] at k;obtain⟨b',arr,G,hB,hh,H,O,hI⟩:=k;have h:Reps w I ((arr.toList.drop off).take n) ds:=zR6 ((O.drop off).take n) K;exact⟨.agg ((arr.toList.drop off).take n).toArray,.agg _ _ h.1 (λx hx=>H x (fW (gA hx))) h.2⟩
end
def z7D (b h:Bool):Option Unit:=if b=h then some () else none
theorem yAX {b k:Bool} {u:Unit} (h:z7D b k=some u):b=k:=by unfold z7D at h;split at h;assumption;cases h
theorem yKQ {ops:Array Oper} {rest:List Oper} {J:AState->Prop} {j t:Nat} {G:Bool} (hg:o.guard=some (j,G)) (hj:(ops[j]?).bind (·.dst)=some t) (Z:t<E.n) (ht:S.get t= .d (.v (.bool G))) (h:jI P r E o S S') (k:Sq P r E ops rest S' J):Sq P r E ops (o::rest) S J:=
 ⟨S',λa w K Q hs hk=>by
  obtain⟨I,ρ,C,H⟩:=hs;have hy:=H.yield (ops:=ops) hj ht Z;have O:Region.wanted o (yielded ops a.tmps)=true:=by
   simp only[Region.wanted,hg,hy];cases G<;>rfl
  rw[O];simp only[eK];exact h a w K Q ⟨I,ρ,C,H⟩ hk,k⟩
theorem yPG {c:Operand} {b h:Bool} (G:d<E.n) (hc:S.ev c= .d (.v (.bool b))) (hx:S.ev x= .d (.v (.bool h))):
  AOp P r E S ⟨some d,.pick c x (.const (.bool false)),ty,pos,af,g⟩ d (.d (.v (.bool (b&&h)))):=
 ⟨rfl,G,λS' k=>yD rfl G (by simp) λA w I ρ C H=>by
  have K:=H.val ((k.ev (x:=c) (by simp[Op.operands])).trans hc);have O:=H.val ((k.ev (x:=x) (by simp[Op.operands])).trans hx);have Z:A.eval (.const (.bool false))= .bool false:=rfl;cases b<;>simp[execOp,K,O,Z,asBool]⟩
end Go.AV
namespace Go.M
def yKR {h:Type} (lt: h->h->Bool) (l:List h):Option (List h):=if l.length<=LIM then some (l.mergeSort λa b=>!lt b a) else none
end Go.M
namespace Go.AV
open Go.RowKit Go.M Go.Sort Go.Proofs
variable {k base off:Nat} {w:World} {I:Im} {H:Type} {spare:Nat->Bool} {held:Bool} {cs:List Value}
section
variable {P:Program} {α:Type} [Inhabited α]
theorem z7E {enc: α->List Value} (D:∀x,(enc x).length=k):∀(l:List α) (t:Nat),t<l.length*k->(l.flatMap enc)[t]? =some (enc l[t/k]!)[t%k]!
 | [],t,h=>by simp at h
 | x::l,t,h=>by
  have Z:0<k:=by rcases Nat.eq_zero_or_pos k with K | K;(subst K;simp at h);exact K
  rw[fC];by_cases G:t<k;rw[eZ (by rw[D];exact G),Nat.div_eq_of_lt G,Nat.mod_eq_of_lt G]
  simp[D,G];rw[eU (by rw[D];omega),D,z7E D l (t-k) (by simp only[eF,fT] at h;omega)]
  have O:t/k=(t-k)/k+1:=by rw[Nat.div_eq_sub_div Z (by omega)]
  have T:(t-k)%k=t%k:=by rw[<-Nat.mod_eq_sub_mod (by omega)]
  rw[O,T];simp
theorem zXT {enc: α->List Value} (D:∀x,(enc x).length=k) (l:List α):flatK enc k l.toArray=(l.flatMap enc).toArray:=by
 have h:(l.flatMap enc).length=l.length*k:=by
  induction l with
  | nil=>simp
  | cons x l T=>simp only[fC,d8,D,T,eF,fT];omega
 apply Array.ext;simp[flatK,h];intro t K Z;have G:t<l.length*k:=by simpa[flatK] using K
 have:=z7E D l t G;have O:t<(l.flatMap enc).length:=by rw[h];exact G
 rw[dT O] at this;simp only[flatK,Array.getElem_map,Array.getElem_range,List.getElem_toArray];have e:=iH this;rw[e];simp
theorem yKS {f:FuncId} {e:Nat} {en:En α} {encK: α->List Value} {D:Value} (hv:∀x,en.cells x=(encK x).map DV.v) (h1:∀x,∀v∈encK x,v.oneCell'=true) {l r:List α} (hl:r.length=l.length)
  (bp:∃fn,P.funcs[f]? =some fn/\(fn.name== "runtime.NumGoroutine")=false/\fn.body.isNone=false)
  (bf:l= []->∀(A:Option Addr) (c:Nat) (w:World),Calls P f #[.slice A 0 c,D] w λen w'=>en= .returned (.tuple #[])/\w'=w)
  (ab:∀(blk off T:Nat) (w:World),HoldsK encK en.size w blk off l.toArray->blk<w.heap.size->Calls P f #[.slice (some ⟨blk,off,none⟩) l.length T,D] w λe w'=>
   e= .returned (.tuple #[])/\∃n os,w'=sortWorldK encK en.size w blk off n r.toArray os):
  GC P f [.row 0,.d (.v D)] [(0,.win e en.size 0 (en.all l))] [0] [] [(0,.win e en.size 0 (en.all r))]:=by
 have hk:∀x,(encK x).length=en.size:=λx=>by have:=en.len x;rw[hv] at this;simpa using this
 have aa:∀m:List α,en.all m=(m.flatMap encK).map DV.v:=λm=>by
  simp only[En.all]
  induction m with
  | nil=>rfl
  | cons x m ih=>simp[hv,ih]
 have O:∀(blk off T:Nat) (w:World),HoldsK encK en.size w blk off l.toArray->blk<w.heap.size->Calls P f #[.slice (some ⟨blk,off,none⟩) l.length T,D] w λe w'=>
   e= .returned (.tuple #[])/\∃n os,w'=grow (putRow id (Sort.ahead w n) blk off (r.flatMap encK).toArray) os:=λblk off T w a b=>(ab blk off T w a b).mono λe w' ⟨h,n,os,hw⟩=>⟨h,n,os,by unfold sortWorldK putRowK at hw;rw[zXT hk] at hw;exact hw⟩
 have G:=aa r;have aw:∀v∈r.flatMap encK,v.oneCell'=true:=λv hv=>by
  obtain⟨x,_,hx⟩:=List.mem_flatMap.1 hv;exact h1 x v hx
 have ao:(r.flatMap encK).length=l.length*en.size:=by
  have h:=vE (e:=en) r;rw[G,fO,hl] at h;exact h
 clear ab;generalize r.flatMap encK=cr at O G aw ao;refine⟨bp,λw I ρ vs hI hG ac ar=>?_⟩;have bb:=ar.1
 match vs,bb with
 | [v0,v1],_=>
  have bx:v0= ρ 0:=ar.2 0 v0 (.row 0) rfl rfl;subst bx;have bz:v1=D:=zOS (show Rep w I v1 (.v D) from ar.2 1 v1 (.d (.v D)) rfl rfl);subst bz;have hk:=ac.ok 0;have be:look Blk.none [(0,Blk.win e en.size 0 (en.all l))] 0= .win e en.size 0 (en.all l):=rfl;rw[be] at hk;obtain⟨A,n,c,xs,ad,bw,hp,ah,hr,cw,hA⟩:=hk;have hn:n=l.length:=by rw[vE] at ah;exact(Nat.eq_of_mul_eq_mul_right hp ah).symm
  subst hn;have cc:xs=l.flatMap encK:=by
   apply hJ;intro j;have ao:xs.length=(l.flatMap encK).length:=by have:=hr.1;rw[aa] at this;simpa using this
   by_cases hj:j<xs.length
   ·have bg:xs[j]? =some xs[j]:=dT hj
    have bc:(l.flatMap encK)[j]? =some ((l.flatMap encK)[j]'(by omega)):=dT (by omega);have:=hr.2 j xs[j] (.v ((l.flatMap encK)[j]'(by omega))) bg (by rw[aa,e7,bc];rfl)
    rw[bg,bc,zOS this]
   ·rw[fN (by omega),fN (by omega)]
  have own:∀b,jS [(0,Blk.win e en.size 0 (en.all l))] ρ b↔blockOf (ρ 0)=some b:=by
   intro b;constructor
   ·rintro⟨id,K,hb⟩
    by_cases Z:0=id
    ·subst Z;exact hb
    ·exact absurd (by rw[kB];simp[Z,look]) K
   ·intro hb;exact⟨0,by rw[be];simp,hb⟩
  have ai:∀b (au:Nat->Value),jS [(0,Blk.win e en.size 0 (en.all r))] au b->blockOf (au 0)=some b:=by
   rintro b au ⟨id,K,hb⟩
   by_cases Z:0=id
   ·subst Z;exact hb
   ·exact absurd (by rw[kB];simp[Z,look]) K
  rcases hA with ⟨rfl,bu⟩ | ⟨b,off,arr,rfl,_,hh,cf,hc,ax⟩
  ·have an:l= []:=dQ bu
   have ap:r= []:=dQ (by omega);subst an;subst ap;have ah:=bf rfl none c w;rw[ad];refine ah.mono ?_
   rintro bk w' ⟨rfl,rfl⟩
   exact⟨_,I,ρ,rfl,Chg.refl _ _,jJ _ _,λ_ _ h=>h,λb j hi=>⟨hI b j hi,.inl hi⟩,ac,⟨[],rfl,Pw.nil⟩,λb hb=>by have:=ai b ρ hb;rw[ad] at this;simp[blockOf] at this,λ_ _ _=>rfl⟩
  ·have hb:b<w.heap.size:=(dX.1 hh).1
   have hH:HoldsK encK en.size w b off l.toArray:=by
    intro j hj;unfold HoldsK at*;rw[zXT hk] at hj ⊢;have az:j<(l.flatMap encK).length:=by simpa using hj
    refine⟨?_,by simp[World.frozen?,hh]⟩;rw[gN w b (off+j) arr e (0,0) hh];have:=hc j ((l.flatMap encK)[j]) (by rw[cc,dT az]);rw[this];congr 1;exact(getElem!_pos (l.flatMap encK).toArray j (by simpa using az)).symm
   rw[ad];refine(O b off c w hH hb).mono ?_
   rintro bk w' ⟨rfl,q,os,rfl⟩
   have aq:Same I w (grow (putRow id (Sort.ahead w q) b off cr.toArray) os):=by
    intro b' j hi;by_cases e':b'=b
    ·subst e'
     have ch:j<off\/off+l.length*en.size<=j:=by
      rcases gH j off with h | h
      ·exact .inl h
      ·rcases gH j (off+l.length*en.size) with h2 | h2
       ·have:=ax j h h2 hi;omega
       ·exact .inr h2
     refine KeepB.ofCell hh ?_;rw[gN _ b' j _ e (0,0) (z6Z id cr.toArray hh),gN w b' j arr e (0,0) hh];simp only[putCells,Array.getElem?_mapIdx,gO,ao];have:¬(off<=j/\j<off+l.length*en.size):=by omega
     simp[this]
    ·exact KeepB.of (zOZ id _ (hI b' j hi) e')
   have ay:blockOf (ρ 0)=some b:=by rw[ad];rfl
   refine⟨_,I,ρ,rfl,⟨rfl,rfl,rfl,by simp,λk hk K=>zOZ id _ hk (λe'=>K (by rw[own,ay,e']))⟩,aq,λ_ _ h=>h,λb' j hi=>⟨by have:=hI b' j hi;simp;omega,.inl hi⟩,⟨λid=>?_,λid bh b' K bl bm=>?_⟩,⟨[],rfl,Pw.nil⟩,λb' bo=>?_,λ_ _ _=>rfl⟩
   ·by_cases Z:0=id
    ·subst Z
     show BlkOk _ I ρ _ 0 (.win e en.size 0 (en.all r));refine⟨_,l.length,c,cr,ad,bw,hp,by rw[vE,hl],?_,aw,.inr ⟨b,off,putCells id off cr.toArray arr,rfl,trivial,z6Z id _ hh,?_,λj x hj=>?_,λj br bt hi=>by have:=ax j br bt hi;omega⟩⟩
     ·rw[G]
      refine⟨by simp,λj x d hx hd=>?_⟩;rw[e7,hx] at hd;cases hd;exact .v _
     ·simp[putCells];omega
     ·have ba:j<cr.length:=(dV.1 hj).1
      simp only[putCells,Array.getElem?_mapIdx,gO];have bv:off+j<arr.size:=by omega
      rw[gC bv];have bq:off<=off+j/\off+j<off+cr.length:=by omega
      simp only[gJ,bq,and_self,eK];have e3:off+j-off=j:=by omega
      rw[e3,<-hj,dT ba];congr 1;exact getElem!_pos cr.toArray j (by simpa using ba)
    ·have:look Blk.none [(0,Blk.win e en.size 0 (en.all r))] id= .none:=by rw[kB];simp[Z,look]
     rw[this];trivial
   ·exfalso
    by_cases Z:0=id
    ·have:look Blk.none [(0,Blk.win e en.size 0 (en.all r))] bh= .none:=by rw[kB];simp[show ¬0=bh from λe1=>K (Z.symm.trans e1),look]
     exact bm this
    ·have:look Blk.none [(0,Blk.win e en.size 0 (en.all r))] id= .none:=by rw[kB];simp[Z,look]
     exact bl this
   ·have h2:=ai b' ρ bo
    refine⟨?_,.inr ((own b').2 h2)⟩;rw[ay] at h2;cases h2;simp;omega
end
def zJ7 (P:Program) (t:TypeId) {h:Type} (en:En h) (ok: h->Prop):Prop:=
 ∀(H:Type) (enc:TypeId×Value->H) (w:World) (base:Nat) (spare:Nat->Bool) (held:Bool) (fuel:Nat) (cs:List Value) (x:DataW H×List MemPlace),DataW.trod enc P w base spare held fuel t cs=some x->
  ∃a,ok a/\Reps w (zXF w) cs (en.cells a)/\∀c∈cs,c.oneCell'=true
section
variable {P:Program} {t:TypeId}
theorem zEE (G:P.underlying t=some (.int .i64)):zJ7 P t eI (λn=> -9223372036854775808<=n/\n<=9223372036854775807):=by intro H enc w base spare held fuel cs x h;obtain⟨n,rfl,_,D⟩:=DataW.trod_int G h;refine⟨n,?_,Pw.cons (.v _) Pw.nil,by simp[Value.oneCell']⟩;simp only[Lit.wf,eC,d7] at D;exact D
theorem yKT (G:P.underlying t=some (.int .u8)):zJ7 P t e8 (λn=>0<=n/\n<256):=by intro H enc w base spare held fuel cs x h;obtain⟨n,rfl,_,D⟩:=DataW.trod_int G h;refine⟨n,?_,Pw.cons (.v _) Pw.nil,by simp[Value.oneCell']⟩;simp only[Lit.wf,eC,d7] at D;have K:n<=255:=D.2;exact⟨D.1,by omega⟩
theorem z1L (G:P.underlying t=some .string):zJ7 P t eS (λs=>s.length<=9223372036854775807):=by
 intro H enc w base spare held fuel cs x h;obtain⟨s,rfl,_,D⟩:=DataW.trod_string G h;refine⟨s.data.toList,D,Pw.cons ?_ Pw.nil,by simp[Value.oneCell']⟩;have:ds s.data.toList= .v (.string s):=by simp[ds]
 show Rep _ _ _ (ds s.data.toList);rw[this];exact .v _
theorem zO0 {G:Type} (en:En G):∀(D:List (List Value)) (l:List G),Pw (λcs a=>Reps w I cs (en.cells a)) D l->Reps w I D.flatten (en.all l)
 | [],l,h=>by cases l with
  | nil=>exact Pw.nil
  | cons a l=>have:=h.1;simp at this
 | cs::D,l,h=>by cases l with
  | nil=>have:=h.1;simp at this
  | cons a l=>
   obtain⟨K,O⟩:=zLD h;exact Pw.append K (zO0 en D l O)
theorem z7F {α β:Type} {R:Nat->α->β->Prop} (n:Nat) (h:∀i,i<n->∃a b,R i a b):∃(D:List α) (bs:List β),D.length=n/\bs.length=n/\∀i a b,D[i]? =some a->bs[i]? =some b->R i a b:=by
 induction n with
 | zero=>exact⟨[],[],rfl,rfl,λi a b h=>by simp at h⟩
 | succ n ih=>
  obtain⟨D,bs,O,Z,h3⟩:=ih λi hi=>h i (by omega);obtain⟨a,b,T⟩:=h n (by omega);refine⟨D++ [a],bs++ [b],by simp[O],by simp[Z],λi x y G K=>?_⟩;by_cases hi:i<n
  ·rw[eZ (by omega)] at G K;exact h3 i x y G K
  ·have:i=n:=by
    have:=(dV.1 G).1;simp[O] at this;omega
   subst this;rw[eU (by omega),O] at G;rw[eU (by omega),Z] at K;simp at G K;subst G;subst K;exact T
theorem z7G {α:Type} {D:List (List α)} {n:Nat} (h:∀cs∈D,cs.length=n) {j:Nat} {x: α} (G:D.flatten[j]? =some x):∃cs,D[j/n]? =some cs/\cs[j%n]? =some x/\0<n:=by
 induction D generalizing j with
 | nil=>simp at G
 | cons cs D ih=>
  have hl:=h cs (by simp);rw[iz] at G;by_cases O:j<cs.length;rw[eZ O] at G;have K:0<n:=by omega
  refine⟨cs,?_,?_,K⟩;rw[Nat.div_eq_of_lt (by omega)];rfl;rw[Nat.mod_eq_of_lt (by omega)];exact G;rw[eU (by omega)] at G;obtain⟨c2,T,Z,K⟩:=ih (λc hc=>h c (by simp[hc])) G;rw[hl] at T Z;have e:j=(j-n)+n:=by omega
  refine⟨c2,?_,?_,K⟩;rw[e,Nat.add_div_right _ K];simpa using T;rw[e,Nat.add_mod_right];exact Z
theorem zAX {e:TypeId} {α:Type} {en:En α} {ok: α->Prop} (ht:P.underlying t=some (.slice e)) (hc:P.cellsOf e=en.size) (hp:0<en.size) (he:zJ7 P e en ok):
  zJ7 P t (eL en) (λl=>l.length<=9223372036854775807/\∀x∈l,ok x):=by
 intro H enc w base spare held fuel cs x h;rcases DataW.trod_slice ht h with ⟨rfl,_⟩ | ⟨a,len,al,Z,rest,n,_,rfl,_,hb,hl,hm,az,am,_,_⟩
 ·exact⟨[],⟨by simp,by simp⟩,Pw.cons (.nil _ _ _) Pw.nil,by simp[Value.oneCell']⟩
 ·obtain⟨G,l,h1,h2,h3⟩:=z7F (R:=λi (T:List Value) (y: α)=>ok y/\Reps w (zXF w) T (en.cells y)/\(∀c∈T,c.oneCell'=true)/\T.length=en.size/\∀j,j<en.size->w.cell? ((a.add (i*en.size)).add j)=T[j]?) len (λi hi=>by
   have h1:=am i hi;have h2:Z[i]? =some (Z[i]'(by omega)):=dT (by omega);rw[h2,Option.bind_eq_some_iff] at h1;obtain⟨T,K,hy⟩:=h1;obtain⟨y,q1,q2,q3⟩:=he _ _ _ _ _ _ _ _ _ hy;rw[hc] at K;obtain⟨_,r1,r2⟩:=World.cells?_some K;exact⟨T,y,q1,q2,q3,r1,r2⟩)
  have aa:∀cs∈G,cs.length=en.size:=λcs K=>by
   obtain⟨i,hi⟩:=List.getElem?_of_mem K;have ad:=(dV.1 hi).1;have:l[i]? =some (l[i]'(by omega)):=dT (by omega);exact(h3 i cs _ hi this).2.2.2.1
  refine⟨l,⟨by unfold maxLen at hm;omega,λy hy=>?_⟩,Pw.cons ?_ Pw.nil,by simp[Value.oneCell']⟩
  ·obtain⟨i,hi⟩:=List.getElem?_of_mem hy
   have ad:=(dV.1 hi).1;have:G[i]? =some (G[i]'(by omega)):=dT (by omega);exact(h3 i _ y this hi).1
  ·show Rep w (zXF w) _ (zJ en l)
   by_cases h0:len=0
   ·subst h0
    have:l= []:=dQ h2;subst this;exact .nil _ _ _
   ·obtain⟨b,off,ac⟩:=a
    have O:∀(j:Nat) v,G.flatten[j]? =some v->∃i k,j=i*en.size+k/\k<en.size/\w.cell? (((⟨b,off,ac⟩:Addr).add (i*en.size)).add k)=some v:=by
     intro j v hj;obtain⟨cs,q1,q2,_⟩:=z7G aa hj;have ad:=(dV.1 q1).1;have ar:l[j/en.size]? =some (l[j/en.size]'(by omega)):=dT (by omega);have:=(h3 _ cs _ q1 ar).2.2.2.2 (j%en.size) (Nat.mod_lt _ hp);exact⟨j/en.size,j%en.size,(Nat.div_add_mod' j en.size).symm,Nat.mod_lt _ hp,by rw[this];exact q2⟩
    have ag:ac=none:=by
     have au:G.flatten≠[]:=by
      intro e;have:=congrArg List.length e;cases G with
      | nil=>simp at h1;omega
      | cons c G=>
       have:=aa c (by simp);simp at e;have:=e.1;rw[this] at*
       simp_all
     obtain⟨v,hv⟩:∃v,G.flatten[0]? =some v:=by
      cases hf:G.flatten with
      | nil=>exact absurd hf au
      | cons v _=>exact⟨v,rfl⟩
     obtain⟨i,k,ao,hk,D⟩:=O 0 v hv;have an:i*en.size=0:=by omega
     have aq:k=0:=by omega
     rw[an,aq] at D;simp only[Addr.add,eK,World.cell?] at D;cases ac with
     | none=>rfl
     | some s=>cases hb:w.heap[b]? with
      | none=>simp[hb] at D
      | some o=>cases o<;>simp[hb] at D
    subst ag;have ab:=zO0 (w:=w) (I:=zXF w) en G l ⟨by omega,λj cs y K hy=>(h3 j cs y K hy).2.1⟩;refine .sl b off len al en.size G.flatten (en.all l) (by omega) hl (by rw[vE,h2]) ab.1 (λj v hj=>?_) (λv hv=>?_) ab.2
    ·obtain⟨i,k,ao,hk,D⟩:=O j v hj
     rw[zFF,zFF] at D;have e2:off+i*en.size+k=off+j:=by omega
     rw[e2] at D;refine⟨D,?_⟩;show b<w.heap.size;unfold World.cell? at D;cases hb:w.heap[b]? with
     | none=>simp[hb] at D
     | some o=>exact(dX.1 hb).1
    ·obtain⟨cs,K,ax⟩:=List.mem_flatten.1 hv
     obtain⟨i,hi⟩:=List.getElem?_of_mem K;have ad:=(dV.1 hi).1;have:l[i]? =some (l[i]'(by omega)):=dT (by omega);exact(h3 i cs _ hi this).2.2.1 v ax
theorem xB {G:Array Field} {enc:TypeId×Value->H} {fuel:Nat} {x:DataW H×List MemPlace} (ht:P.underlying t=some (.struct G))
  (h:DataW.trod enc P w base spare held fuel t cs=some x) {α:Type} {en:En α} {ok: α->Prop} {K:TypeId} (T:(G[k]?).map (λf=>(f.offset,f.type))=some (off,K)) (hc:P.cellsOf K=en.size) (he:zJ7 P K en ok):
  ∃a,ok a/\Reps w (zXF w) ((cs.drop off).take en.size) (en.cells a)/\∀c∈(cs.drop off).take en.size,c.oneCell'=true:=by
 obtain⟨xs,n,_,_,hl,aa,O⟩:=DataW.trod_struct ht h;cases D:G[k]? with
 | none=>simp[D] at T
 | some f=>
  simp[D] at T;obtain⟨rfl,rfl⟩:=T;have h1:=O k f D;have Z:k<xs.length:=by rw[aa];exact(dX.1 D).1
  rw[dT Z,hc] at h1;exact he _ _ _ _ _ _ _ _ _ h1
theorem zEW {D:Array Field} {enc:TypeId×Value->H} {fuel:Nat} {x:DataW H×List MemPlace} (K:P.underlying t=some (.struct D))
  (h:DataW.trod enc P w base spare held fuel t cs=some x):cs.length=P.cellsOf t:=by
 obtain⟨xs,n,_,_,G,_⟩:=DataW.trod_struct K h;exact G
theorem zGX (h:cs.length=off):Reps w I (cs.drop off) []/\∀c∈cs.drop off,c.oneCell'=true:=by rw[List.drop_eq_nil_of_le (by omega)];exact⟨Pw.nil,by simp⟩
theorem jK {n:Nat} {D G:List DV} (O:Reps w I ((cs.drop off).take n) D) (Z:∀c∈(cs.drop off).take n,c.oneCell'=true) (K:Reps w I (cs.drop (off+n)) G/\∀c∈cs.drop (off+n),c.oneCell'=true):Reps w I (cs.drop off) (D++G)/\∀c∈cs.drop off,c.oneCell'=true:=by
 have e:cs.drop off=(cs.drop off).take n++cs.drop (off+n):=by rw[<-iC,fh]
 rw[e];exact⟨Pw.append O K.1,λc T=>by rcases fk.1 T with h | h;exact Z c h;exact K.2 c h⟩
theorem yPH {enc:TypeId×Value->H} {v:Value} {x:DataW H} {ps:List MemPlace} {O:Type} {en:En O} {ok: O->Prop} (he:zJ7 P t en ok) (h:DataW.Trod enc P w base spare held t v x ps)
  (hv:(v.cells= #[v]/\en.size=1/\(∀a,uA (en.dv a)= [en.dv a]))\/(∃cs,v= .agg cs/\∀a,∃es,en.dv a= .agg es)):∃a,ok a/\Rep w (zXF w) v (en.dv a):=by
 obtain⟨fuel,hf⟩:=h;obtain⟨a,h1,D,K⟩:=he _ _ _ _ _ _ _ _ _ hf;refine⟨a,h1,?_⟩;rcases hv with ⟨T,e2,Z⟩ | ⟨cs,rfl,e⟩
 ·rw[T] at D
  simp only[En.cells,Z] at D;exact D.2 0 v (en.dv a) rfl rfl
 ·obtain⟨es,G⟩:=e a
  simp only[En.cells,G,uA,Value.cells] at D K;rw[G];have:=Rep.agg (w:=w) (I:=zXF w) cs.toList es D.1 K D.2
  rwa [Array.toArray_toList] at this
end
end Go.AV


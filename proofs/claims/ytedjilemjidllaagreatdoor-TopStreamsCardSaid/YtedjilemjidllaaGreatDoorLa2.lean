/- The layer of abstract values: what a temporary holds, said once; every rule of it is proved from the model. Conditions: none. -/
import Derived.Test.YtedjilemjidllaaGreatDoorLa1
import Derived.RangeFuncIn
set_option linter.unusedSimpArgs false
set_option linter.unusedVariables false
set_option linter.unnecessarySimpa false
namespace Go.AV
open Go.RowKit
variable {P:Program} {r:Option Nat} {E:Env} {S:AState} {d k l e size n bid eb off t s:Nat} {ty:TypeId} {pos:String} {af:Array Edge} {g:Option (Nat×Bool)} {a:Act} {w w':World} {I:Im} {C:Nat->Prop} {go:Nat->Bool} {x:Operand} {xs:List (List DV)} {f:FuncId} {caps:List DV} {sh:Bool}
structure Kept (C:Nat->Prop) (w w':World):Prop where
 size:w.heap.size<=w'.heap.size
 blk:∀b,b<w.heap.size->¬C b->w'.heap[b]? =w.heap[b]?
def z51 (P:Program) (l:Nat) (ys:List Value) (w:World) (b:Bool) (R:World->Prop):Prop:=
 ∃fn tmps h body,(Instr.yield l ys.toArray).run P w= .ok (.round l fn tmps h body) w/\
  RoundIn Fence.wide 0 P l fn tmps h body w λe w'=>e= .returned (.bool b)/\R w'
def z2N (P:Program) (E:Env) (l:Nat) (xs:List (List DV)) (go:Nat->Bool:=λ_=>true):Prop:=
 ∀k C w (I:Im) ys x,xs[k]? =some x->E.fr k C w->(∀b j,I b j->b<w.heap.size/\¬C b/\(E.I0 b j\/E.mine b))->Reps w I ys x->
  z51 P l ys w (go k) λD=> ∃h,E.fr (k+1) h D/\Kept C w D/\∀b,h b->C b\/w.heap.size<=b
section
theorem SatAt.kept {ρ:Nat->Value} {K:Nat->Prop} (h:SatAt E S a w I ρ C) (T:Kept C w w') (hC:∀b,K b->C b\/w.heap.size<=b) (aa:E.fr k K w'):
  SatAt E (S.put GT (.gh k)) a w' I ρ K:=by
 have hs:Same I w w':=λb j hi=>KeepB.of (T.blk b (h.old b j hi).1 (h.cI b j hi));have D:∀b,b<w.heap.size->¬C b->¬K b:=λb hb hc Z=>by rcases hC b Z with O | O;exact hc O;omega
 have ab:(S.put GT (.gh k)).ghost=k:=by unfold AState.ghost;rw[wK];simp
 refine⟨λt=>?_,λi=>?_,h.dist,by rw[ab];exact aa,h.sub,λb j hi=>⟨fF (h.old b j hi).1 T.size,(h.old b j hi).2⟩,h.size,?_,λb j hi=>D b (h.old b j hi).1 (h.cI b j hi),λi b hi hb=>D b (h.blt i b hi hb).2 (h.cB i b hi hb),h.nm⟩
 ·rw[wK]
  by_cases e:GT=t
  ·simp only[e,eK];trivial
  ·simp only[e,eE];exact(h.tmps t).mono hs (λ_ _ h=>h)
 ·show BlkOk w' I ρ E.mine i (S.blk i)
  cases hx:S.blk i with
  | none=>trivial
  | _=>
   rw[<-hx];have H:S.blk i≠ .none:=by rw[hx];simp
   exact(h.blks i).mono hs (λb hb=>T.blk b (h.blt i b H hb).2 (h.cB i b H hb))
 ·refine⟨λdd hd=>?_,h.defers.dist,h.defers.wr,h.defers.real⟩
  refine(h.defers.each dd hd).imp (λ⟨q,O,h2,h3,h4⟩=>?_) id;have G:=(dX.1 h4).1;exact⟨q,O,h2,D q G h3,(T.blk q G h3).trans h4⟩
theorem z2O {args:List Operand} {ats:Array TypeId} {it:List DV} (hn:d<E.n) (hE:z2N P E l xs go) (hx:S.ev x= .d (.v (.func (.yield l) #[] #[]))) (ag:unD (args.map S.ev)=some it)
  (hk:S.ghost=k) (ah:xs[k]? =some it):
  jI P r E ⟨some d,.call {callee:= .value x,args:=args.toArray,argTypes:=ats},ty,pos,af,g⟩ S ((S.put GT (.gh (k+1))).put d (.d (.v (.bool (go k))))):=by
 rintro A w K Q ⟨I,ρ,C,hs⟩ ai
 obtain⟨ac,ad⟩:=zFT S ag;obtain⟨I1,h1,H,h3⟩:=SatAt.dvL _ hs (v2 hs args) ac;rw[ad] at H;have O:=H.frame;rw[hk] at O;obtain⟨fn,tmps,h,body,aa,D⟩:=hE k C w I1 (args.map A.eval) it ah O (λb j hi=>⟨(H.old b j hi).1,H.cI b j hi,(H.old b j hi).2⟩) h3;refine⟨λf _=>trivial,?_⟩;rw[Oper.semAt_eq _ _ _ (by simp)];have aj:(execOp A.eval ⟨some d,.call {callee:= .value x,args:=args.toArray,argTypes:=ats},ty,pos,af,g⟩).run P w= .ok (.round l fn tmps h body) w:=by
  have al:=hs.val hx;have Z:args.toArray.map A.eval=(args.map A.eval).toArray:=by simp
  simp only[execOp,resolve,al,Z,Deferred.ofValue,dP,eQ,dR,invoke];simpa using aa
 rw[aj];refine⟨by simp[fen,Fence.wide],?_⟩;show RoundIn Fence.wide 0 P l fn tmps h body w _;refine D.mono ?_
 rintro e w' ⟨rfl,C',T,G,ab⟩
 exact ai _ _ ⟨I1,ρ,C',(H.kept G ab T).put hn (.v _)⟩
def z52 (wr:Bool) (P:Program) (f:FuncId) (caps:List DV) (xs:List (List DV)) (go:Nat->Bool):Prop:=
 (∃fn,P.funcs[f]? =some fn/\(fn.name== "runtime.NumGoroutine")=false/\fn.body.isNone=false)/\
 ∀(w:World) (I:Im) (vs:List Value) (C:Nat->Prop) (l:Nat) (J:Nat->(Nat->Prop)->World->Prop),
  (∀b j,I b j->b<w.heap.size/\¬C b)->Reps w I vs caps->(∀k C w,J k C w->∀b,C b->b<w.heap.size)->(∀k C w w',J k C w->Below w.heap.size w w'->J k C w')->(∀k C w,J k C w->GlI (vF P) w I)->
  (wr=true->∀k C G h O,J k C G->Chg G h O->(∀b,O b->w.heap.size<=b/\¬C b/\∃o,G.heap[b]? =some o/\isData o=true)->J k C h)->J 0 C w->
  (∀k C w' (H:Im) ys x,xs[k]? =some x->J k C w'->(∀b j,H b j->b<w'.heap.size/\¬C b/\(I b j\/w.heap.size<=b))->Reps w' H ys x->z51 P l ys w' (go k) λh=> ∃D,J (k+1) D h/\Kept C w' h/\∀b,D b->C b\/w'.heap.size<=b)->
  Calls P f (.func (.yield l) #[] #[]::vs).toArray w λe w'=>e= .returned (.tuple #[])/\∃D,J xs.length D w'
abbrev z54 (P:Program) (f:FuncId) (caps:List DV) (xs:List (List DV)) (go:Nat->Bool:=λ_=>true):Prop:=z52 false P f caps xs go
def Env.iterX (wr:Bool) (gdt:Nat->Option (List Value)) (G:World) (I0:Im) (J:Nat->(Nat->Prop)->World->Prop) (n:Nat) (hn:n<=1000000) (D:∀k C w,J k C w->∀b,C b->b<w.heap.size) (hg:∀k C w w',J k C w->Below w.heap.size w w'->J k C w') (hG:∀k C w,J k C w->GlI gdt w I0) (hW:wr=true->∀k C H T O,J k C H->Chg H T O->(∀b,O b->G.heap.size<=b/\¬C b/\∃o,H.heap[b]? =some o/\isData o=true)->J k C T):Env where
 B:=G.heap.size
 I0:=I0
 n:=n
 fr:=λk C w=>J k C w/\G.heap.size<=w.heap.size
 wrB:=wr
 rng:=false
 nle:=hn
 mine:=λb=>G.heap.size<=b
 mineB:=λ_ h=>h
 nm:=λ_=>none
 size:=λ_ _ _ h=>h.2
 csize:=λk C w h=>D k C w h.1
 grow:=λk C w w' h hb=>⟨hg k C w w' h.1 hb,fA h.2 hb.size⟩
 wr:=λh k C w w' O K D Z _=>⟨hW h k C w w' O K.1 D Z,fA K.2 D.size⟩
 turn:=λh=>by cases h
 gdt:=gdt
 gl:=λk C w h=>hG k C w h.1
abbrev Env.iter (gdt:Nat->Option (List Value)) (w0:World) (I0:Im) (J:Nat->(Nat->Prop)->World->Prop) (n:Nat) (hn:n<=1000000) (hc:∀k C w,J k C w->∀b,C b->b<w.heap.size) (hg:∀k C w w',J k C w->Below w.heap.size w w'->J k C w') (hG:∀k C w,J k C w->GlI gdt w I0):Env:=Env.iterX false gdt w0 I0 J n hn hc hg hG (λh=>by cases h)
def yR3 (fn:Func) (n:Nat):Exit->AState->Prop
 | .ret,S | .normal,S=>fn.results= #[]/\S.ghost=n
 | _,_=>False
theorem z56 {wr:Bool} {fn:Func} {c:Code} (hf:P.funcs[f]? =some fn) (K:(fn.name== "runtime.NumGoroutine")=false) (hb:fn.body=some c) (hn:caps.length+1<=fn.ntmps) (hn2:fn.ntmps<=1000000)
  (h:∀w0 I0 J T Z hG O l,z2N P (Env.iterX wr (vF P) w0 I0 J fn.ntmps hn2 T Z hG O) l xs go->Avc P none (Env.iterX wr (vF P) w0 I0 J fn.ntmps hn2 T Z hG O) c (yR3 fn xs.length) ⟨(GT,.gh 0)::(0,.d (.v (.func (.yield l) #[] #[])))::zNK caps 1,[]⟩):z52 wr P f caps xs go:=by
 refine⟨⟨fn,hf,K,by simp[hb]⟩,λw I vs C l J hI ai T Z hG O h0 hy=>?_⟩;have ar:z2N P (Env.iterX wr (vF P) w I J fn.ntmps hn2 T Z hG O) l xs go:=by
  intro k C w2 I2 ys x hx D an hr;obtain⟨al,tmps,G,body,ag,H⟩:=hy k C w2 I2 ys x hx D.1 an hr;refine⟨al,tmps,G,body,ag,H.mono ?_⟩
  rintro e w3 ⟨rfl,C',h1,h2,h3⟩
  exact⟨rfl,C',⟨h1,fA D.2 h2.size⟩,h2,h3⟩
 refine g8 (n:=0) |>.1 (callsIn_of_wp_marks hf hb trivial ?_)
 have ab:vs.length=caps.length:=ai.1;have ah:Sat (Env.iterX wr (vF P) w I J fn.ntmps hn2 T Z hG O) ⟨(GT,.gh 0)::(0,.d (.v (.func (.yield l) #[] #[])))::zNK caps 1,[]⟩ {tmps:=(.func (.yield l) #[] #[]::vs).toArray++Array.replicate (fn.ntmps-(Value.func (.yield l) #[] #[]::vs).toArray.size) undef,defers:=[]} w:=by
  refine⟨I,λ_=>undef,C,⟨λt=>?_,λ_=>trivial,λ_ _ _ _ h=>absurd rfl h,⟨h0,d9 _⟩,λ_ _ h=>h,λb j h=>⟨(hI b j h).1,.inl h⟩,by simp[Env.iterX];omega,DefOk.nil,λb j h=>(hI b j h).2,λ_ _ h=>absurd rfl h,λ_ _ h=>by cases h⟩⟩
  show Holds _ _ _ _ (look AV.top ((GT,.gh 0)::(0,.d (.v (.func (.yield l) #[] #[])))::zNK caps 1) t);rw[kB];by_cases eg:GT=t
  ·simp only[eg,eK];trivial
  ·simp only[eg,eE]
   rw[kB];by_cases e0:0=t
   ·subst e0
    simp only[eK];have:((Value.func (.yield l) #[] #[]::vs).toArray++Array.replicate (fn.ntmps-(Value.func (.yield l) #[] #[]::vs).toArray.size) undef).getD 0 undef= .func (.yield l) #[] #[]:=by
     simp[dZ,Array.getElem?_append]
    rw[this];exact .v _
   ·simp only[e0,eE]
    rcases z0N caps 1 t with ⟨bi,x,hx,hlk⟩ | hlk
    ·rw[hlk]
     have ht:t-1<vs.length:=by rw[ab];exact(dV.1 hx).1
     refine ai.2 (t-1) _ x ?_ hx;have e1:t=(t-1)+1:=by omega
     have:((Value.func (.yield l) #[] #[]::vs).toArray++Array.replicate (fn.ntmps-(Value.func (.yield l) #[] #[]::vs).toArray.size) undef)[t]? =vs[t-1]?:=by
      rw[Array.getElem?_append_left (by simp;omega)]
      simp only[fJ]
      conv=>lhs;rw[e1]
      simp
     simp only[dZ,this];simp[ht]
    ·rw[hlk];trivial
 refine g7 (h w I J T Z hG O l ar _ w ah) ?_
 rintro en a w' ⟨S,hK,I1,ρ,C1,hs⟩
 have aa:(fn.results= #[]/\S.ghost=xs.length)->LeavesInM (fen none) 0 P fn a.tmps (λe w'=>e= .returned (.tuple #[])/\∃C',J xs.length C' w') a.defers .returning w':=by
  rintro⟨ad,ap⟩
  have D:=hs.frame;rw[ap] at D;have ac:a.defers= []:=by
   cases hd:a.defers with
   | nil=>rfl
   | cons q qs=>
    obtain⟨r,h1,_⟩:=hs.defers.marks q (by rw[hd];simp)
    have:=hs.defers.wr (by rw[hd,gP (by simp[zMX h1])];simp)
    cases this
  rw[ac];exact⟨_,results_none ad _ _ _,rfl,C1,D.1⟩
 cases en with
 | normal=>exact aa hK
 | ret=>exact aa hK
 | _=>exact hK.elim
theorem yOQ {fn:Func} {c:Code} (Z:P.funcs[f]? =some fn) (D:(fn.name== "runtime.NumGoroutine")=false) (hb:fn.body=some c) (hn:caps.length+1<=fn.ntmps) (hn2:fn.ntmps<=1000000)
  (h:∀O G J H K hG l,z2N P (Env.iter (vF P) O G J fn.ntmps hn2 H K hG) l xs go->Avc P none (Env.iter (vF P) O G J fn.ntmps hn2 H K hG) c (yR3 fn xs.length) ⟨(GT,.gh 0)::(0,.d (.v (.func (.yield l) #[] #[])))::zNK caps 1,[]⟩):z54 P f caps xs go:=
 z56 Z D hb hn hn2 λO G J H K hG _ l T=>h O G J H K hG l T
end
theorem SatAt.weak {S':AState} {ρ:Nat->Value} (h:SatAt E S a w I ρ C) (G:∀t,S'.get t= .top\/S.get t=S'.get t) (D:∀t,S'.blk t= .none\/S.blk t=S'.blk t) (K:E.fr S'.ghost C w):SatAt E S' a w I ρ C:=by
 have hb:∀i,S'.blk i≠ .none->S.blk i≠ .none:=λi hi=>by
  rcases D i with e | e;exact absurd e hi;rw[e];exact hi
 refine⟨λt=>?_,λi=>?_,λi T b Z hi O=>h.dist i T b Z (hb i hi) (hb T O),K,h.sub,h.old,h.size,h.defers,h.cI,λi b hi H=>h.cB i b (hb i hi) H,λi v hv hi=>h.nm i v hv (hb i hi)⟩;rcases G t with e | e
 rw[e];trivial;rw[<-e];exact h.tmps t;rcases D i with e | e
 rw[e];trivial;rw[<-e];exact h.blks i
theorem yCX:∀{l:List (Nat×AV)},Cov S l->∀t,look AV.top l t= .top\/S.get t=look AV.top l t
 | [],_,_=> .inl rfl
 | (i,x)::l,h,t=>by
  rw[kB];by_cases e:i=t;simp only[e,eK];exact .inr (e▸h.1);simp only[e,eE];exact yCX h.2 t
theorem zOL:∀{l:List (Nat×Blk)},zQ8 S l->∀t,look Blk.none l t= .none\/S.blk t=look Blk.none l t
 | [],_,_=> .inl rfl
 | (i,x)::l,h,t=>by
  rw[kB];by_cases e:i=t;simp only[e,eK];exact .inr (e▸h.1);simp only[e,eE];exact zOL h.2 t
def jS (T:List (Nat×Blk)) (ρ:Nat->Value) (b:Nat):Prop:= ∃id,look Blk.none T id≠ .none/\blockOf (ρ id)=some b
structure RndOk (E:Env) (w1:World) (Iall:Im) (C0:Nat->Prop):Prop where
 lt:∀b j,Iall b j->b<w1.heap.size
 sub:∀b j,E.I0 b j->Iall b j
 size:E.B<=w1.heap.size
def Env.rnd (E:Env) (w1:World) (Iall:Im) (X C0:Nat->Prop) (ag:List Nat) (ba:Nat->Value) (Z:List Deferred) (l D:Nat) (lp:Loop) (H:RndOk E w1 Iall C0):Env where
 B:=w1.heap.size
 I0:=Iall
 n:=E.n
 fr:=λ_ C w=>E.fr 0 C0 w/\Same Iall w1 w/\Kept (λb=>X b\/b=l) w1 w/\(∀b,C b↔C0 b)/\w.heap[l]? =some (.loop lp)/\(l<w1.heap.size/\D<w1.heap.size/\l≠D)/\w.heap[D]? =some (.deferred (some []))/\DefOk E.dq E.B E.rng C0 w Z/\(∀d∈Z,∀q,d.target= .collected q->q<w1.heap.size)
 wrB:=E.wrB
 rng:=E.rng
 nle:=E.nle
 mine:=λb=>(X b/\E.mine b)\/w1.heap.size<=b
 mineB:=λ_ h=> .inr h
 nm:=λid=>if ag.contains id then some (ba id) else E.nm id
 size:=λ_ _ _ h=>h.2.2.1.size
 csize:=λ_ C w h b hb=>E.csize _ _ _ h.1 b ((h.2.2.2.1 b).1 hb)
 grow:=λ_ C w w' h hb=>by
  obtain⟨h1,h2,K,h4,h5,h8,h6,h7,h9⟩:=h;refine⟨E.grow _ _ _ _ h1 hb,λb j hi=>?_,⟨fA K.size hb.size,λb G hn=>(hb.block b (fF G K.size)).trans (K.blk b G hn)⟩,h4,(hb.block l (dX.1 h5).1).trans h5,h8,(hb.block D (dX.1 h6).1).trans h6,h7.keep λq T=>(hb.block q (dX.1 T).1).trans T,h9⟩;exact(KeepB.of (hb.block b (fF (H.lt b j hi) K.size))).trans (h2 b j hi)
 wr:=λhE _ C w w' aw h hg hr hs=>by
  obtain⟨h1,h2,K,h4,h5,h8,h6,h7,h9⟩:=h;have hm:∀b,aw b->E.mine b/\¬C0 b/\∃o,w.heap[b]? =some o/\isData o=true:=λb hb=>by
   obtain⟨m1,m2,m3⟩:=hr b hb;refine⟨?_,λhc=>m2 ((h4 b).2 hc),m3⟩;rcases m1 with m1 | m1;exact m1.2;exact E.mineB b (fA H.size m1)
  have O:∀q o,w.heap[q]? =some o->isData o=false->¬aw q:=λq o T ho e=>by
   obtain⟨_,_,o',hc,hd⟩:=hr q e;rw[T] at hc;cases hc;rw[ho] at hd;cases hd
  refine⟨E.wr hE _ _ _ _ _ h1 hg hm (λb j hi=>hs b j (H.sub b j hi)),λb j hi=>(hs b j hi).trans (h2 b j hi),⟨fA K.size hg.size,λb G hn=>?_⟩,h4,(hg.block l (dX.1 h5).1 (O l _ h5 rfl)).trans h5,h8,(hg.block D (dX.1 h6).1 (O D _ h6 rfl)).trans h6,?_,h9⟩;refine(hg.block b (fF G K.size) (λe=>?_)).trans (K.blk b G hn);rcases (hr b e).1 with m | m
  exact hn (.inl m.1);omega;exact h7.keep λq T=>(hg.block q (dX.1 T).1 (O q _ T rfl)).trans T
 turn:=λhE _ C w w' q h T ht hs=>by
  obtain⟨h1,h2,K,h4,h5,h8,h6,h7,h9⟩:=h;refine⟨E.turn hE _ _ _ _ _ h1 (fA H.size T) ht (λb j hi=>hs b j (H.sub b j hi)),λb j hi=>(hs b j hi).trans (h2 b j hi),⟨by rw[ht.size];exact K.size,λb G hn=>(ht.blk b (by omega)).trans (K.blk b G hn)⟩,h4,(ht.blk l (by omega)).trans h5,h8,(ht.blk D (by omega)).trans h6,?_,h9⟩
  refine⟨λdd hd=>?_,h7.dist,h7.wr,h7.real⟩;refine(h7.each dd hd).imp (λ⟨u,e1,e2,e3,e4⟩=>?_) id;have:=h9 dd hd u e1;exact⟨u,e1,e2,e3,(ht.blk u (by omega)).trans e4⟩
 gdt:=E.gdt
 gl:=λ_ _ _ h=>(E.gl _ _ _ h.1).sub H.sub
theorem yJQ {b j:Nat} (h:∀o,w.heap[b]? =some o->isData o=false):w.cell? ⟨b,j,none⟩=none:=by
 unfold World.cell?;cases hb:w.heap[b]? with
 | none=>rfl
 | some o=>
  cases o with
  | cells c e f=>have:=h _ hb;cases this
  | _=>rfl
theorem Turned.same (h:Turned l w w') (I:Im):Same I w w':=by
 intro b j _;by_cases e:b=l;subst e;exact⟨by rw[yJQ h.no',yJQ h.no],λ_ _ q=>by have:=h.no _ q;cases this⟩
 exact KeepB.of (h.blk b e)
theorem SatAt.turn {ρ:Nat->Value} (h:SatAt E S a w I ρ C) (G:Turned l w w') (H:∀d∈a.defers,d.target≠ .collected l) (O:E.fr S.ghost C w'):SatAt E S a w' I ρ C:=by
 have Z:=G.same I;refine⟨λt=>(h.tmps t).mono Z (λ_ _ h=>h),λi=>?_,h.dist,O,h.sub,λb j hi=>⟨by rw[G.size];exact(h.old b j hi).1,(h.old b j hi).2⟩,h.size,⟨λdd D=>?_,h.defers.dist,h.defers.wr,h.defers.real⟩,h.cI,h.cB,h.nm⟩
 cases hx:S.blk i with
 | none=>trivial
 | _=>
  rw[<-hx];refine(h.blks i).mono Z (λb K=>G.blk b ?_)
  rintro rfl
  obtain⟨o,hc,H⟩:=h.cellBlk (by rw[hx];simp) K
  rw[G.no o hc] at H;cases H
 refine(h.defers.each dd D).imp (λ⟨q,T,e2,e3,e4⟩=>?_) id;exact⟨q,T,e2,e3,(G.blk q (λe=>H dd D (e▸T))).trans e4⟩
theorem SatAt.turn2 {E':Env} {ρ:Nat->Value} (h:SatAt E S a w I ρ C) (eB:E'.B=E.B) (eI:E'.I0=E.I0) (en:E'.n=E.n) (em:E'.mine=E.mine) (O:E'.nm=E.nm) (ew:E'.rng=E.rng) (K:E'.dq=E.dq)
  (G:Turned l w w') (H:∀d∈a.defers,d.target≠ .collected l) (Z:E'.fr S.ghost C w'):SatAt E' S a w' I ρ C:=by
 have hs:=G.same I;refine⟨λt=>(h.tmps t).mono hs (λ_ _ h=>h),λi=>?_,h.dist,Z,by rw[eI];exact h.sub,λb j hi=>⟨by rw[G.size];exact(h.old b j hi).1,by rw[eI,em];exact(h.old b j hi).2⟩,by rw[en];exact h.size,⟨λdd D=>?_,h.defers.dist,by rw[ew];exact h.defers.wr,by rw[K];exact h.defers.real⟩,h.cI,h.cB,by rw[O];exact h.nm⟩
 ·rw[em]
  cases hx:S.blk i with
  | none=>trivial
  | _=>
   rw[<-hx];refine(h.blks i).mono hs (λb T=>G.blk b ?_)
   rintro rfl
   obtain⟨o,hc,H⟩:=h.cellBlk (by rw[hx];simp) T
   rw[G.no o hc] at H;cases H
 ·refine(h.defers.each dd D).imp (λ⟨q,e1,e2,e3,e4⟩=>?_) id
  exact⟨q,e1,by rw[eB];exact e2,e3,(G.blk q (λe=>H dd D (e▸e1))).trans e4⟩
def z0Z (T:List (Nat×Blk)):Bool:=T.all λp=>match p.2 with
 | .row _ _ sh _=>!sh
 | .win _ _ _ _=>false
 | _=>true
theorem yFM {T:List (Nat×Blk)} (h:z0Z T=true) {id:Nat} {cells:List DV} (hb:look Blk.none T id= .win e size k cells):False:=by
 induction T with
 | nil=>cases hb
 | cons p T G=>
  obtain⟨i,x⟩:=p;simp only[z0Z,iK,eC] at h;rw[kB] at hb;by_cases D:i=id;simp only[D,eK] at hb;subst hb;simp at h;simp only[D,eE] at hb;exact G h.2 hb
theorem z97 {T:List (Nat×Blk)} (h:z0Z T=true) {id:Nat} {cells:List DV} (hb:look Blk.none T id= .row e size sh cells):sh=false:=by
 induction T with
 | nil=>cases hb
 | cons p T G=>
  obtain⟨i,x⟩:=p;simp only[z0Z,iK,eC] at h;rw[kB] at hb;by_cases D:i=id;simp only[D,eK] at hb;subst hb;simpa using h.1;simp only[D,eE] at hb;exact G h.2 hb
def zLM (h:List Nat):List (Nat×AV)->Bool
 | []=>true
 | (_,.d _)::r=>zLM h r
 | (_,.ptr id _)::r=>h.contains id&&zLM h r
 | _=>false
theorem zOM {D:List Nat}:∀{l:List (Nat×AV)},zLM D l=true->∀t,look AV.top l t= .top\/(∃y,look AV.top l t= .d y)\/∃id off,look AV.top l t= .ptr id off/\D.contains id=true
 | [],_,_=> .inl rfl
 | (i,x)::l,h,t=>by
  rw[kB];by_cases e:i=t;simp only[e,eK];cases x with
  | d y=>exact .inr (.inl ⟨y,rfl⟩)
  | ptr id off=>simp only[zLM,eC] at h;exact .inr (.inr ⟨id,off,rfl,h.1⟩)
  | _=>simp[zLM] at h
  simp only[e,eE];cases x with
  | d y=>exact zOM (l:=l) (by simpa[zLM] using h) t
  | ptr id off=>simp only[zLM,eC] at h;exact zOM h.2 t
  | _=>simp[zLM] at h
def yFN:List Tmp->List DV->List (Nat×AV)
 | p::ps,x::xs=>yFN ps xs++ [(p,.d x)]
 | _,_=>[]
theorem z57 {ρ:Nat->Value}:∀(ps:List Tmp) (ys:List Value) (xs:List DV) (D:Array Value) (l:List (Nat×AV)),ps.length=xs.length->Reps w I ys xs->(∀p∈ps,p<n)->D.size=n->
  (∀t,Holds w I ρ (D.getD t undef) (look AV.top l t))->
  ((ps.zip ys).foldl (λ(tmps:Array Value) (q:Tmp×Value)=>tmps.setIfInBounds q.1 q.2) D).size=n/\
  ∀t,Holds w I ρ (((ps.zip ys).foldl (λ(tmps:Array Value) (q:Tmp×Value)=>tmps.setIfInBounds q.1 q.2) D).getD t undef) (look AV.top (yFN ps xs++l) t)
 | [],ys,xs,D,l,K,G,O,H,h=>by
  have hx:xs= []:=dQ (by simpa using K.symm);subst hx;have:ys= []:=dQ G.1;subst this;exact⟨H,h⟩
 | p::ps,ys,xs,D,l,K,G,O,H,h=>by
  match xs,ys,K,G with
  | x::xs,y::ys,K,G=>
   have Z:Reps w I ys xs:=⟨by have:=G.1;simpa using this,λj u z hu hz=>G.2 (j+1) u z (by simpa using hu) (by simpa using hz)⟩
   have:=z57 ps ys xs (D.setIfInBounds p y) ((p,.d x)::l) (by simpa using K) Z (λq hq=>O q (by simp[hq])) (by simp[H]) (λt=>by
    rw[kB];have T:p<D.size:=by rw[H];exact O p (by simp)
    by_cases e:p=t
    ·subst e
     simp only[eK];have:(D.setIfInBounds p y).getD p undef=y:=by simp[dZ,T]
     rw[this];exact G.2 0 y x rfl rfl
    ·simp only[e,eE]
     have:(D.setIfInBounds p y).getD t undef=D.getD t undef:=by
      rw[dZ,dZ,eX e]
     rw[this];exact h t)
   simp only[List.zip_cons_cons,gG,yFN,dW,gV];exact this
  | [],_,K,_=>simp at K
  | _::_,[],_,G=>have:=G.1;simp at this
def yWD (P:Program) (l:Nat) (h:Env) (body:Code) (D:Exit->AState->Prop):Exit->AState->Prop
 | .normal,S=>Avc P (some l) h body D S
 | _,_=>False
def yWE (h:List (Nat×Blk)):Exit->AState->Prop
 | .normal,S=>zQ8 S h
 | _,_=>False
def zQU:Exit->Nat->Nat->Bool
 | .normal,_,_=>false
 | _,n,k=>Nat.beq k n
def goF (out:Exit) (n k:Nat):Bool:=!zQU out n (k+1)
theorem yOR {out:Exit} (h:k<n):zQU out n k=false:=by
 have:Nat.beq k n=false:=by
  cases D:Nat.beq k n with
  | false=>rfl
  | true=>have:=iG D;omega
 cases out<;>first | rfl | exact this
def yFO:Exit->Option Code
 | .ret=>some .ret
 | .exit id=>some (.exit id)
 | _=>none
def yTA (out:Exit) (n k:Nat) (h:List (Nat×Blk)) (e:Exit) (S:AState):Prop:=cond (goF out n k) (yWE h e S) (e=out/\zQ8 S h)
theorem zXE (out:Exit) {wr:Bool} {g:Operand} {ps:List Tmp} {assign body:Code} {K:Exit->AState->Prop}
    (keep:List (Nat×AV)) (ab:List Nat) (T:Nat->List (Nat×Blk)) (hg:S.ev g= .d (.fn f caps)) (bx:out= .normal\/((yFO out).isSome=true/\xs.isEmpty=false)) (gx:z52 wr P f caps xs (goF out xs.length)) (ih:wr=true->∀x∈xs,∀y∈x,∃v,y= .v v) (hE:E.wrB=true) (bv:∀k k' C w,E.fr k C w->E.fr k' C w)
    (df:Cov S keep) (gj:zQ8 S (T 0)) (ha:zLM ab keep=true) (ey:∀k,z0Z (T k)=true) (ec:∀k id,ab.contains id=true->look Blk.none (T k) id≠ .none) (hm:∀id,ab.contains id=true->E.nm id=none)
    (ib:∀x∈xs,ps.length=x.length) (ia:∀p∈ps,p<E.n)
    (round:∀w1 Iall X C0 fd ct l D ik il bq k x,xs[k]? =some x->
      Avc P (some l) (Env.rnd E w1 Iall X C0 ab fd ct l D ik bq) assign (yWD P l (Env.rnd E w1 Iall X C0 ab fd ct l D il bq) body (yTA out xs.length k (T (k+1)))) ⟨yFN ps x++keep,T k⟩)
    (hK:K out ⟨keep,T xs.length⟩) (hG:E.gdt=vF P:=by rfl) (hR:E.rng=true:=by rfl):Avc P none E (.rangeFunc g ps.toArray assign body) K S:=by
  rintro a w ⟨I,ρ,C0,hs⟩
  obtain⟨⟨dw,gv,cj,ch⟩,de⟩:=gx;have ej:=hs.ev g;rw[hg] at ej;have cx:Rep w I (a.eval g) (.fn f caps):=ej;generalize ij:a.eval g=vg at cx;cases cx with
  | fn f cf caps gr gq=>
  refine wpIn_rangeFunc λfn _=>?_
  let D:=w.heap.size
  let l:=w.heap.size+1
  let H:Loop:={state:= .ready,pending:=none,fn,tmps:=a.tmps,params:=ps.toArray,assign,body,defers:=D}
  let w1:=(w.alloc (.deferred (some []))).alloc (.loop H)
  let ba:Loop:={H with state:= .done,pending:=yFO out}
  let ad:Nat->Loop:=λk=>cond (zQU out xs.length k) ba H
  have el:∀k,k<xs.length->ad k=H:=λk hk=>by
    simp only[ad,yOR hk,dN]
  have gy:ad 0=H:=by
    rcases bx with e | ⟨_,e⟩
    · simp only[ad,e,zQU,dN]
    · exact el 0 (iZ.2 λh=>by rw[h] at e;cases e)
  refine⟨l,[{target:= .collected D,args:= #[]}],w1,{target:= .fn (.func f) cf.toArray,args:= #[.func (.yield l) #[] #[]]},w1,f,(.func (.yield l) #[] #[]::cf).toArray,w1,?_,?_,λ_ _=>trivial,?_,by simp[fen,Fence.wide],?_⟩
  · simp[Instr.enterLoop,w1,l,D,H,fen]
  · have:(resolve a.eval (rangeCall g l) 0)=Deferred.ofValue (a.eval g) #[.func (.yield l) #[] #[]]:=by
      simp[resolve,rangeCall,Act.eval]
    rw[this,ij];simp[Deferred.ofValue]
  · have hj:¬dw.name= "runtime.NumGoroutine" :=by simpa using cj
    have hn2:¬dw.body=none:=by intro e;simp[e] at ch
    simp[invoke,callFunc,gv,hj,hn2]
  show CallsIn Fence.wide 0 P f _ w1 _;have iv:w1.heap.size=w.heap.size+2:=by simp[w1]
  have dx:Below w.heap.size w w1:=((Below.refl _ _).alloc (d9 _) _).alloc (by simp) _;have he:w1.heap[l]? =some (.loop H):=by
    have:=hF (w.alloc (.deferred (some []))) (.loop H);simpa[w1,l] using this
  have gc:w1.heap[D]? =some (.deferred (some [])):=by
    have h1:w1.heap[D]? =(w.alloc (.deferred (some []))).heap[D]?:=Below.heap_alloc _ _ _ (by simp[D]);rw[h1];exact hF w _
  let S0:Nat->AState:=λk=>⟨keep,T k⟩
  have ee:Reps w I cf caps:=⟨gr,gq⟩;have bo:∀dd∈a.defers,∀q,dd.target= .collected q->q<w.heap.size:=λdd hd q hq=>by
    rcases hs.defers.each dd hd with ⟨u,e1,_,_,e4⟩ | hr
    · rw[hq] at e1;cases e1
      exact(dX.1 e4).1
    · exact absurd hq (zWW hr q)
  let J:Nat->(Nat->Prop)->World->Prop:=λk C w'=> ∃I' G,SatAt E (S0 k) a w' I' G C0/\(∀b j,I b j->I' b j)/\w1.heap.size<=w'.heap.size/\w'.heap[l]? =some (.loop (ad k))/\w'.heap[D]? =some (.deferred (some []))/\(∀b,(C0 b\/jS (T k) G b)\/b=l->C b)/\(∀b,C b->b<w'.heap.size)/\(wr=true->∀b j,I' b j->b<w1.heap.size\/C b)
  have gg:∀k C w',J k C w'->∀b,C b->b<w'.heap.size:=by
    rintro k C w' ⟨I',G,h1,_,_,h4,_,h6,h7,_⟩ b hb
    exact h7 b hb
  have gh:∀k C w' aq,J k C w'->Below w'.heap.size w' aq->J k C aq:=by
    rintro k C w' aq ⟨I',G,h1,h2,h3,h4,h5,h6,h7,h8⟩ hb
    exact⟨I',G,h1.grow hb,h2,fA h3 hb.size,(hb.block l (dX.1 h4).1).trans h4,(hb.block D (dX.1 h5).1).trans h5,h6,λb hc=>fF (h7 b hc) hb.size,h8⟩
  have gi:wr=true->∀k C w' aq O,J k C w'->Chg w' aq O->(∀b,O b->w1.heap.size<=b/\¬C b/\∃o,w'.heap[b]? =some o/\isData o=true)->J k C aq:=by
    rintro hw k C w' aq O ⟨I',G,h1,h2,h3,h4,h5,h6,h7,h8⟩ hc hO
    have lk:=E.size _ _ _ hs.frame;have be:Same I' w' aq:=λb j hi=>KeepB.of (hc.block b (h1.old b j hi).1 λho=>by
      obtain⟨o1,o2,_⟩:=hO b ho;rcases h8 hw b j hi with h | h
      · omega
      · exact o2 h)
    have gw:E.fr 0 C0 aq:=E.wr hE _ _ _ _ _ (bv _ _ _ _ h1.frame) hc (λb ho=>⟨E.mineB b (by have:=(hO b ho).1;omega),λgn=>(hO b ho).2.1 (h6 b (.inl (.inl gn))),(hO b ho).2.2⟩) (λb j hi=>be b j (h1.sub b j hi))
    refine⟨I',G,?_,h2,fA h3 hc.size,(hc.block l (dX.1 h4).1 λho=>(hO l ho).2.1 (h6 l (.inr rfl))).trans h4,(hc.block D (dX.1 h5).1 λho=>by have:=(hO D ho).1;omega).trans h5,h6,λb gp=>fF (h7 b gp) hc.size,h8⟩
    refine⟨λt=>(h1.tmps t).mono be (λ_ _ h=>h),λi=>?_,h1.dist,bv _ _ _ _ gw,h1.sub,λb j hi=>⟨fF (h1.old b j hi).1 hc.size,(h1.old b j hi).2⟩,h1.size,?_,h1.cI,h1.cB,h1.nm⟩
    · cases hx:(S0 k).blk i with
      | none=>trivial
      | _=>
        rw[<-hx];have ah:(S0 k).blk i≠ .none:=by rw[hx];simp
        exact(h1.blks i).mono be λb hb=>hc.block b (h1.blt i b ah hb).2 λho=>(hO b ho).2.1 (h6 b (.inl (.inr ⟨i,ah,hb⟩)))
    · refine⟨λdd hd=>(h1.defers.each dd hd).imp (λ⟨u,e1,e2,e3,e4⟩=>⟨u,e1,e2,e3,?_⟩) id,h1.defers.dist,h1.defers.wr,h1.defers.real⟩
      exact(hc.block u (dX.1 e4).1 λho=>by have h9:=(hO u ho).1;have lj:=bo dd hd u e1;omega).trans e4
  have bf:SatAt E (S0 0) a w1 I ρ C0:=(hs.weak (S':=S0 0) (yCX df) (zOL gj) (bv _ _ _ _ hs.frame)).grow dx;have cz:∀k w' (I':Im) G,SatAt E (S0 k) a w' I' G C0->∀b j,I' b j->¬jS (T k) G b:=by
    rintro k w' I' G h b j hi ⟨id,h1,h2⟩
    have hk:=h.blks id;have bt:(S0 k).blk id=look Blk.none (T k) id:=rfl;cases hx:look Blk.none (T k) id with
    | none=>exact h1 hx
    | row e size sh cells=>
      rw[bt,hx] at hk;obtain⟨hp,n,ys,hl,et,_,_,gf⟩:=hk;have ii:=z97 (ey k) hx;subst ii;have hz:(G id).ownBlock=some b:=by
        rcases et.2 with ⟨dj,_⟩ | ⟨gb,lb,lc,dj,_⟩
        · rw[dj] at h2;cases h2
        · rw[dj] at h2 ⊢;exact h2
      have:=(gf b j hz hi).1;cases this
    | box e cells=>
      rw[bt,hx] at hk;obtain⟨b',arr,ca,_,_,_,_,bw⟩:=hk;rw[ca] at h2;cases h2;exact bw j hi
    | map es=>
      rw[bt,hx] at hk;obtain⟨b',dt,da,ca,_,_,_,bw,_⟩:=hk;rw[ca] at h2;cases h2;exact bw j hi
    | it es q=>
      rw[bt,hx] at hk;obtain⟨b',bm,dt,da,la,ca,_,_,bw,_⟩:=hk;rw[ca] at h2;cases h2;exact bw j hi
    | win e size k' cells=>exact yFM (ey k) hx
  refine g8.2 ((de w1 I cf (λb=>(C0 b\/jS (T 0) ρ b)\/b=l) l J (λb j hi=>⟨by have:=(hs.old b j hi).1;omega,λhc=>?_⟩) (ee.mono (λb j hi=>KeepB.of (dx.block b (hs.old b j hi).1)) (λ_ _ h=>h)) gg gh (λk C w' ⟨I',G,h1,h2,_⟩ g' zs ei j=>⟨((hG▸h1.gl) g' zs ei j).1,((hG▸hs.gl) g' zs ei j).2⟩) gi ⟨I,ρ,bf,λ_ _ h=>h,d9 _,(by rw[gy];exact he),gc,λ_ h=>h,(by
      rintro b ((hc | ⟨id,h7,h8⟩) | rfl)
      · have:=E.csize _ _ _ hs.frame b hc;omega
      · exact(bf.blt id b h7 h8).2
      · omega),λ_ b j hi=> .inl (by have:=(hs.old b j hi).1;omega)⟩ ?_).mono ?_)
  · rcases hc with (hc | hc) | hc
    · exact hs.cI b j hi hc
    · exact cz 0 w1 I ρ bf b j hi hc
    · have:=(hs.old b j hi).1
      omega
  · -- a round
    rintro k C w' I1 ys x hx ⟨I',G,h1,h2,h3,h4,h5,h6,fy,ga⟩ ge ao
    have cy:ps.length=x.length:=ib x (fH hx);rw[el k (dV.1 hx).1] at h4;have fb:ys.length=ps.length:=by rw[ao.1,cy]
    refine⟨fn,(ps.toArray.zip ys.toArray).foldl (λtmps (q:Tmp×Value)=>tmps.setIfInBounds q.1 q.2) a.tmps,assign,body,?_,?_⟩
    · have lp:¬ys.toArray.size≠ps.toArray.size:=by simpa using fb
      simp[Instr.yield,Instr.getLoop,getObj,Sem.run,h4,H,fb]
    let Iall:Im:=λb j=>I' b j\/(wr=false/\I1 b j)
    have ck:Reps w' Iall ys x:=by
      cases hw:wr with
      | false=>exact ao.mono (jJ I1 w') (λ_ _ h=> .inr ⟨hw,h⟩)
      | true=>
        refine⟨ao.1,λj u y hu hy=>?_⟩;obtain⟨v,rfl⟩:=ih hw x (fH hx) y (fH hy);have hq:Rep w' I1 u (.v v):=ao.2 j u _ hu hy;cases hq;exact .v _
    let X:Nat->Prop:=jS (T k) G
    have ak:∀b j,Iall b j->b<w'.heap.size/\¬C0 b/\¬X b/\(E.I0 b j\/E.mine b):=by
      rintro b j (hi | ⟨_,hi⟩)
      · exact⟨(h1.old b j hi).1,h1.cI b j hi,cz k w' I' G h1 b j hi,(h1.old b j hi).2⟩
      · obtain⟨e1,e2,e3⟩:=ge b j hi
        refine⟨e1,λhc=>e2 (h6 b (.inl (.inl hc))),λhc=>e2 (h6 b (.inl (.inr hc))),?_⟩;rcases e3 with e3 | e3
        · exact(hs.old b j e3).2
        · exact .inr (E.mineB b (by have:=E.size _ _ _ hs.frame;omega))
    have bq:RndOk E w' Iall C0:=⟨λb j hi=>(ak b j hi).1,λb j hi=> .inl (h1.sub b j hi),E.size _ _ _ h1.frame⟩;have hf:l<w'.heap.size/\D<w'.heap.size/\l≠D:=⟨by omega,by omega,by simp[l,D]⟩;have ef:∀dd∈a.defers,∀q,dd.target= .collected q->q<w'.heap.size:=λdd hd q hq=>by have:=bo dd hd q hq;omega
    let bi:Loop:={H with state:= .busy}
    let E1:=Env.rnd E w' Iall X C0 ab G a.defers l D H bq
    let E2:=Env.rnd E w' Iall X C0 ab G a.defers l D bi bq
    have bz:∀b j,I' b j->Iall b j:=λ_ _ h=> .inl h;have eu:=z57 (w:=w') (I:=Iall) (ρ:=G) (n:=E.n) ps ys x a.tmps keep cy ck ia h1.size (λt=>(h1.tmps t).mono (jJ I' w') bz);have fc:(ps.toArray.zip ys.toArray).foldl (λtmps (q:Tmp×Value)=>tmps.setIfInBounds q.1 q.2) a.tmps=(ps.zip ys).foldl (λtmps (q:Tmp×Value)=>tmps.setIfInBounds q.1 q.2) a.tmps:=by
      rw[<-Array.foldl_toList];simp
    have cn:Sat E1 ⟨yFN ps x++keep,T k⟩ {tmps:=(ps.toArray.zip ys.toArray).foldl (λtmps (q:Tmp×Value)=>tmps.setIfInBounds q.1 q.2) a.tmps,defers:=[]} w':=by
      rw[fc];refine⟨Iall,G,C0,⟨eu.2,λi=>?_,h1.dist,⟨bv _ _ _ _ h1.frame,jJ _ _,⟨d9 _,λ_ _ _=>rfl⟩,λ_=>Iff.rfl,h4,hf,h5,h1.defers,ef⟩,λ_ _ h=>h,λb j hi=>⟨(ak b j hi).1,.inl hi⟩,eu.1,DefOk.nil,λb j hi=>(ak b j hi).2.1,h1.cB,λid v hv hi=>?_⟩⟩
      · have gz:=h1.blks i
        have bt:(S0 k).blk i=look Blk.none (T k) i:=rfl;show BlkOk w' Iall G E1.mine i (look Blk.none (T k) i);have du:∀b j,look Blk.none (T k) i≠ .none->blockOf (G i)=some b->¬Iall b j:=λb j ah bn hi=>(ak b j hi).2.2.1 ⟨i,ah,bn⟩;have dg:∀b,look Blk.none (T k) i≠ .none->blockOf (G i)=some b->E.mine b->E1.mine b:=λb ah bn _=> .inl ⟨⟨i,ah,bn⟩,(h1.blt i b ah bn).1⟩;have em:BlkOk w' I' G E.mine i (look Blk.none (T k) i):=gz;exact(em.mineM dg).widenI bz λb j ah bn hi=>absurd hi (du b j ah bn)
      · simp only[E1,Env.rnd] at hv
        by_cases e:ab.contains id=true
        · rw[eG e] at hv;cases hv;rfl
        · rw[dU e] at hv;exact h1.nm id v hv hi
    refine roundIn_of_wpIn trivial ?_;have dz:=round w' Iall X C0 G a.defers l D H bi bq k x hx _ w' cn;refine g7 dz ?_
    rintro e a2 w2 ⟨S2,dy,I2,fe,C2,dk⟩
    cases e with
    | normal=>
      have gt:=dk.frame;obtain⟨f1,f2,f3,f4,f5,f6,f7,f8,f9⟩:=gt
      let w3:World:={w2 with heap:=w2.heap.setIfInBounds l (.loop bi)}
      have ci:l<w2.heap.size:=(dX.1 f5).1;have ai:Turned l w2 w3:=⟨rfl,rfl,rfl,by simp[w3],λq hq=>eX (λe=>hq e.symm),λo hc=>(by rw[f5] at hc;cases hc;rfl),λo hc=>(by simp[w3,ci] at hc;subst hc;rfl)⟩
      refine⟨w3,?_,?_⟩
      · simp[Instr.beginRound,Instr.getLoop,getObj,setObj,Sem.run,f5,H,w3,bi]
      · have gu:E2.fr S2.ghost C2 w3:=by
          refine⟨E.turn hR _ _ _ _ _ f1 (by have:=E.size _ _ _ hs.frame;omega) ai (ai.same _),λb j hi=>(ai.same Iall b j hi).trans (f2 b j hi),⟨by rw[ai.size];exact f3.size,λb ay hn=>(ai.blk b (λe=>hn (.inr e))).trans (f3.blk b ay hn)⟩,f4,by simp[w3,ci],f6,(ai.blk D (λe=>f6.2.2 e.symm)).trans f7,?_,f9⟩
          refine⟨λdd hd=>?_,f8.dist,f8.wr,f8.real⟩;refine(f8.each dd hd).imp (λ⟨u,e1,e2,e3,e4⟩=>?_) id;have:=bo dd hd u e1;exact⟨u,e1,e2,e3,(ai.blk u (by omega)).trans e4⟩
        have ie:SatAt E2 S2 a2 w3 I2 fe C2:=by
          have gs:∀d∈a2.defers,d.target≠ .collected l:=λdd hd e=>by
            rcases dk.defers.each dd hd with ⟨u,e1,e2,_,_⟩ | hr
            · rw[e] at e1;cases e1
              have:w'.heap.size<=l:=e2;omega
            · exact zWW hr l e
          exact dk.turn2 (E':=E2) rfl rfl rfl rfl rfl rfl rfl ai gs gu
        refine g7 (dy a2 w3 ⟨I2,fe,C2,ie⟩) ?_
        rintro e a4 w4 ⟨S4,al,I4,cr,C4,Z⟩
        have ed:zQ8 S4 (T (k+1)):=by
          unfold yTA at al;cases am:goF out xs.length k with
          | true=>
            rw[am] at al;cases e with
            | normal=>exact al
            | _=>exact al.elim
          | false=>rw[am] at al;exact al.2
        obtain⟨p1,p2,p3,p4,p5,p6,p7,p8,p9⟩:=Z.frame
        let w5:World:={w4 with heap:=w4.heap.setIfInBounds l (.loop (ad (k+1)))}
        have eq:l<w4.heap.size:=(dX.1 p5).1;have ac:Turned l w4 w5:=⟨rfl,rfl,rfl,by simp[w5],λq hq=>eX (λe=>hq e.symm),λo hc=>(by rw[p5] at hc;cases hc;rfl),λo hc=>(by simp[w5,eq] at hc;subst hc;rfl)⟩
        have eh:E.fr 0 C0 w5:=E.turn hR _ _ _ _ _ p1 (by have:=E.size _ _ _ hs.frame;omega) ac (ac.same _)
        have cm:Same Iall w' w5:=λb j hi=>(ac.same Iall b j hi).trans (p2 b j hi);have bg:∀b j,Iall b j->I4 b j:=Z.sub;have ag:∀i,look Blk.none (T (k+1)) i≠ .none->S4.blk i=look Blk.none (T (k+1)) i:=λi hi=>by
          rcases zOL ed i with e | e
          · exact absurd e hi
          · exact e
        have ig:SatAt E (S0 (k+1)) a w5 I4 cr C0:=by
          refine⟨λt=>?_,λi=>?_,λi i' b hn hi ek=>Z.dist i i' b hn (by rw[ag i hi];exact hi) (by rw[ag i' ek];exact ek),bv _ _ _ _ eh,λb j hi=>bg b j (.inl (h1.sub b j hi)),λb j hi=>⟨by rw[ac.size];exact(Z.old b j hi).1,?_⟩,h1.size,?_,λb j hi hc=>Z.cI b j hi ((p4 b).2 hc),λi b hi hb hc=>Z.cB i b (by rw[ag i hi];exact hi) hb ((p4 b).2 hc),λi v hv hi=>?_⟩
          · have bk:Holds w' I' G (a.tmps.getD t undef) (look AV.top keep t):=h1.tmps t
            show Holds w5 I4 cr (a.tmps.getD t undef) (look AV.top keep t);rcases zOM ha t with e | ⟨y,e⟩ | ⟨id,off,e,bu⟩
            · rw[e];trivial
            · rw[e] at bk ⊢
              exact Rep.mono bk (λb j hi=>cm b j (.inl hi)) (λb j hi=>bg b j (.inl hi))
            · rw[e] at bk ⊢
              obtain⟨b,gk,gm⟩:=bk;refine⟨b,?_,gm⟩;have:=Z.nm id (G id) (by show (if ab.contains id then some (G id) else E.nm id)=_;rw[eG bu]) (by rw[ag id (ec (k+1) id bu)];exact ec (k+1) id bu)
              rw[this];exact gk
          · show BlkOk w5 I4 cr E.mine i (look Blk.none (T (k+1)) i)
            cases ez:look Blk.none (T (k+1)) i with
            | none=>trivial
            | _=>
              have ah:look Blk.none (T (k+1)) i≠ .none:=by rw[ez];simp
              rw[<-ez];have ea:=Z.blks i;rw[ag i ah] at ea;have hh:=ea.mono (ac.same I4) (λb hb=>ac.blk b (λe=>by
                obtain⟨o,hc,hd⟩:=Z.cellBlk (id:=i) (by rw[ag i ah];exact ah) hb
                rw[e,p5] at hc;cases hc;cases hd))
              refine hh.mineM λb _ _ m=>?_;rcases m with m | m
              · exact m.2
              · exact E.mineB b (by have:=E.size _ _ _ h1.frame;omega)
          · rcases (Z.old b j hi).2 with m | m | m
            · exact(ak b j m).2.2.2
            · exact .inr m.2
            · exact .inr (E.mineB b (by have:=E.size _ _ _ h1.frame;omega))
          · refine⟨λdd hd=>?_,p8.dist,p8.wr,p8.real⟩
            refine(p8.each dd hd).imp (λ⟨u,e1,e2,e3,e4⟩=>?_) id;have:=bo dd hd u e1;exact⟨u,e1,e2,e3,(ac.blk u (by omega)).trans e4⟩
          · by_cases e:ab.contains i=true
            · rw[hm i e] at hv;cases hv
            · exact Z.nm i v (by show (if ab.contains i then some (G i) else E.nm i)=_;rw[dU e];exact hv) (by rw[ag i hi];exact hi)
        have br:∃C',J (k+1) C' w5/\Kept C w' w5/\∀b,C' b->C b\/w'.heap.size<=b:=by
         refine⟨(λb=>C b\/(w'.heap.size<=b/\b<w5.heap.size)),⟨I4,cr,ig,λb j hi=>bg b j (.inl (h2 b j hi)),?_,by simp[w5,eq],(ac.blk D (by simp[D,l])).trans p7,?_,?_,λhw b j hi=>?_⟩,⟨?_,λb ay hn=>?_⟩,λb hb=>hb.imp id λh=>h.1⟩
         · rw[ac.size];exact fA h3 p3.size
         · rintro b ((hc | ⟨id,hi,hb⟩) | rfl)
           · exact .inl (h6 b (.inl (.inl hc)))
           · have ay:=Z.blt id b (by rw[ag id hi];exact hi) hb
             rcases ay.1 with m | m
             · exact .inl (h6 b (.inl (.inr m.1)))
             · exact .inr ⟨m,by rw[ac.size];exact ay.2⟩
           · exact .inl (h6 _ (.inr rfl))
         · rintro b (hb | hb)
           · rw[ac.size];exact fF (fy b hb) p3.size
           · exact hb.2
         · have ay:=(Z.old b j hi).1
           rcases (Z.old b j hi).2 with (m | ⟨m,_⟩) | m | m
           · exact(ga hw b j m).imp id .inl
           · rw[hw] at m;cases m
           · exact .inr (.inl (h6 b (.inl (.inr m.1))))
           · exact .inr (.inr ⟨m,by rw[ac.size];exact ay⟩)
         · rw[ac.size];exact p3.size
         · by_cases e:b=l
           · exact absurd (h6 b (.inr e)) hn
           · refine(ac.blk b e).trans (p3.blk b ay ?_)
             rintro (hc | hc)
             · exact hn (h6 b (.inl (.inr hc)))
             · exact e hc
        unfold yTA at al;cases am:goF out xs.length k with
        | true=>
          rw[am] at al;have az:zQU out xs.length (k+1)=false:=by unfold goF at am;cases h:zQU out xs.length (k+1) with | false=>rfl | true=>rw[h] at am;cases am
          cases e with
          | normal=>exact⟨.bool true,w5,by simp[Instr.endRound,Instr.getLoop,getObj,setObj,Sem.run,p5,bi,H,w5,ad,az],rfl,br⟩
          | _=>exact al.elim
        | false=>
          rw[am] at al;have az:zQU out xs.length (k+1)=true:=by unfold goF at am;cases h:zQU out xs.length (k+1) with | true=>rfl | false=>rw[h] at am;cases am
          obtain⟨rfl,_⟩:=al;rcases bx with h0 | ⟨h0,_⟩
          · subst h0;cases az
          · cases e with
            | ret=>exact⟨.bool false,w5,by simp[Instr.endRound,Instr.getLoop,getObj,setObj,Sem.run,p5,bi,H,w5,ad,az,ba,yFO],rfl,br⟩
            | exit id=>exact⟨.bool false,w5,by simp[Instr.endRound,Instr.getLoop,getObj,setObj,Sem.run,p5,bi,H,w5,ad,az,ba,yFO],rfl,br⟩
            | _=>cases h0
    | _=>exact dy.elim
  · -- behind the loop
    rintro e w' ⟨rfl,C',I',G,h1,h2,h3,h4,h5,h6⟩
    let w4:World:={w' with heap:=w'.heap.setIfInBounds l (.loop {ad xs.length with state:= .exhausted})}
    have ci:l<w'.heap.size:=(dX.1 h4).1;have ht:Turned l w' w4:=⟨rfl,rfl,rfl,by simp[w4],λq hq=>eX (λe=>hq e.symm),λo hc=>(by rw[h4] at hc;cases hc;rfl),λo hc=>(by simp[w4,ci] at hc;subst hc;rfl)⟩
    have cb:yS2 E K out {a with defers:={target:= .collected D,args:= #[]}::a.defers} w4:=by
      have eg:=E.turn hR _ _ _ _ _ h1.frame (by have:=E.size _ _ _ hs.frame;omega) ht (ht.same _)
      have Z:=h1.turn ht (λdd hd e=>by have:=bo dd hd l e;omega) eg
      refine⟨S0 xs.length,hK,I',G,C0,⟨Z.tmps,Z.blks,Z.dist,Z.frame,Z.sub,Z.old,Z.size,⟨?_,?_,λ_=>hR,(by rw[gW (by simp[realD])];exact Z.defers.real)⟩,Z.cI,Z.cB,Z.nm⟩⟩
      · intro dd hd
        rcases eP.1 hd with rfl | hd
        · refine .inl ⟨D,rfl,by have:=E.size _ _ _ hs.frame;omega,λhc=>?_,(ht.blk D (by simp[D,l])).trans h5⟩
          have:=E.csize _ _ _ hs.frame D hc;omega
        · exact Z.defers.each dd hd
      · refine gB.2 ⟨λdd hd q hq ic=>?_,Z.defers.dist⟩
        cases hq;have:=bo dd hd D ic;omega
    rcases bx with h0 | ⟨h0,_⟩
    · subst h0
      exact⟨none,w4,by simp[Instr.endLoop,Instr.getLoop,getObj,setObj,Sem.run,h4,H,w4,ad,zQU],cb⟩
    · have az:zQU out xs.length xs.length=true:=by
        cases out with
        | normal=>cases h0
        | _=>exact Nat.beq_refl _
      cases out with
      | ret=>exact⟨some .ret,w4,by simp[Instr.endLoop,Instr.getLoop,getObj,setObj,Sem.run,h4,H,w4,ad,az,ba,yFO],wpIn_ret cb⟩
      | exit id=>exact⟨some (.exit id),w4,by simp[Instr.endLoop,Instr.getLoop,getObj,setObj,Sem.run,h4,H,w4,ad,az,ba,yFO],wpIn_exit cb⟩
      | _=>cases h0
theorem z00 {g:Operand} {ps:List Tmp} {H body:Code} {K:Exit->AState->Prop}
  (keep:List (Nat×AV)) (G:List Nat) (T:Nat->List (Nat×Blk)) (hg:S.ev g= .d (.fn f caps)) (ah:z54 P f caps xs) (hE:E.wrB=true) (ag:∀k k' C w,E.fr k C w->E.fr k' C w)
  (Z:Cov S keep) (ac:zQ8 S (T 0)) (ai:zLM G keep=true) (am:∀k,z0Z (T k)=true) (ad:∀k id,G.contains id=true->look Blk.none (T k) id≠ .none) (aj:∀id,G.contains id=true->E.nm id=none)
  (al:∀x∈xs,ps.length=x.length) (ak:∀p∈ps,p<E.n)
  (round:∀w1 Iall X C0 ab O l D an ao aa k x,xs[k]? =some x->
   Avc P (some l) (Env.rnd E w1 Iall X C0 G ab O l D an aa) H (yWD P l (Env.rnd E w1 Iall X C0 G ab O l D ao aa) body (yWE (T (k+1)))) ⟨yFN ps x++keep,T k⟩)
  (hK:K .normal ⟨keep,T xs.length⟩) (hG:E.gdt=vF P:=by rfl) (hR:E.rng=true:=by rfl):Avc P none E (.rangeFunc g ps.toArray H body) K S:=
 zXE .normal keep G T hg (.inl rfl) ah (λh=>by cases h) hE ag Z ac ai am ad aj al ak round hK hG hR
section
theorem SatAt.rebox {ρ:Nat->Value} (h:SatAt E S a w I ρ C) {cells D:List AV} (hb:S.blk bid= .box eb cells) (hc:∀xs:List Value,Pw (Holds w I ρ) xs cells->Pw (Holds w I ρ) xs D):
  SatAt E (S.setBlk bid (.box eb D)) a w I ρ C:=by
 have K:S.blk bid≠ .none:=by rw[hb];simp
 have key:∀i,(S.setBlk bid (.box eb D)).blk i≠ .none->S.blk i≠ .none:=by
  intro i hi;rw[yC] at hi;by_cases e:bid=i
  ·subst e;exact K
  ·simpa[e] using hi
 refine⟨h.tmps,λi=>?_,λi i' b hn hi H=>h.dist i i' b hn (key i hi) (key i' H),h.frame,h.sub,h.old,h.size,h.defers,h.cI,λi b hi G=>h.cB i b (key i hi) G,λi v hv hi=>h.nm i v hv (key i hi)⟩;rw[yC];by_cases e:bid=i
 ·subst e
  simp only[eK];have Z:=h.blks bid;rw[hb] at Z;obtain⟨b,arr,T,hM,hh,h1,O,hI⟩:=Z;exact⟨b,arr,T,hM,hh,h1,hc _ O,hI⟩
 ·simp only[e,eE];exact h.blks i
theorem Pw.set_right {T G:Type} {R: T->G->Prop} {xs:List T} {ys:List G} (h:Pw R xs ys) {y O: G} (hy:ys[off]? =some y) (Z:∀x,R x y->R x O):Pw R xs (ys.set off O):=by refine⟨by simp[h.1],λj u v K D=>?_⟩;rw[List.getElem?_set] at D;by_cases e:off=j;subst e;by_cases H:off<ys.length;simp[H] at D;subst D;exact Z u (h.2 off u y K hy);simp[H] at D;simp[e] at D;exact h.2 j u v K D
theorem wV {cells:List AV} (D e size:Nat) (hp:0<size) (G:D≠bid) (H:E.nm D=none) (hb:S.blk bid= .box eb cells) (Z:(cells.map (zFQ D))[off]? =some (.d (.v (.slice none 0 0)))):
  zDZ E S (((S.kill D).setBlk D (.row e size false [])).setBlk bid (.box eb ((cells.map (zFQ D)).set off (.row D)))):=by
 rintro a w ⟨I,ρ,C,h⟩
 have T:=h.update (iF w none) (id:=D) (u:= .slice none 0 0) (x:= .row e size false []) (by simp) (jJ I w) (by simp[blockOf])
  ⟨⟨hp,by simp[upd,Value.ownBlock]⟩,0,[],by simp,by simp only[upd,eK];exact World.ownsRow_nil w _ e size,by simp,Pw.nil,by simp[upd,Value.ownBlock]⟩ (.inl rfl) H
 refine⟨I,_,C,T.rebox (eb:=eb) (cells:=cells.map (zFQ D)) ?_ λxs hx=>hx.set_right Z λx K=>?_⟩
 ·rw[yC,dU G,zJU,hb];rfl
 ·have O:Rep w I x (.v (.slice none 0 0)):=K
  cases O;simp[Holds,upd]
theorem zDQ {D:Nat} {cells:List AV} {T:List DV} (hb:S.blk bid= .box eb cells) (hc:cells[off]? =some (.row D)) (H:S.blk D= .row e size sh T):
  zDZ E S ((S.setBlk D (.row e size true T)).setBlk bid (.box eb (cells.set off (.d (.sl size T))))):=by
 rintro a w ⟨I,ρ,C,h⟩
 have G:D≠bid:=by rintro rfl;rw[hb] at H;cases H
 obtain⟨Z,h1,h2,h3⟩:=h.shareRow H;refine⟨Z,ρ,C,h2.rebox (eb:=eb) (cells:=cells) (by rw[yC,dU G];exact hb) λxs hx=>hx.set_right hc λx K=>?_⟩
 have O:x= ρ D:=K;rw[O];exact h3
theorem k7 {G:Nat} {H:List DV} (T:t<E.n) (ht:S.get t= .row G) (Z:S.blk G= .row e size sh H):zDZ E S ((S.setBlk G (.row e size true H)).put t (.d (.sl size H))):=by
 rintro a w ⟨I,ρ,C,h⟩
 obtain⟨K,h1,D,O⟩:=h.shareRow Z;refine⟨K,ρ,C,⟨λu=>?_,D.blks,D.dist,by rw[vZ _ _ T];exact D.frame,D.sub,D.old,D.size,D.defers,D.cI,D.cB,D.nm⟩⟩
 rw[wK];by_cases e:t=u;subst e;simp only[eK];have:=h.tmps t;rw[ht] at this;have hv:a.tmps.getD t undef= ρ G:=this;rw[hv];exact O;simp only[e,eE];exact D.tmps u
theorem zQ9 (size:Nat) (G:t<E.n) (H:S.get t= .d (.v (.slice none 0 0))):zDZ E S (S.put t (.d (.sl size []))):=by
 rintro a w ⟨I,ρ,C,h⟩
 refine⟨I,ρ,C,⟨λu=>?_,h.blks,h.dist,by rw[vZ _ _ G];exact h.frame,h.sub,h.old,h.size,h.defers,h.cI,h.cB,h.nm⟩⟩
 rw[wK];by_cases e:t=u;subst e;simp only[eK];have:=h.tmps t;rw[H] at this;generalize a.tmps.getD t undef=v at this ⊢;have D:Rep w I v (.v (.slice none 0 0)):=this;cases D;exact .nil _ _ _;simp only[e,eE];exact h.tmps u
theorem AOp.data {o:Oper} {a b:DV} (h:AOp P r E S o d (.d a)) (e:a=b):AOp P r E S o d (.d b):=e▸h
theorem AOp.bool {o:Oper} {a b:Bool} (h:AOp P r E S o d (.d (.v (.bool a)))) (e:a=b):AOp P r E S o d (.d (.v (.bool b))):=e▸h
theorem u9 {u:Nat} {x y:DV} (h:S.dv (S.get t).un=some x) (D:S.dv (S.get u).un=some y):RetS P S [.tmp t,.tmp u] [x,y]:=⟨_,_,rfl,h,_,_,rfl,D,rfl⟩
theorem zH0 {u v:Nat} {x y z:DV} (h:S.dv (S.get t).un=some x) (D:S.dv (S.get u).un=some y) (G:S.dv (S.get v).un=some z):RetS P S [.tmp t,.tmp u,.tmp v] [x,y,z]:=⟨_,_,rfl,h,_,_,rfl,D,_,_,rfl,G,rfl⟩
end
structure FldTy (P:Program) (s k off n:Nat) (t:TypeId):Prop where
 fld:∃fields f,P.underlying s=some (.struct fields)/\fields[k]? =some f/\f.offset=off/\f.type=t
 size:∀w,(sizeOf t).run P w= .ok n w
 pos:0<n
theorem zIM {t:TypeId} (h:FldTy P s k off n t) (w:World) (b o:Nat):
  (Instr.fieldAt s (.pointer (some ⟨b,o,none⟩)) k).run P w= .ok (.pointer (some ⟨b,o+off,none⟩)) w:=by
 obtain⟨G,f,T,K,rfl,rfl⟩:=h.fld;have Z:=h.pos;have O:=h.size w;have H:¬n=0:=by omega
 have D:(⟨b,o,none⟩:Addr).add f.offset=⟨b,o+f.offset,none⟩:=by
  unfold Addr.add;split
  ·rename_i e;rw[e];rfl
  ·rfl
 simp[Instr.fieldAt,eM T,K,Instr.sureAddr,fieldPlace,O,H,D]
theorem zR6 {ρ:Nat->Value} {cells:List AV} {ds:List DV} {xs:List Value} (h:Pw (Holds w I ρ) xs cells) (D:unD cells=some ds):Reps w I xs ds:=by
 induction cells generalizing xs ds with
 | nil=>simp[unD] at D;subst D;have:xs= []:=dQ h.1;subst this;exact Pw.nil
 | cons c cells K=>
  cases xs with
  | nil=>have:=h.1;simp at this
  | cons x xs=>
   cases c with
   | d y=>
    simp only[unD] at D;cases G:unD cells with
    | none=>simp[G] at D
    | some ys=>
     simp[G] at D;subst D;exact Pw.cons (h.2 0 x (.d y) rfl rfl) (K ⟨by have:=h.1;simpa using this,λj u z G H=>h.2 (j+1) u z (by simpa using G) (by simpa using H)⟩ G)
   | _=>simp[unD] at D
theorem yTB {ρ:Nat->Value} {ds:List DV} {xs:List Value} (h:Reps w I xs ds):Pw (Holds w I ρ) xs (ds.map AV.d):=by refine⟨by rw[h.1,fO],λj x c G D=>?_⟩;simp only[e7,g6] at D;obtain⟨y,H,rfl⟩:=D;exact h.2 j x y G H
section
theorem zBS {id o:Nat} {t:TypeId} (G:d<E.n) (H:FldTy P s k off n t) (Z:S.ev x= .ptr id o):
  AOp P r E S ⟨some d,.fieldAddr s x k,ty,pos,af,g⟩ d (.ptr id (o+off)):=
 ⟨rfl,G,λS' K=>zV rfl G (by simp) λA w I ρ C O=>by
  have h:=O.ev x;rw[(K.ev (by simp[Op.operands])).trans Z] at h;obtain⟨b,D,T⟩:=h;refine⟨.pointer (some ⟨b,o+off,none⟩),?_,b,D,rfl⟩;simp only[execOp,T,dP,zIM H w b o];rfl⟩
theorem jT {o:Nat} {t:TypeId} {cells:List DV} (H:d<E.n) (O:FldTy P s k off n t) (hx:S.ev x= .ip cells o):
  AOp P r E S ⟨some d,.fieldAddr s x k,ty,pos,af,g⟩ d (.ip cells (o+off)):=
 ⟨rfl,H,λS' T=>zV rfl H (by simp) λA w I ρ C hs=>by
  have h:=hs.ev x;rw[(T.ev (by simp[Op.operands])).trans hx] at h;obtain⟨b,G,xs,hv,Z,K,D⟩:=h;refine⟨.pointer (some ⟨b,G+(o+off),none⟩),?_,b,G,xs,rfl,Z,K,D⟩;simp only[execOp,hv,dP,zIM O w b (G+o),hY];rfl⟩
theorem jE {id:Nat} {cells:List AV} {ds:List DV} (hn:d<E.n) (hT:AggTy P t n) (hx:S.ev x= .ptr id 0) (hb:S.blk id= .box eb cells) (hd:unD cells=some ds) (hl:cells.length=n):
  AOp P r E S ⟨some d,.load t x,ty,pos,af,g⟩ d (.d (.agg ds)):=
 ⟨rfl,hn,λS' Z=>zV rfl hn (by simp) λA w I ρ C hs=>by
  have h:=hs.ev x;rw[(Z.ev (by simp[Op.operands])).trans hx] at h;obtain⟨b,G,hv⟩:=h;have H:=hs.blks id;rw[(Z.blk id).trans hb] at H;obtain⟨T,arr,O,hB,hh,h1,hr,hI⟩:=H;rw[O] at G;simp[blockOf] at G;subst G;have D:Reps w I arr.toList ds:=zR6 hr hd;have K:arr.toList.length=n:=by rw[hr.1];exact hl
  refine⟨.agg arr.toList.toArray,?_,.agg _ _ D.1 (λu hu=>h1 u hu) D.2⟩;simp only[execOp,hv,dP];rw[zDN w hT T 0 arr.toList K (λj v hj=>by rw[gN w T _ arr eb (0,0) hh];simpa using hj)]
  rfl⟩
theorem yFP {D:TypeId} {ds:List DV} (hn:d<E.n) (hx:S.ev x= .d (.agg ds)) (K:E.nm d=none):
  jI P r E ⟨some d,.box D x,ty,pos,af,g⟩ S (((S.kill d).setBlk d (.box D (ds.map AV.d))).put d (.ptr d 0)):=
 vR (by simp) λA w I ρ C T=>by
  have h:=T.ev x;rw[hx] at h;have O:Rep w I (A.eval x) (.agg ds):=h;generalize hv:A.eval x=v at O;cases O with
  | agg xs cells H Z hr=>
   have hb:=T.newBox (id:=d) (e:=D) (arr:=xs.toArray) (cells:=ds.map AV.d) (yTB ⟨H,hr⟩) (by simpa using Z) K;have G:(ds.map AV.d).map (zFQ d)=ds.map AV.d:=by
    rw[List.map_map];rfl
   rw[G] at hb;refine⟨.pointer (some ⟨w.heap.size,0,none⟩),w.alloc (.cells xs.toArray D),?_,I,_,C,hb.put hn (show Holds _ _ _ (.pointer (some ⟨w.heap.size,0,none⟩)) (AV.ptr d 0) from ⟨w.heap.size,by simp[upd,blockOf],rfl⟩)⟩;simp only[execOp,hv,Instr.box,newVar];simp[newRow,Value.cells]
end
def zXF (w:World):Im:=λb _=>b<w.heap.size
theorem yOS {ds:List DV} (H:zB P f ds [.v (.bool true)]) {vs:List Value} (hG:GlI (vF P) w (zXF w)) (K:Reps w (zXF w) vs ds):
  Calls P f vs.toArray w λe w'=>e= .returned (.bool true)/\Below w.heap.size w w':=by
 refine(H.2 w (zXF w) vs (λ_ _ h=>h) hG K).mono ?_
 rintro e w' ⟨v,G,rfl,hb,_,_,D⟩
 refine⟨?_,hb⟩;have h:Rep w' G v (.v (.bool true)):=D;cases h;rfl
theorem yJR (w:World) (I:Im):Reps w I [] []:=Pw.nil
theorem yFQ {v:Value} {vs:List Value} {d:DV} {ds:List DV} (h:Rep w I v d) (H:Reps w I vs ds):Reps w I (v::vs) (d::ds):=by
 refine⟨by simp[H.1],λj x y D G=>?_⟩;cases j with
 | zero=>simp at D G;subst D;subst G;exact h
 | succ j=>exact H.2 j x y (by simpa using D) (by simpa using G)
theorem lq {a b:Nat} (h:Nat.ble a b=true):a<=b:=hZ h
end Go.AV
namespace Go.M
variable {X Y:Type}
abbrev Str:=List UInt8
def yO {h:Type} (l:List h) (i:Int):Option h:=if 0<=i then l[i.toNat]? else none
def zCV {h:Type} (l:List h) (i:Int) (x: h):Option (List h):=if 0<=i/\i.toNat<l.length then some (l.set i.toNat x) else none
def slc {h:Type} (l:List h) (lo hi:Int):Option (List h):=if 0<=lo/\lo<=hi/\hi.toNat<=l.length then some ((l.take hi.toNat).drop lo.toNat) else none
def LIM:Nat:=4294967296
def app {h:Type} (l m:List h):Option (List h):=if l.length+m.length<=LIM then some (l++m) else none
def mkM {h:Type} (z: h) (n:Int):Option (List h):=if 0<=n/\n.toNat<=LIM then some (List.replicate n.toNat z) else none
def gM {h:Type} [Inhabited h] (g:Bool) (m:Option h):Option h:=cond g m (some default)
def pv {h:Type} (x: h):Option h:=some x
def zR7 (k:Int->Int) (a b:Int):Option Int:=if b=0 then none else some (k (a.tdiv b))
def zKY (a b:Int):Option Int:=if b=0 then none else some (a.tmod b)
def zM0 (s:Str) (i:Int):Option Int:=(yO s i).map λb=>(b.toNat:Int)
def mget {h D:Type} [DecidableEq h] (m:List (h×D)) (k: h):Option D:=match m with
 | []=>none
 | (G,v)::r=>if k=G then some v else mget r k
def vS {h D:Type} [DecidableEq h] (m:List (h×D)) (k: h) (v: D):List (h×D):=match m with
 | []=>[(k,v)]
 | (G,H)::r=>if k=G then (k,v)::r else (G,H)::vS r k v
def wR {h D:Type} [DecidableEq h] (m:List (h×D)) (k: h) (z: D): D:=(mget m k).getD z
def zB0 {h D:Type} [DecidableEq h] (m:List (h×D)) (k: h):Bool:=(mget m k).isSome
inductive Stp (X Y:Type) where
 | next (x:X)
 | done (y:Y)
def iter (body:X->Option (Stp X Y)):Nat->X->Option Y
 | 0,_=>none
 | n+1,x=>match body x with
  | none=>none
  | some (.next x')=>iter body n x'
  | some (.done y)=>some y
theorem z01 {body:X->Option (Stp X Y)} {y:Y}:∀{n m:Nat} {x:X},n<=m->iter body n x=some y->iter body m x=some y:=by
 intro n
 induction n with
 | zero=>intro m x _ h;cases h
 | succ n k=>
  intro m x D h;cases m with
  | zero=>omega
  | succ m=>
   simp only[iter] at h ⊢;cases hb:body x with
   | none=>rw[hb] at h;cases h
   | some s=>
    rw[hb] at h;cases s with
    | next x'=>exact k (by omega) h
    | done G=>exact h
open Classical in
noncomputable def zE (body:X->Option (Stp X Y)) (x:X):Option Y:=
 if h:∃n y,iter body n x=some y then some (Classical.choose (Classical.choose_spec h)) else none
theorem zM1 {body:X->Option (Stp X Y)} {x:X} {y:Y}:zE body x=some y↔∃n,iter body n x=some y:=by
 unfold zE;constructor;intro h;split at h;rename_i k;have:=Classical.choose_spec (Classical.choose_spec k);cases h;exact⟨_,this⟩;cases h
 rintro⟨n,G⟩
 have k:∃n y,iter body n x=some y:=⟨n,y,G⟩;rw[dif_pos k];have H:=Classical.choose_spec (Classical.choose_spec k);have K:=z01 (Nat.le_max_left (Classical.choose k) n) H;have D:=z01 (Nat.le_max_right (Classical.choose k) n) G;rw[K] at D;exact D
theorem yQ (body:X->Option (Stp X Y)) (x:X):zE body x=match body x with
  | none=>none
  | some (.next x')=>zE body x'
  | some (.done y)=>some y:=by
 apply Option.ext;intro y;rw[zM1];constructor
 ·rintro⟨n,k⟩
  cases n with
  | zero=>cases k
  | succ n=>
   simp only[iter] at k;cases hb:body x with
   | none=>rw[hb] at k;cases k
   | some s=>
    rw[hb] at k;cases s with
    | next x'=>exact zM1.2 ⟨n,k⟩
    | done D=>exact k
 ·intro h
  cases hb:body x with
  | none=>rw[hb] at h;cases h
  | some s=>
   rw[hb] at h;cases s with
   | next x'=>
    obtain⟨n,k⟩:=zM1.1 h;exact⟨n+1,by simp only[iter,hb];exact k⟩
   | done D=>exact⟨1,by simp only[iter,hb];exact h⟩
theorem bE {k D:Type} {o:Option k} {f: k->Option D} {b: D} (h:o.bind f=some b):∃a,o=some a/\f a=some b:=Option.bind_eq_some_iff.1 h
theorem cT {k:Type} {c:Bool} {A B:Option k} {r:Option k} (D:c=true) (h:cond c A B=r):A=r:=by subst D;exact h
theorem cF {k:Type} {c:Bool} {A B:Option k} {r:Option k} (D:c=false) (h:cond c A B=r):B=r:=by subst D;exact h
theorem eL {D G k:Type} {f: D->k} {g: G->k} {y: D} {r: k} (h:Sum.elim f g (Sum.inl y)=r):f y=r:=h
theorem eR {G D k:Type} {f: G->k} {g: D->k} {y: D} {r: k} (h:Sum.elim f g (Sum.inr y)=r):g y=r:=h
end Go.M
namespace Go.AV
open Go.RowKit
variable {w:World} {I:Im} {v z:Value} {c:Code} {P:Program} {r:Option Nat} {E:Env} {S:AState} {d n e k size off s:Nat} {ty tx tz t tt kt:TypeId} {pos:String} {af:Array Edge} {g:Option (Nat×Bool)} {a A:Act} {C:Nat->Prop} {fn:Func} {T T':List (Nat×Blk)} {keep ks:List Nat} {args rets cs:List Cap} {vs:List Value} {f:FuncId} {x xf y ix:Operand} {i b:Int} {xs:List Operand} {ats:Array TypeId} {k' kk:IntKind} {sh:Bool} {u:DV} {places:List (Nat×Nat)} {o:Oper} {rs as bs:List DV} {fields:Array Field}
structure Frag (w:World) (I:Im) (ρ:Nat->Value) (T:List (Nat×Blk)):Prop where
 ok:∀id,BlkOk w I ρ (λ_=>True) id (look Blk.none T id)
 dist:∀id id' b,id≠id'->look Blk.none T id≠ .none->look Blk.none T id'≠ .none->blockOf (ρ id)=some b->blockOf (ρ id')≠some b
def yFR (w:World) (I:Im) (ρ:Nat->Value) (v:Value):List Cap->Prop
 | [x]=>HoldsC w I ρ v x
 | xs=> ∃ys,v= .tuple ys.toArray/\Pw (HoldsC w I ρ) ys xs
def GC (P:Program) (f:FuncId) (args:List Cap) (T:List (Nat×Blk)) (keep:List Nat) (rets:List Cap) (T':List (Nat×Blk)):Prop:=
 (∃fn,P.funcs[f]? =some fn/\(fn.name== "runtime.NumGoroutine")=false/\fn.body.isNone=false)/\
 ∀(w:World) (I:Im) (ρ:Nat->Value) (vs:List Value),(∀b j,I b j->b<w.heap.size)->GlI (vF P) w I->Frag w I ρ T->Pw (HoldsC w I ρ) vs args->
  Calls P f vs.toArray w λe w'=> ∃v D h,e= .returned v/\Chg w w' (jS T ρ)/\Same I w w'/\(∀b j,I b j->D b j)/\
   (∀b j,D b j->b<w'.heap.size/\(I b j\/w.heap.size<=b\/jS T ρ b))/\Frag w' D h T'/\yFR w' D h v rets/\
   (∀b,jS T' h b->b<w'.heap.size/\(w.heap.size<=b\/jS T ρ b))/\(∀id,keep.contains id=true->look Blk.none T' id≠ .none->h id= ρ id)
def GCA (P:Program) (f:FuncId) (args:List Cap) (T:List (Nat×Blk)) (keep:List Nat) (G:AV) (T':List (Nat×Blk)):Prop:=
 (∃fn,P.funcs[f]? =some fn/\(fn.name== "runtime.NumGoroutine")=false/\fn.body.isNone=false)/\
 ∀(w:World) (I:Im) (ρ:Nat->Value) (vs:List Value),(∀b j,I b j->b<w.heap.size)->GlI (vF P) w I->Frag w I ρ T->Pw (HoldsC w I ρ) vs args->
  Calls P f vs.toArray w λe w'=> ∃v D h,e= .returned v/\Chg w w' (jS T ρ)/\Same I w w'/\(∀b j,I b j->D b j)/\
   (∀b j,D b j->b<w'.heap.size/\(I b j\/w.heap.size<=b\/jS T ρ b))/\Frag w' D h T'/\Holds w' D h v G/\
   (∀b,jS T' h b->b<w'.heap.size/\(w.heap.size<=b\/jS T ρ b))/\(∀id,keep.contains id=true->look Blk.none T' id≠ .none->h id= ρ id)
def Cap.av:Cap->AV
 | .top=> .top
 | .d x=> .d x
 | .ptr i o=> .ptr i o
 | .row i=> .row i
theorem Cap.holds {ρ:Nat->Value} {c:Cap} (h:HoldsC w I ρ v c):Holds w I ρ v c.av:=by cases c<;>exact h
def zL0:List Cap->Nat->List (Nat×AV)
 | [],_=>[]
 | x::r,k=>(k,x.av)::zL0 r (k+1)
theorem z98 (cs:List Cap):∀(k t:Nat),(k<=t/\∃x,cs[t-k]? =some x/\look AV.top (zL0 cs k) t=x.av)\/look AV.top (zL0 cs k) t= .top:=by
 induction cs with
 | nil=>intro k t;exact .inr rfl
 | cons x ds H=>
  intro k t;simp only[zL0,kB];by_cases e:k=t;subst e;simp;simp only[e,eE];rcases H (k+1) t with ⟨K,y,G,D⟩ | h
  refine .inl ⟨by omega,y,?_,D⟩;have:t-k=(t-(k+1))+1:=by omega
  rw[this];simpa using G;exact .inr h
theorem Chg.refl (w:World) (O:Nat->Prop):Chg w w O:=⟨rfl,rfl,rfl,d9 _,λ_ _ _=>rfl⟩
def Env.gen (gdt:Nat->Option (List Value)) (Z:World) (I0:Im) (hG:GlI gdt Z I0) (K:Nat->Value) (T:List (Nat×Blk)) (keep:List Nat) (n:Nat) (hn:n<=1000000):Env where
 B:=Z.heap.size
 I0:=I0
 n:=n
 fr:=λ_ C w=>(Chg Z w (jS T K)/\Same I0 Z w)/\(∀b j,I0 b j->b<Z.heap.size)/\∀b,¬C b
 wrB:=true
 nle:=hn
 mine:=λb=>Z.heap.size<=b\/jS T K b
 mineB:=λ_ h=> .inl h
 nm:=λid=>if keep.contains id then some (K id) else none
 size:=λ_ _ _ h=>h.1.1.size
 csize:=λ_ _ _ h b hb=>absurd hb (h.2.2 b)
 grow:=λ_ _ w w' h hb=>⟨⟨⟨hb.os.trans h.1.1.os,hb.tape.trans h.1.1.tape,hb.output.trans h.1.1.output,fA h.1.1.size hb.size,λk H D=>(hb.block k (fF H h.1.1.size)).trans (h.1.1.block k H D)⟩,
  λb j hi=>(KeepB.of (hb.block b (fF (h.2.1 b j hi) h.1.1.size))).trans (h.1.2 b j hi)⟩,h.2⟩
 wr:=λ_ _ _ w w' O h G hr hs=>⟨⟨⟨G.os.trans h.1.1.os,G.tape.trans h.1.1.tape,G.output.trans h.1.1.output,fA h.1.1.size G.size,λk H D=>(G.block k (fF H h.1.1.size) (λe=>by
   rcases (hr k e).1 with h1 | h1
   ·omega
   ·exact D h1)).trans (h.1.1.block k H D)⟩,λb j hi=>(hs b j hi).trans (h.1.2 b j hi)⟩,h.2⟩
 turn:=λ_ _ _ w w' l h hl ht hs=>⟨⟨⟨ht.os.trans h.1.1.os,ht.tape.trans h.1.1.tape,ht.output.trans h.1.1.output,by rw[ht.size];exact h.1.1.size,λk H D=>(ht.blk k (by omega)).trans (h.1.1.block k H D)⟩,λb j hi=>(hs b j hi).trans (h.1.2 b j hi)⟩,h.2⟩
 gdt:=gdt
 gl:=λ_ _ w h g zs G j=>⟨(h.1.2 g j (hG g zs G j).2).cell.trans (hG g zs G j).1,(hG g zs G j).2⟩
def CapOf:AV->Cap->Prop
 | _,.top=>True
 | av,c=>av=c.av
theorem CapOf.holds {ρ:Nat->Value} {av:AV} {c:Cap} (h:CapOf av c) (D:Holds w I ρ v av):HoldsC w I ρ v c:=by
 cases c with
 | top=>trivial
 | _=>have e:av=_:=h;rw[e] at D;exact D
section
def RetGS (P:Program) (S:AState):List ResultVar->List Cap->Prop
 | [],ys=>ys= []
 | .tmp t::rs,ys=> ∃y zs,ys=y::zs/\CapOf (S.get t).un y/\RetGS P S rs zs
 | .cell a t::rs,ys=> ∃y zs id e cells,ys=y::zs/\(S.get a).un= .ptr id 0/\S.blk id= .box e cells/\
   ((OneTy P t/\∃av,cells= [av]/\CapOf av y)\/(∃ds,AggTy P t cells.length/\unD cells=some ds/\y= .d (.agg ds)))/\RetGS P S rs zs
def yR4 (P:Program) (fn:Func) (rets:List Cap) (T':List (Nat×Blk)):Exit->AState->Prop
 | .ret,S | .normal,S=>RetGS P S fn.results.toList rets/\zQ8 S T'
 | _,_=>False
theorem RetGS.holds {ρ:Nat->Value} (h:SatAt E S a w I ρ C):∀(l:List ResultVar) (rs:List Cap) (_:RetGS P S l rs),
  ∃xs:List Value,(l.mapM (zW5 a.tmps)).run P w= .ok xs w/\Pw (HoldsC w I ρ) xs rs:=by
 intro l
 induction l with
 | nil=>intro rs hr;cases hr;exact⟨[],by simp,Pw.nil⟩
 | cons x l ih=>
  intro rs hr;cases x with
  | tmp t=>
   obtain⟨y,ys,rfl,h1,h2⟩:=hr;obtain⟨xs,O,D⟩:=ih ys h2;exact⟨_::xs,by simp[iS,zW5,O],Pw.cons (h1.holds (h.tmps t).un) D⟩
  | cell ad t=>
   obtain⟨y,ys,id,e,cells,rfl,h1,h2,h3,h4⟩:=hr;obtain⟨xs,O,D⟩:=ih ys h4;have hp:=(h.tmps ad).un;rw[h1] at hp;obtain⟨b,ah,hv⟩:=hp;have aa:=h.blks id;rw[h2] at aa;obtain⟨b',arr,ai,hB,hh,am,K,hI⟩:=aa;have ao:b'=b:=by rw[ai] at ah;simpa[blockOf] using ah
   subst ao;have G:∀(j:Nat) v,arr.toList[j]? =some v->w.cell? ⟨b',0+j,none⟩=some v:=λj v hj=>by
    rw[fM,gN w b' j arr e (0,0) hh];simpa using hj
   rcases h3 with ⟨ho,av,hc,hd⟩ | ⟨ds,ha,hd,rfl⟩
   ·subst hc
    have ac:=K.1
    match Z:arr.toList,ac with
    | [v0],_=>
     rw[Z] at K G;refine⟨v0::xs,?_,Pw.cons (hd.holds (K.2 0 v0 av rfl rfl)) D⟩;have ab:=G 0 v0 rfl;simp only[gZ] at ab;simp[iS,zW5,hv,asAddr,loadVar,ho.agg,run_load,ab,O]
   ·have ag:=zR6 K hd
    refine⟨.agg arr.toList.toArray::xs,?_,Pw.cons (.agg _ _ ag.1 am ag.2) D⟩;have H:=zDN (P:=P) w ha b' 0 arr.toList K.1 G;simp only[Instr.loadAt,Instr.sureAddr,dP,eQ,dR] at H;simp only[iS,zW5,hv,asAddr,dP,eQ,dR,H,O]
theorem RetGS.run {ρ:Nat->Value} {rs:List Cap} (h:SatAt E S a w I ρ C) (H:RetGS P S fn.results.toList rs):
  ∃v,(results fn a.tmps).run P w= .ok v w/\yFR w I ρ v rs:=by
 obtain⟨xs,K,D⟩:=RetGS.holds h _ _ H;refine⟨_,zOG K,?_⟩;have O:=D.1
 match xs,rs,O,D with
 | [],[],_,G=>exact⟨_,rfl,G⟩
 | [x],[y],_,G=>exact G.2 0 _ y rfl rfl
 | x::u::xs,y::z::ys,_,G=>exact⟨x::u::xs,by simp,G⟩
def GCX (P:Program) (f:FuncId) (args:List Cap) (T:List (Nat×Blk)) (keep:List Nat) (R:World->Im->(Nat->Value)->Value->Prop) (T':List (Nat×Blk)):Prop:=
 (∃fn,P.funcs[f]? =some fn/\(fn.name== "runtime.NumGoroutine")=false/\fn.body.isNone=false)/\
 ∀(w:World) (I:Im) (ρ:Nat->Value) (vs:List Value),(∀b j,I b j->b<w.heap.size)->GlI (vF P) w I->Frag w I ρ T->Pw (HoldsC w I ρ) vs args->
  Calls P f vs.toArray w λe w'=> ∃v D h,e= .returned v/\Chg w w' (jS T ρ)/\Same I w w'/\(∀b j,I b j->D b j)/\
   (∀b j,D b j->b<w'.heap.size/\(I b j\/w.heap.size<=b\/jS T ρ b))/\Frag w' D h T'/\R w' D h v/\
   (∀b,jS T' h b->b<w'.heap.size/\(w.heap.size<=b\/jS T ρ b))/\(∀id,keep.contains id=true->look Blk.none T' id≠ .none->h id= ρ id)
def yJS (RS:AState->Prop) (T':List (Nat×Blk)):Exit->AState->Prop
 | .ret,S | .normal,S=>RS S/\zQ8 S T'
 | _,_=>False
def z58 (T:List (Nat×Blk)) (keep:List Nat) (R:World->Im->(Nat->Value)->Value->Prop) (T':List (Nat×Blk)) (w:World) (I:Im) (ρ:Nat->Value) (v:Value) (w':World):Prop:=
 ∃D h,Chg w w' (jS T ρ)/\Same I w w'/\(∀b j,I b j->D b j)/\
   (∀b j,D b j->b<w'.heap.size/\(I b j\/w.heap.size<=b\/jS T ρ b))/\Frag w' D h T'/\R w' D h v/\
   (∀b,jS T' h b->b<w'.heap.size/\(w.heap.size<=b\/jS T ρ b))/\(∀id,keep.contains id=true->look Blk.none T' id≠ .none->h id= ρ id)
def outQ (P:Program) (fn:Func) (R:Value->World->Prop):Exit->Act->World->Prop:=λe a w=>(e= .normal\/e= .ret)/\OutM P fn a.tmps R a.defers w
theorem yCZ (R:World->Im->(Nat->Value)->Value->Prop) (RS:AState->Prop) (ak:∀(E:Env) (S:AState) (a:Act) (w:World) (I:Im) (ρ:Nat->Value) (C:Nat->Prop),SatAt E S a w I ρ C->RS S->∃v,(results fn a.tmps).run P w= .ok v w/\R w I ρ v)
  {hG:GlI (vF P) w I} {ρ:Nat->Value} {hn2:n<=1000000} {nm':Nat->Option Value} (hk:∀id,keep.contains id=true->nm' id=some (ρ id)) {w':World} {I1:Im} {ag:Nat->Value}
  (O:SatAt {Env.gen (vF P) w I hG ρ T keep n hn2 with nm:=nm'} S a w' I1 ag C) (hr:RS S/\zQ8 S T'):OutM P fn a.tmps (λv w'=>z58 T keep R T' w I ρ v w') a.defers w':=by
 obtain⟨ac,Z⟩:=hr;refine zTR (B:=w.heap.size) a.defers w' O.defers λw2 K ab=>?_;have aa:(Env.gen (vF P) w I hG ρ T keep n hn2).fr S.ghost C w2:=by
  refine⟨⟨⟨K.os.trans O.frame.1.1.os,K.tape.trans O.frame.1.1.tape,K.output.trans O.frame.1.1.output,fA O.frame.1.1.size K.size,λk hk D=>(K.block k hk).trans (O.frame.1.1.block k hk D)⟩,λb j hi=>(ab.same (I:=I) b j hi).trans (O.frame.1.2 b j hi)⟩,O.frame.2⟩
 have G:=O.taken ab aa;obtain⟨v,h1,h2⟩:=ak _ _ _ _ _ _ _ G ac;have key:∀id,look Blk.none T' id≠ .none->S.blk id=look Blk.none T' id:=λid D=>by
  rcases zOL Z id with h | h
  ·exact absurd h D
  ·exact h
 have H:∀id,look Blk.none T' id≠ .none->S.blk id≠ .none:=λid D=>by rw[key id D];exact D
 refine⟨v,h1,I1,ag,aa.1.1,aa.1.2,λb j hi=>G.sub b j hi,λb j hi=>⟨(G.old b j hi).1,?_⟩,⟨λid=>?_,λid ad b D h1 h2=>G.dist id ad b D (H id h1) (H ad h2)⟩,h2,λb hb=>?_,λid am D=>?_⟩
 ·rcases (G.old b j hi).2 with h | h
  ·exact .inl h
  ·exact .inr h
 ·rcases zOL Z id with h | h
  ·rw[h];trivial
  ·rw[<-h];exact(G.blks id).mineM λ_ _ _ _=>trivial
 ·obtain⟨id,D,al⟩:=hb
  have:=G.blt id b (H id D) al;exact⟨this.2,this.1⟩
 ·exact G.nm id (ρ id) (hk id am) (H id D)
theorem yC0 (hn:args.length<=n) (hn2:n<=1000000) {ρ:Nat->Value} (hI:∀b j,I b j->b<w.heap.size) (hG:GlI (vF P) w I) (D:Frag w I ρ T) (H:Pw (HoldsC w I ρ) vs args):
  Sat (Env.gen (vF P) w I hG ρ T keep n hn2) ⟨zL0 args 0,T⟩ {tmps:=vs.toArray++Array.replicate (n-vs.toArray.size) undef,defers:=[]} w:=by
 have G:vs.length=args.length:=H.1;refine⟨I,ρ,λ_=>False,⟨λt=>?_,λi=>?_,D.dist,⟨⟨Chg.refl _ _,jJ I w⟩,hI,λ_ h=>h⟩,λ_ _ h=>h,λb j h=>⟨hI b j h,.inl h⟩,by simp[Env.gen];omega,DefOk.nil,λ_ _ _ h=>h,λ_ _ _ _ h=>h,λid v K _=>?_⟩⟩
 ·rcases z98 args 0 t with ⟨_,x,hx,hl⟩ | hl
  ·show Holds _ _ _ _ (look AV.top (zL0 args 0) t)
   rw[hl];simp only[Nat.sub_zero] at hx;have ht:t<vs.length:=by rw[G];exact(dV.1 hx).1
   refine Cap.holds (H.2 t _ x ?_ hx);simp[dZ,Array.getElem?_append,ht]
  ·show Holds _ _ _ _ (look AV.top (zL0 args 0) t)
   rw[hl];trivial
 ·exact(D.ok i).mineM λb Z O _=> .inr ⟨i,Z,O⟩
 ·simp only[Env.gen] at K
  split at K
  ·cases K;rfl
  ·cases K
theorem z59 (R:World->Im->(Nat->Value)->Value->Prop) (RS:AState->Prop) (K:∀(E:Env) (S:AState) (a:Act) (w:World) (I:Im) (ρ:Nat->Value) (C:Nat->Prop),SatAt E S a w I ρ C->RS S->∃v,(results fn a.tmps).run P w= .ok v w/\R w I ρ v) (hf:P.funcs[f]? =some fn) (hb:fn.body=some c) (hn:args.length<=fn.ntmps) (hn2:fn.ntmps<=1000000)
  (h:∀w0 I0 hG Z,Avc P none (Env.gen (vF P) w0 I0 hG Z T keep fn.ntmps hn2) c (yJS RS T') ⟨zL0 args 0,T⟩)
  {ρ:Nat->Value} (hI:∀b j,I b j->b<w.heap.size) (hG:GlI (vF P) w I) (D:Frag w I ρ T) (O:Pw (HoldsC w I ρ) vs args):
  c.wpIn (fen none) 0 P (outQ P fn (λv w'=>z58 T keep R T' w I ρ v w')) {tmps:=vs.toArray++Array.replicate (fn.ntmps-vs.toArray.size) undef,defers:=[]} w:=by
 refine g7 (h w I hG ρ _ w (yC0 hn hn2 hI hG D O)) ?_
 rintro e a w' ⟨S,H,I1,aj,C,hs⟩
 have G:RS S/\zQ8 S T'->OutM P fn a.tmps (λv w'=>z58 T keep R T' w I ρ v w') a.defers w':=λhr=>
  yCZ R RS K (hG:=hG) (hn2:=hn2) (nm':=(Env.gen (vF P) w I hG ρ T keep fn.ntmps hn2).nm) (λid hk=>by simp only[Env.gen];rw[eG hk]) hs hr
 cases e with
 | normal=>exact⟨.inl rfl,G H⟩
 | ret=>exact⟨.inr rfl,G H⟩
 | _=>exact H.elim
theorem outQ.marks {R:Value->World->Prop} {R':Ending->World->Prop} (D:∀v w,R v w->R' (.returned v) w) {e:Exit} (h:outQ P fn R e a w):bodyPostM (fen none) 0 P fn R' e a w:=by obtain⟨rfl | rfl,h⟩:=h;exact OutM.leaves D _ _ h;exact OutM.leaves D _ _ h
theorem yJT (R:World->Im->(Nat->Value)->Value->Prop) (RS:AState->Prop) (H:∀(E:Env) (S:AState) (a:Act) (w:World) (I:Im) (ρ:Nat->Value) (C:Nat->Prop),SatAt E S a w I ρ C->RS S->∃v,(results fn a.tmps).run P w= .ok v w/\R w I ρ v) (K:P.funcs[f]? =some fn) (G:(fn.name== "runtime.NumGoroutine")=false) (hb:fn.body=some c) (hn:args.length<=fn.ntmps) (hn2:fn.ntmps<=1000000)
  (h:∀w0 I0 hG aa,Avc P none (Env.gen (vF P) w0 I0 hG aa T keep fn.ntmps hn2) c (yJS RS T') ⟨zL0 args 0,T⟩):GCX P f args T keep R T':=by
 refine⟨⟨fn,K,G,by simp[hb]⟩,λw I ρ vs hI hG D O=>?_⟩;refine g8 (n:=0) |>.1 (callsIn_of_wp_marks K hb trivial ?_)
 exact g7 (z59 R RS H K hb hn hn2 h hI hG D O) λe a w' hq=>hq.marks λv w' ⟨I',Z,hp⟩=>⟨v,I',Z,rfl,hp⟩
theorem wJ (K:P.funcs[f]? =some fn) (D:(fn.name== "runtime.NumGoroutine")=false) (hb:fn.body=some c) (O:args.length<=fn.ntmps) (hn2:fn.ntmps<=1000000)
  (h:∀w0 H hG G,Avc P none (Env.gen (vF P) w0 H hG G T keep fn.ntmps hn2) c (yR4 P fn rets T') ⟨zL0 args 0,T⟩):GC P f args T keep rets T':=
 yJT (λw I ρ v=>yFR w I ρ v rets) (λS=>RetGS P S fn.results.toList rets) (λ_ _ _ _ _ _ _ hs Z=>RetGS.run hs Z) K D hb O hn2 h
theorem yJU {D:AV} {K:Nat} (hf:P.funcs[f]? =some fn) (G:(fn.name== "runtime.NumGoroutine")=false) (hb:fn.body=some c) (hn:args.length<=fn.ntmps) (hn2:fn.ntmps<=1000000) (H:fn.results= #[.tmp K])
  (h:∀w0 Z hG O,Avc P none (Env.gen (vF P) w0 Z hG O T keep fn.ntmps hn2) c (yJS (λS=>(S.get K).un=D) T') ⟨zL0 args 0,T⟩):GCA P f args T keep D T':=
 yJT (λw I ρ v=>Holds w I ρ v D) (λS=>(S.get K).un=D) (λE S a w I ρ C hs hr=>⟨_,zOG (xs:=[a.tmps.getD K undef]) (by rw[H];simp[zW5]),by
  have:=(hs.tmps K).un;rw[hr] at this;exact this⟩) hf G hb hn hn2 h
end
def Cap.ren (σ:List (Nat×Nat)):Cap->Cap
 | .ptr i o=> .ptr (look 0 σ i) o
 | .row i=> .row (look 0 σ i)
 | c=>c
def AV.ren (σ:List (Nat×Nat)):AV->AV
 | .row i=> .row (look 0 σ i)
 | .ptr i o=> .ptr (look 0 σ i) o
 | .rs i o n=> .rs (look 0 σ i) o n
 | .wp i o=> .wp (look 0 σ i) o
 | .ws i o n tt=> .ws (look 0 σ i) o n tt
 | .cond g x=> .cond g (x.ren σ)
 | .clo f h=> .clo f (h.map (Cap.ren σ))
 | .tupc h=> .tupc (h.map (Cap.ren σ))
 | .aggc h=> .aggc (h.map (Cap.ren σ))
 | x=>x
def Blk.ren (σ:List (Nat×Nat)):Blk->Blk
 | .box e cells=> .box e (cells.map (AV.ren σ))
 | b=>b
def renL (σ:List (Nat×Nat)) (T:List (Nat×Blk)):List (Nat×Blk):=T.map λp=>(look 0 σ p.1,p.2.ren σ)
def xR (σ:List (Nat×Nat)) (k:Nat):Bool:=σ.any λp=>Nat.beq p.1 k
def Cap.idsLt (σ:List (Nat×Nat)):Cap->Bool
 | .ptr i _=>xR σ i
 | .row i=>xR σ i
 | _=>true
def AV.idsLt (σ:List (Nat×Nat)):AV->Bool
 | .row i=>xR σ i
 | .ptr i _=>xR σ i
 | .rs i _ _=>xR σ i
 | .wp i _=>xR σ i
 | .ws i _ _ _=>xR σ i
 | .cond _ x=>x.idsLt σ
 | .clo _ h=>h.all (Cap.idsLt σ)
 | .tupc h=>h.all (Cap.idsLt σ)
 | .aggc h=>h.all (Cap.idsLt σ)
 | _=>true
def Blk.idsLt (σ:List (Nat×Nat)):Blk->Bool
 | .box _ cells=>cells.all (AV.idsLt σ)
 | _=>true
section
theorem HoldsC.ren {σ:List (Nat×Nat)} {ρ D:Nat->Value} {c:Cap} (h:∀k,xR σ k=true->D (look 0 σ k)= ρ k) (G:c.idsLt σ =true):HoldsC w I ρ v c↔HoldsC w I D v (c.ren σ):=by
 cases c with
 | top=>exact Iff.rfl
 | d x=>exact Iff.rfl
 | ptr i o=>
  have:xR σ i=true:=G;simp only[HoldsC,Cap.ren,h i this]
 | row i=>
  have:xR σ i=true:=G;simp only[HoldsC,Cap.ren,h i this]
theorem zR8 {Z β γ:Type} {R: Z->β->Prop} {R': Z->γ->Prop} {f: β->γ} {xs:List Z} {ys:List β} (h:∀x y,y∈ys->(R x y↔R' x (f y))):Pw R xs ys↔Pw R' xs (ys.map f):=by
 constructor
 rintro⟨H,K⟩
 refine⟨by simpa using H,λj x y O D=>?_⟩;rw[e7] at D;cases G:ys[j]? with
 | none=>simp[G] at D
 | some y'=>simp[G] at D;subst D;exact(h x y' (fH G)).1 (K j x y' O G)
 rintro⟨H,K⟩
 refine⟨by simpa using H,λj x y O D=>?_⟩;exact(h x y (fH D)).2 (K j x (f y) O (by simp[D]))
theorem HoldsC.renL {σ:List (Nat×Nat)} {ρ h:Nat->Value} (D:∀k,xR σ k=true->h (look 0 σ k)= ρ k) {xs:List Value} (G:cs.all (Cap.idsLt σ)=true):Pw (HoldsC w I ρ) xs cs↔Pw (HoldsC w I h) xs (cs.map (Cap.ren σ)):=
 zR8 λx y H=>HoldsC.ren D (eO.1 G y H)
theorem Holds.ren {σ : List (Nat × Nat)} {ρ ρ' : Nat -> Value} (hρ : ∀ k, xR σ k = true -> ρ' (look 0 σ k) = ρ k) : ∀ {x : AV}, x.idsLt σ = true -> (Holds w I ρ v x ↔ Holds w I ρ' v (x.ren σ)) := by
  intro x
  induction x with
  | row i => intro hn; have : xR σ i = true := hn
             simp only[Holds, AV.ren, hρ i this]
  | ptr i o => intro hn; have : xR σ i = true := hn
               simp only[Holds, AV.ren, hρ i this]
  | rs i o m => intro hn; have : xR σ i = true := hn
                simp only[Holds, AV.ren, hρ i this]
  | wp i o => intro hn; have : xR σ i = true := hn
              simp only[Holds, AV.ren, hρ i this]
  | ws i o m tt => intro hn; have : xR σ i = true := hn
                   simp only[Holds, AV.ren, hρ i this]
  | cond g x ih => intro hn; simp only[Holds, AV.ren, ih hn]
  | clo f caps => intro hn; simp only[Holds, AV.ren]; constructor
                  · rintro⟨xs, h1, h2⟩; exact⟨xs, h1, (HoldsC.renL hρ hn).1 h2⟩
                  · rintro⟨xs, h1, h2⟩; exact⟨xs, h1, (HoldsC.renL hρ hn).2 h2⟩
  | tupc caps => intro hn; simp only[Holds, AV.ren]; constructor
                 · rintro⟨xs, h1, h2⟩; exact⟨xs, h1, (HoldsC.renL hρ hn).1 h2⟩
                 · rintro⟨xs, h1, h2⟩; exact⟨xs, h1, (HoldsC.renL hρ hn).2 h2⟩
  | aggc caps => intro hn; simp only[Holds, AV.ren]; constructor
                 · rintro⟨xs, h1, h2, h3⟩; exact⟨xs, h1, (HoldsC.renL hρ hn).1 h2, h3⟩
                 · rintro⟨xs, h1, h2, h3⟩; exact⟨xs, h1, (HoldsC.renL hρ hn).2 h2, h3⟩
  | top => intro _; exact Iff.rfl
  | d x => intro _; exact Iff.rfl
  | ip c o => intro _; exact Iff.rfl
  | tup ds => intro _; exact Iff.rfl
  | gh k => intro _; exact Iff.rfl
theorem BlkOk.ren {σ:List (Nat×Nat)} {ρ D:Nat->Value} {M:Nat->Prop} (h:∀k,xR σ k=true->D (look 0 σ k)= ρ k) (G:xR σ k=true) {x:Blk} (hn:x.idsLt σ =true):BlkOk w I ρ M k x↔BlkOk w I D M (look 0 σ k) (x.ren σ):=by
 cases x with
 | none=>exact Iff.rfl
 | row e size sh cells=>simp only[BlkOk,Blk.ren,h k G]
 | map es=>simp only[BlkOk,Blk.ren,h k G]
 | it es q=>simp only[BlkOk,Blk.ren,h k G]
 | win e size k' cells=>simp only[BlkOk,Blk.ren,h k G]
 | box e cells=>
  simp only[BlkOk,Blk.ren,h k G];have:∀arr:Array Value,Pw (Holds w I ρ) arr.toList cells↔Pw (Holds w I D) arr.toList (cells.map (AV.ren σ)):=λarr=>
   zR8 λx y hy=>Holds.ren h (eO.1 hn y hy)
  constructor
  rintro⟨b,arr,H,K,O,Z,h5,h6⟩;exact⟨b,arr,H,K,O,Z,(this arr).1 h5,h6⟩
  rintro⟨b,arr,H,K,O,Z,h5,h6⟩;exact⟨b,arr,H,K,O,Z,(this arr).2 h5,h6⟩
theorem HoldsC.agree {ρ D:Nat->Value} {c:Cap} (h:HoldsC w I ρ v c) (G:∀id,c.mentions id=true->D id= ρ id):HoldsC w I D v c:=by
 cases c with
 | top=>trivial
 | d x=>exact h
 | ptr i o=>simpa only[HoldsC,G i (by simp[Cap.mentions])] using h
 | row i=>simpa only[HoldsC,G i (by simp[Cap.mentions])] using h
theorem Holds.agree {ρ ab:Nat->Value}:∀{x:AV},Holds w I ρ v x->(∀id,x.mentions id=true->ab id= ρ id)->Holds w I ab v x:=by
 intro x
 induction x with
 | row i=>intro h D;simpa only[Holds,D i (by simp[AV.mentions])] using h
 | ptr i o=>intro h D;simpa only[Holds,D i (by simp[AV.mentions])] using h
 | rs i o m=>intro h D;simpa only[Holds,D i (by simp[AV.mentions])] using h
 | wp i o=>intro h D;simpa only[Holds,D i (by simp[AV.mentions])] using h
 | ws i o m tt=>intro h D;simpa only[Holds,D i (by simp[AV.mentions])] using h
 | cond g x ih=>intro h D;exact⟨λhg=>ih (h.1 hg) (λid O=>D id (by simpa[AV.mentions] using O)),h.2⟩
 | clo f G=>
  rintro⟨xs,Z,H⟩ D
  exact⟨xs,Z,H.1,λj x c hx K=>(H.2 j x c hx K).agree λid O=>D id (by simp only[AV.mentions,gX];exact⟨c,fH K,O⟩)⟩
 | tupc G=>
  rintro⟨xs,Z,H⟩ D
  exact⟨xs,Z,H.1,λj x c hx K=>(H.2 j x c hx K).agree λid O=>D id (by simp only[AV.mentions,gX];exact⟨c,fH K,O⟩)⟩
 | aggc G=>
  rintro⟨xs,Z,H,h3⟩ D
  exact⟨xs,Z,⟨H.1,λj x c hx K=>(H.2 j x c hx K).agree λid O=>D id (by simp only[AV.mentions,gX];exact⟨c,fH K,O⟩)⟩,h3⟩
 | top=>intro h _;exact h
 | d x=>intro h _;exact h
 | ip c o=>intro h _;exact h
 | tup ds=>intro h _;exact h
 | gh k=>intro h _;exact h
end
def zLB (ks:List Nat) (x:AV):AV:=if ks.any (λk=>x.mentions k) then .top else x
def zD1 (ks:List Nat):Blk->Blk
 | .box e cells=> .box e (cells.map (zLB ks))
 | b=>b
def AState.killL (S:AState) (ks:List Nat):AState:=
 {tmps:=S.tmps.map λp=>(p.1,zLB ks p.2),blks:=S.blks.map λp=>(p.1,zD1 ks p.2)}
theorem zPO (S:AState) (ks:List Nat) (t:Nat):(S.killL ks).get t=zLB ks (S.get t):=zR3 _ _ (by simp[zLB,AV.mentions]) _ _
theorem zTZ (S:AState) (ks:List Nat) (i:Nat):(S.killL ks).blk i=zD1 ks (S.blk i):=zR3 _ _ rfl _ _
theorem zLN {ρ D:Nat->Value} {x:AV} (h:Holds w I ρ v x) (H:∀id,ks.contains id=false->D id= ρ id):Holds w I D v (zLB ks x):=by
 unfold zLB;split;trivial;rename_i O;refine h.agree λid G=>H id ?_;cases K:ks.contains id with
 | false=>rfl
 | true=>
  exfalso;apply O;simp only[gX];exact⟨id,by simpa using K,G⟩
theorem z6A (ks:List Nat) (x:AV):(match zLB ks x with | .gh k=>k | _=>0)=(match x with | .gh k=>k | _=>0):=by
 unfold zLB;by_cases h:(ks.any λk=>x.mentions k)=true;simp only[h,eK];cases x<;>first | rfl | (simp[AV.mentions] at h)
 simp only[h];rfl
def AState.setL (S:AState) (T:List (Nat×Blk)):AState:={S with blks:=T++S.blks}
theorem zLC {G:Type} (D: G) (l m:List (Nat×G)) (k:Nat):look D (l++m) k=if l.any (λp=>Nat.beq p.1 k) then look D l k else look D m k:=by
 induction l with
 | nil=>simp[look]
 | cons p l K=>
  obtain⟨i,x⟩:=p;simp only[fV,look,List.any_cons];by_cases h:Nat.beq i k=true;simp[h];have H:Nat.beq i k=false:=iM.2 h;simp only[H,K,fo];simp
def ArgsAs (σ:List (Nat×Nat)):List AV->List Cap->Prop
 | [],[]=>True
 | x::xs,c::cs=>CapOf x (c.ren σ)/\ArgsAs σ xs cs
 | _,_=>False
theorem ArgsAs.holds {ρ G:Nat->Value} {σ:List (Nat×Nat)} (K:∀k,xR σ k=true->G (look 0 σ k)= ρ k):∀{vs:List Value} {xs:List AV} {cs:List Cap},ArgsAs σ xs cs->cs.all (Cap.idsLt σ)=true->Pw (Holds w I G) vs xs->Pw (HoldsC w I ρ) vs cs:=by
 intro vs xs
 induction xs generalizing vs with
 | nil=>
  intro cs h _ D;cases cs with
  | nil=>exact⟨D.1,λj x y hx Z=>by simp at Z⟩
  | cons c cs=>exact h.elim
 | cons x xs ih=>
  intro cs h H D;cases cs with
  | nil=>exact h.elim
  | cons c cs=>
   cases vs with
   | nil=>have:=D.1;simp at this
   | cons v vs=>
    simp only[iK,eC] at H;refine Pw.cons ((HoldsC.ren K H.1).2 (h.1.holds (D.2 0 v x rfl rfl))) (ih h.2 H.2 ⟨by have:=D.1;simpa using this,λj a b O hb=>D.2 (j+1) a b (by simpa using O) (by simpa using hb)⟩)
def BlksAs (S:AState) (σ:List (Nat×Nat)):List (Nat×Blk)->Prop
 | []=>True
 | (k,x)::T=>S.blk (look 0 σ k)=x.ren σ/\BlksAs S σ T
theorem BlksAs.look {σ:List (Nat×Nat)}:∀{T:List (Nat×Blk)},BlksAs S σ T->∀k,look Blk.none T k≠ .none->S.blk (look 0 σ k)=(look Blk.none T k).ren σ
 | [],_,k,h=>absurd rfl h
 | (i,x)::T,h,k,D=>by
  rw[kB] at D ⊢;by_cases e:i=k;subst e;simp only[eK];exact h.1;simp only[e,eE] at D ⊢;exact BlksAs.look h.2 k D
def zOO:List Cap->AV
 | [c]=>c.av
 | cs=> .tupc cs
theorem yJV {σ:List (Nat×Nat)} {x:Blk}:x.ren σ≠ .none↔x≠ .none:=by cases x<;>simp[Blk.ren]
def zI4 (σ:List (Nat×Nat)) (keep:List Nat) (T':List (Nat×Blk)):List Nat:=
 σ.filterMap λq=>if keep.contains q.1&&T'.any (λp=>Nat.beq p.1 q.1) then none else some q.2
def zL1 (σ:List (Nat×Nat)) (T T':List (Nat×Blk)):List (Nat×Blk):=
 (T.filter λp=>!T'.any (λq=>Nat.beq q.1 p.1)).map λp=>(look 0 σ p.1,Blk.none)
theorem BlkOk.agree {ρ G:Nat->Value} {M:Nat->Prop} {i:Nat} {x:Blk} (h:BlkOk w I ρ M i x) (hi: G i= ρ i) (ha:∀id,ks.contains id=false->G id= ρ id):BlkOk w I G M i (zD1 ks x):=by
 cases x with
 | none=>trivial
 | row e size sh cells=>simpa only[BlkOk,zD1,hi] using h
 | map es=>simpa only[BlkOk,zD1,hi] using h
 | it es q=>simpa only[BlkOk,zD1,hi] using h
 | win e size k cells=>simpa only[BlkOk,zD1,hi] using h
 | box e cells=>
  obtain⟨b,arr,Z,h2,h3,h4,O,h6⟩:=h;refine⟨b,arr,by rw[hi];exact Z,h2,h3,h4,⟨by simpa using O.1,λj y av hj D=>?_⟩,h6⟩
  rw[e7] at D;cases K:cells[j]? with
  | none=>simp[K] at D
  | some H=>simp[K] at D;subst D;exact zLN (O.2 j y H hj K) ha
theorem yC1 {x:Blk}:zD1 ks x≠ .none↔x≠ .none:=by cases x<;>simp[zD1]
structure Ren (σ:List (Nat×Nat)):Prop where
 keys:(σ.map Prod.fst).Nodup
 vals:(σ.map Prod.snd).Nodup
theorem zED {σ:List (Nat×Nat)} (h:xR σ k=true):(k,look 0 σ k)∈σ:=by
 induction σ with
 | nil=>simp[xR] at h
 | cons p σ D=>
  obtain⟨i,x⟩:=p;rw[kB];by_cases e:i=k;subst e;simp;simp only[e,eE];have hb:Nat.beq i k=false:=iM.2 λh=>e (iG h);simp only[xR,List.any_cons,hb,fo] at h;exact gI _ (D h)
theorem yFS {σ:List (Nat×Nat)} {x:Nat} (h:(k,x)∈σ):xR σ k=true:=by simp only[xR,gX];exact⟨(k,x),h,by simp[iN]⟩
theorem z6B {σ:List (Nat×Nat)} (D:(σ.map Prod.fst).Nodup) {x:Nat} (h:(k,x)∈σ):look 0 σ k=x:=by
 induction σ with
 | nil=>simp at h
 | cons p σ G=>
  obtain⟨i,y⟩:=p;rw[kB];simp only[fp,List.nodup_cons] at D;rcases eP.1 h with h | h;cases h;simp;have:i≠k:=λe=>D.1 (fL.2 ⟨(k,x),h,e.symm⟩);simp only[this,eE];exact G D.2 h
theorem yOT {σ:List (Nat×Nat)} (D:(σ.map Prod.snd).Nodup) {k' x:Nat} (h:(k,x)∈σ) (H:(k',x)∈σ):k=k':=by
 induction σ with
 | nil=>simp at h
 | cons p σ K=>
  simp only[fp,List.nodup_cons] at D;rcases eP.1 h with G | G<;>rcases eP.1 H with h2 | h2
  rw[<-G] at h2;exact(Prod.mk.inj h2).1.symm;exact absurd (fL.2 ⟨_,h2,by rw[<-G]⟩) D.1;exact absurd (fL.2 ⟨_,G,by rw[<-h2]⟩) D.1;exact K D.2 G h2
theorem z6C {σ:List (Nat×Nat)} (h:Ren σ) {k':Nat} (G:xR σ k=true) (D:xR σ k'=true) (e:look 0 σ k=look 0 σ k'):k=k':=
 yOT h.vals (zED G) (by rw[e];exact zED D)
theorem zJH {σ:List (Nat×Nat)} (h:xR σ k=true):look 0 σ k∈σ.map Prod.snd:=fL.2 ⟨_,zED h,rfl⟩
theorem z6D {σ:List (Nat×Nat)} (D:Ren σ) {i:Nat} (h:i∈σ.map Prod.snd):∃k,xR σ k=true/\look 0 σ k=i:=by obtain⟨⟨k,x⟩,G,rfl⟩:=fL.1 h;exact⟨k,yFS G,z6B D.keys G⟩
theorem zT0 {σ:List (Nat×Nat)} (D:Ren σ):∀{T:List (Nat×Blk)},(∀p∈T,xR σ p.1=true)->∀{k:Nat},xR σ k=true->look Blk.none (renL σ T) (look 0 σ k)=(look Blk.none T k).ren σ
 | [],_,k,_=>rfl
 | (i,x)::T,h,k,G=>by
  show look Blk.none ((look 0 σ i,x.ren σ)::renL σ T) (look 0 σ k)=_;rw[kB,kB];by_cases e:i=k;subst e;simp;have:look 0 σ i≠look 0 σ k:=λH=>e (z6C D (h (i,x) (by simp)) G H);simp only[this,e,eE];exact zT0 D (λp K=>h p (by simp[K])) G
theorem z6E (h:∀p∈T,p.2≠ .none) (k:Nat):T.any (λp=>Nat.beq p.1 k)=true↔look Blk.none T k≠ .none:=by
 induction T with
 | nil=>simp[look]
 | cons p T G=>
  obtain⟨i,x⟩:=p;rw[kB,List.any_cons];by_cases e:i=k;subst e;simp[iN,h (i,x) (by simp)];have:Nat.beq i k=false:=iM.2 λh=>e (iG h);simp only[this,fo,e,eE];exact G λp D=>h p (by simp[D])
def Blk.isSome:Blk->Bool
 | .none=>false
 | _=>true
def uS (σ:List (Nat×Nat)) (T:List (Nat×Blk)):Bool:=T.all λp=>xR σ p.1&&p.2.idsLt σ &&p.2.isSome
theorem zOP {σ:List (Nat×Nat)} (h:uS σ T=true):∀p∈T,xR σ p.1=true/\p.2.idsLt σ =true/\p.2≠ .none:=by intro p D;have:=eO.1 h p D;simp only[eC] at this;refine⟨this.1.1,this.1.2,λe=>?_⟩;rw[e] at this;simp[Blk.isSome] at this
theorem zL2 (h:look Blk.none T k≠ .none):(k,look Blk.none T k)∈T:=by
 induction T with
 | nil=>exact absurd rfl h
 | cons p T D=>
  obtain⟨i,x⟩:=p;rw[kB] at h ⊢;by_cases e:i=k;subst e;simp;simp only[e,eE] at h ⊢;exact gI _ (D h)
theorem yFT {σ:List (Nat×Nat)} (i:Nat):look Blk.none (zL1 σ T T') i= .none:=by
 unfold zL1
 induction (T.filter λp=>!T'.any (λq=>Nat.beq q.1 p.1)) with
 | nil=>rfl
 | cons p l h=>rw[fp,kB];split;rfl;exact h
def zPP (S:AState) (σ:List (Nat×Nat)) (T:List (Nat×Blk)):Prop:= ∀k,xR σ k=true->look Blk.none T k= .none->S.blk (look 0 σ k)= .none
section
theorem zU4 {σ:List (Nat×Nat)} {ρ:Nat->Value} (ab:Ren σ) (hT:BlksAs S σ T) (aa:uS σ T=true) (hs:SatAt E S A w I ρ C):Frag w I (λk=>ρ (look 0 σ k)) T:=by
 have H:=zOP aa
 let O:Nat->Value:=λk=>ρ (look 0 σ k)
 have K:∀k,xR σ k=true->ρ (look 0 σ k)= O k:=λ_ _=>rfl;have G:∀k,look Blk.none T k≠ .none->xR σ k=true/\(look Blk.none T k).idsLt σ =true/\S.blk (look 0 σ k)=(look Blk.none T k).ren σ/\S.blk (look 0 σ k)≠ .none:=λk h=>by
  have:=H _ (zL2 h);have Z:=hT.look k h;exact⟨this.1,this.2.1,Z,by rw[Z];exact yJV.2 h⟩
 have D:Frag w I O T:=by
  refine⟨λk=>?_,λk k' b h h1 Z hb=>?_⟩;by_cases h:look Blk.none T k= .none;rw[h];trivial;obtain⟨t1,t2,t3,_⟩:=G k h;have:=hs.blks (look 0 σ k);rw[t3] at this;exact((BlkOk.ren K t1 t2).2 this).mineM λ_ _ _ _=>trivial;obtain⟨t1,_,_,t4⟩:=G k h1;obtain⟨u1,_,_,u4⟩:=G k' Z;exact hs.dist _ _ b (λe=>h (z6C ab t1 u1 e)) t4 u4 hb
 exact D
theorem zXG {σ:List (Nat×Nat)} {w':World} {I':Im} {ρ ai:Nat->Value} (aw:Ren σ) (hT:BlksAs S σ T) (bx:uS σ T=true) (bn:uS σ T'=true) (ca:zPP S σ T)
  (cc:∀k,xR σ k=true->E.nm (look 0 σ k)=none\/(keep.contains k=true/\look Blk.none T k≠ .none/\look Blk.none T' k≠ .none)) (hE:E.wrB=true) (hs:SatAt E S A w I ρ C)
  (ap:Chg w w' (jS T (λk=>ρ (look 0 σ k)))) (am:Same I w w') (au:∀b j,I b j->I' b j) (ao:∀b j,I' b j->b<w'.heap.size/\(I b j\/w.heap.size<=b\/jS T (λk=>ρ (look 0 σ k)) b)) (an:Frag w' I' ai T')
  (ak:∀b,jS T' ai b->b<w'.heap.size/\(w.heap.size<=b\/jS T (λk=>ρ (look 0 σ k)) b)) (ar:∀id,keep.contains id=true->look Blk.none T' id≠ .none->ai id= ρ (look 0 σ id)):
  ∃ag,SatAt E ((S.killL (zI4 σ keep T')).setL (renL σ T'++zL1 σ T T')) A w' I' ag C/\∀k,xR σ k=true->ag (look 0 σ k)= ai k:=by
 have ax:=zOP bx;have D:=zOP bn
 let bb:Nat->Value:=λk=>ρ (look 0 σ k)
 have ch:∀k,xR σ k=true->ρ (look 0 σ k)= bb k:=λ_ _=>rfl;have bv:∀k,look Blk.none T k≠ .none->xR σ k=true/\(look Blk.none T k).idsLt σ =true/\S.blk (look 0 σ k)=(look Blk.none T k).ren σ/\S.blk (look 0 σ k)≠ .none:=λk H=>by
  have:=ax _ (zL2 H);have h2:=hT.look k H;exact⟨this.1,this.2.1,h2,by rw[h2];exact yJV.2 H⟩
 let ce:Nat->Nat:=λi=>look 0 (σ.map λp=>(p.2,p.1)) i
 let ag:Nat->Value:=λi=>if i∈σ.map Prod.snd then ai (ce i) else ρ i
 have O:∀k,xR σ k=true->ag (look 0 σ k)= ai k:=λk hk=>by
  simp only[ag,zJH hk,eK];congr 1;refine z6B (σ:=σ.map λp=>(p.2,p.1)) ?_ (fL.2 ⟨_,zED hk,rfl⟩);rw[List.map_map];exact aw.vals
 have ad:∀i,i∉σ.map Prod.snd->ag i= ρ i:=λi hi=>by simp only[ag,hi,eE]
 have agree:∀id,(zI4 σ keep T').contains id=false->ag id= ρ id:=by
  intro id hl;by_cases hm:id∈σ.map Prod.snd
  ·obtain⟨k,hk,rfl⟩:=z6D aw hm
   rw[O k hk];by_cases az:(keep.contains k&&T'.any (λp=>Nat.beq p.1 k))=true
   ·simp only[eC] at az
    exact ar k az.1 ((z6E (λp hp=>(D p hp).2.2) k).1 az.2)
   ·exfalso
    have:(zI4 σ keep T').contains (look 0 σ k)=true:=by
     rw[im];unfold zI4;rw[List.mem_filterMap];exact⟨_,zED hk,by rw[dU az]⟩
    rw[this] at hl;cases hl
  ·exact ad id hm
 have bf:∀b,jS T bb b->∃k,xR σ k=true/\look Blk.none T k≠ .none/\S.blk (look 0 σ k)≠ .none/\blockOf (ρ (look 0 σ k))=some b:=by
  rintro b ⟨k,h1,h2⟩
  obtain⟨t1,_,_,t4⟩:=bv k h1;exact⟨k,t1,h1,t4,h2⟩
 have h:∀b,jS T bb b->E.mine b/\b<w.heap.size/\¬C b/\∃o,w.heap[b]? =some o/\isData o=true:=by
  intro b hb;obtain⟨k,_,_,h3,h4⟩:=bf b hb;exact⟨(hs.blt _ b h3 h4).1,(hs.blt _ b h3 h4).2,hs.cB _ b h3 h4,hs.cellBlk h3 h4⟩
 let S1:=(S.killL (zI4 σ keep T')).setL (renL σ T'++zL1 σ T T')
 have bh:∀k,look Blk.none T' k≠ .none->S1.blk (look 0 σ k)=(look Blk.none T' k).ren σ/\xR σ k=true:=by
  intro k H;have hm:=D _ (zL2 H);refine⟨?_,hm.1⟩;show look Blk.none ((renL σ T'++zL1 σ T T')++(S.killL (zI4 σ keep T')).blks) (look 0 σ k)=_;have ha:(renL σ T').any (λp=>Nat.beq p.1 (look 0 σ k))=true:=by
   simp only[gX];exact⟨(look 0 σ k,(look Blk.none T' k).ren σ),fL.2 ⟨_,zL2 H,rfl⟩,by simp[iN]⟩
  rw[dW,zLC,eG ha,zT0 aw (λp hp=>(D p hp).1) hm.1]
 have K:∀i,S1.blk i≠ .none->(∃k,xR σ k=true/\look Blk.none T' k≠ .none/\i=look 0 σ k)\/(i∉σ.map Prod.snd/\S1.blk i=zD1 (zI4 σ keep T') (S.blk i)/\S.blk i≠ .none):=by
  intro i H;by_cases hm:i∈σ.map Prod.snd
  ·obtain⟨k,hk,rfl⟩:=z6D aw hm
   by_cases Z:look Blk.none T' k= .none
   ·exfalso
    apply H;show look Blk.none ((renL σ T'++zL1 σ T T')++(S.killL (zI4 σ keep T')).blks) (look 0 σ k)=_;rw[dW,zLC];split
    ·rw[zT0 aw (λp hp=>(D p hp).1) hk,Z];rfl
    ·rw[zLC]
     split
     ·exact yFT _
     ·rename_i hg
      show (S.killL (zI4 σ keep T')).blk (look 0 σ k)=_;rw[zTZ];by_cases br:look Blk.none T k= .none
      ·rw[ca k hk br];rfl
      ·exfalso
       apply hg;simp only[gX];refine⟨(look 0 σ k,Blk.none),fL.2 ⟨(k,look Blk.none T k),fX.2 ⟨zL2 br,?_⟩,rfl⟩,by simp[iN]⟩;cases hx:T'.any (λq=>Nat.beq q.1 k) with
       | false=>simp[hx]
       | true=>exact absurd Z ((z6E (λp hp=>(D p hp).2.2) k).1 hx)
   ·exact .inl ⟨k,hk,Z,rfl⟩
  ·have hb:S1.blk i=zD1 (zI4 σ keep T') (S.blk i):=by
    show look Blk.none ((renL σ T'++zL1 σ T T')++(S.killL (zI4 σ keep T')).blks) i=_;have h1:(renL σ T'++zL1 σ T T').any (λp=>Nat.beq p.1 i)=false:=by
     rw[iy];intro p hp;have:p.1∈σ.map Prod.snd:=by
      rcases fk.1 hp with hp | hp
      ·obtain⟨q,hq,rfl⟩:=fL.1 hp;exact zJH (D q hq).1
      ·obtain⟨q,hq,rfl⟩:=fL.1 hp;exact zJH (ax q (fX.1 hq).1).1
     simp only[iN];intro e;exact hm (e▸this)
    rw[zLC,h1];exact zTZ _ _ _
   exact .inr ⟨hm,hb,by rw[hb] at H;exact yC1.1 H⟩
 have ac:∀i b,i∉σ.map Prod.snd->S.blk i≠ .none->blockOf (ρ i)=some b->¬jS T bb b:=by
  intro i b hm H hb ho;obtain⟨k,hk,_,h3,h4⟩:=bf b ho;exact hs.dist i (look 0 σ k) b (λe=>hm (e▸zJH hk)) H h3 hb h4
 have bu:SatAt E S1 A w' I' ag C:=by
  refine⟨λt=>?_,λi=>?_,λi i' b H hi bq hb=>?_,?_,λb j hi=>au b j (hs.sub b j hi),λb j hi=>⟨(ao b j hi).1,?_⟩,hs.size,hs.defers.keep λq hq=>?_,λb j hi=>?_,λi b hi hb=>?_,λi u hu hi=>?_⟩
  ·show Holds w' I' ag _ ((S.killL (zI4 σ keep T')).get t)
   rw[zPO];exact zLN ((hs.tmps t).mono am au) agree
  ·by_cases H:S1.blk i= .none
   ·rw[H];trivial
   ·rcases K i H with ⟨k,hk,Z,rfl⟩ | ⟨hm,hb,G⟩
    ·rw[(bh k Z).1]
     have hm:=D _ (zL2 Z);refine((BlkOk.ren (M:=λ_=>True) O hk hm.2.1).1 (an.ok k)).mineM λb _ al _=>?_;rw[O k hk] at al;rcases (ak b ⟨k,Z,al⟩).2 with h1 | h1
     ·exact E.mineB b (fA (E.size _ _ _ hs.frame) h1)
     ·exact(h b h1).1
    ·rw[hb]
     refine BlkOk.agree ?_ (ad i hm) agree;refine((hs.blks i).mono am λb al=>ap.block b (hs.blt i b G al).2 (ac i b hm G al)).widenI au λb j _ al hi=>?_;rcases (ao b j hi).2 with h1 | h1 | h1
     ·exact h1
     ·have:=(hs.blt i b G al).2;omega
     ·exact absurd h1 (ac i b hm G al)
  ·rcases K i hi with ⟨k,hk,Z,rfl⟩ | ⟨hm,bo,G⟩
   ·rw[O k hk] at hb
    rcases K i' bq with ⟨k2,bi,aq,rfl⟩ | ⟨ba,bp,aj⟩
    ·rw[O k2 bi]
     exact an.dist k k2 b (λe=>H (by rw[e])) Z aq hb
    ·rw[ad i' ba]
     intro ay;rcases (ak b ⟨k,Z,hb⟩).2 with h1 | h1
     ·have:=(hs.blt i' b aj ay).2;omega
     ·exact ac i' b ba aj ay h1
   ·rw[ad i hm] at hb
    rcases K i' bq with ⟨k2,bi,aq,rfl⟩ | ⟨ba,bp,aj⟩
    ·rw[O k2 bi]
     intro ay;rcases (ak b ⟨k2,aq,ay⟩).2 with h1 | h1
     ·have:=(hs.blt i b G hb).2;omega
     ·exact ac i b hm G hb h1
    ·rw[ad i' ba]
     exact hs.dist i i' b H G aj hb
  ·have cb:S1.ghost=S.ghost:=by
    unfold AState.ghost;show (match (S.killL (zI4 σ keep T')).get GT with | .gh k=>k | _=>0)=_;rw[zPO];exact z6A _ _
   rw[cb];exact E.wr hE _ _ _ _ _ hs.frame ap (λb hb=>⟨(h b hb).1,(h b hb).2.2⟩) (λb j hi=>am b j (hs.sub b j hi))
  ·rcases (ao b j hi).2 with h1 | h1 | h1
   ·exact(hs.old b j h1).2
   ·exact .inr (E.mineB b (fA (E.size _ _ _ hs.frame) h1))
   ·exact .inr (h b h1).1
  ·refine(ap.block q (dX.1 hq).1 λho=>?_).trans hq
   obtain⟨o,h1,h2⟩:=(h q ho).2.2.2;rw[hq] at h1;cases h1;cases h2
  ·rcases (ao b j hi).2 with h1 | h1 | h1
   ·exact hs.cI b j h1
   ·intro hc;have:=E.csize _ _ _ hs.frame _ hc;omega
   ·exact(h b h1).2.2.1
  ·rcases K i hi with ⟨k,hk,Z,rfl⟩ | ⟨hm,bo,G⟩
   ·rw[O k hk] at hb
    rcases (ak b ⟨k,Z,hb⟩).2 with h1 | h1
    ·intro hc;have:=E.csize _ _ _ hs.frame _ hc;omega
    ·exact(h b h1).2.2.1
   ·rw[ad i hm] at hb;exact hs.cB i b G hb
  ·rcases K i hi with ⟨k,hk,Z,rfl⟩ | ⟨hm,bo,G⟩
   ·rcases cc k hk with h0 | ⟨h1,h2,h3⟩
    ·rw[h0] at hu;cases hu
    ·rw[O k hk,ar k h1 h3]
     exact hs.nm _ u hu (bv k h2).2.2.2
   ·rw[ad i hm];exact hs.nm i u hu G
 exact⟨ag,bu,O⟩
theorem z02 {extra:List AV} {ag:AV} (σ:List (Nat×Nat)) (hn:d<E.n) (au:Ren σ)
  (ba:∀A w I ρ C,SatAt E S A w I ρ C->∃h:List Value,A.eval xf= .func (.func f) #[] h.toArray/\Pw (Holds w I ρ) h extra) (G:ArgsAs σ (xs.map S.ev++extra) args) (ax:args.all (Cap.idsLt σ)=true) (bf:ag.idsLt σ =true) (hT:BlksAs S σ T) (aj:uS σ T=true) (ak:uS σ T'=true)
  (bb:zPP S σ T) (be:∀k,xR σ k=true->E.nm (look 0 σ k)=none\/(keep.contains k=true/\look Blk.none T k≠ .none/\look Blk.none T' k≠ .none)) (hc:GCA P f args T keep ag T') (hE:E.wrB=true) (hG:E.gdt=vF P:=by rfl):
  jI P r E ⟨some d,.call {callee:= .value xf,args:=xs.toArray,argTypes:=ats},ty,pos,af,g⟩ S
   (((S.killL (zI4 σ keep T')).setL (renL σ T'++zL1 σ T T')).put d (ag.ren σ)):=by
 rintro A w K Q ⟨I,ρ,C,hs⟩ hk
 obtain⟨⟨fn,hf,ab,H⟩,O⟩:=hc
 let ah:Nat->Value:=λk=>ρ (look 0 σ k)
 have ar:∀k,xR σ k=true->ρ (look 0 σ k)= ah k:=λ_ _=>rfl;have Z:Frag w I ah T:=zU4 au hT aj hs;obtain⟨h,bg,az⟩:=ba A w I ρ C hs;have ay:=O w I ah (xs.map A.eval++h) (λb j hi=>(hs.old b j hi).1) (hG▸hs.gl) Z (ArgsAs.holds ar G ax (Pw.append (v2 hs xs) az));refine⟨λf _=>trivial,?_⟩;rw[Oper.semAt_eq _ _ _ (by simp)];have ap:(execOp A.eval ⟨some d,.call {callee:= .value xf,args:=xs.toArray,argTypes:=ats},ty,pos,af,g⟩).run P w= .ok (.enter f (xs.map A.eval++h).toArray) w:=by
  simp only[execOp,resolve,bg,Deferred.ofValue];have bc:¬fn.name= "runtime.NumGoroutine" :=by simpa using ab
  have hn2:¬fn.body=none:=by intro e;simp[e] at H
  simp[invoke,callFunc,hf,bc,hn2,fq]
 rw[ap];refine⟨by simp[fen,Fence.wide],?_⟩;show CallsIn Fence.wide 0 P f _ w _;refine g8.2 (ay.mono ?_)
 rintro e w' ⟨v,I',bj,rfl,al,ad,aq,an,D,ao,ac,aa⟩
 obtain⟨bh,aw,am⟩:=zXG au hT aj ak bb be hE hs al ad aq an D ac aa;exact hk _ _ ⟨I',bh,C,aw.put hn ((Holds.ren am bf).1 ao)⟩
theorem z6F {extra:List AV} (σ:List (Nat×Nat)) (hn:d<E.n) (aj:Ren σ)
  (ac:∀A w I ρ C,SatAt E S A w I ρ C->∃G:List Value,A.eval xf= .func (.func f) #[] G.toArray/\Pw (Holds w I ρ) G extra) (D:ArgsAs σ (xs.map S.ev++extra) args) (ab:args.all (Cap.idsLt σ)=true) (ai:rets.all (Cap.idsLt σ)=true) (hT:BlksAs S σ T) (aa:uS σ T=true) (O:uS σ T'=true)
  (ad:zPP S σ T) (ah:∀k,xR σ k=true->E.nm (look 0 σ k)=none\/(keep.contains k=true/\look Blk.none T k≠ .none/\look Blk.none T' k≠ .none)) (hc:GC P f args T keep rets T') (hE:E.wrB=true) (hG:E.gdt=vF P:=by rfl):
  jI P r E ⟨some d,.call {callee:= .value xf,args:=xs.toArray,argTypes:=ats},ty,pos,af,g⟩ S
   (((S.killL (zI4 σ keep T')).setL (renL σ T'++zL1 σ T T')).put d ((zOO rets).ren σ)):=z02 σ hn aj ac D ab (by
  match rets,ai with
  | [],_=>rfl
  | [x],hl=>
   have hx:x.idsLt σ =true:=by simpa using hl
   cases x<;>exact hx
  | x::y::zs,hl=>exact hl) hT aa O ad ah ⟨hc.1,λw I ρ vs H K h3 h4=>(hc.2 w I ρ vs H K h3 h4).mono (by
   rintro e w' ⟨v,I',ak,rfl,a1,a2,a3,a4,a5,Z,a6,a7⟩
   refine⟨v,I',ak,rfl,a1,a2,a3,a4,a5,?_,a6,a7⟩
   match rets,Z with
   | [],⟨ys,H,K⟩=>exact⟨ys,H,K⟩
   | [x],h=>exact Cap.holds h
   | x::y::zs,⟨ys,H,K⟩=>exact⟨ys,H,K⟩)⟩ hE hG
theorem z2P (σ:List (Nat×Nat)) (hn:d<E.n) (aa:Ren σ)
  (h:ArgsAs σ (xs.map S.ev) args) (H:args.all (Cap.idsLt σ)=true) (Z:rets.all (Cap.idsLt σ)=true) (hT:BlksAs S σ T) (G:uS σ T=true) (D:uS σ T'=true)
  (K:zPP S σ T) (O:∀k,xR σ k=true->E.nm (look 0 σ k)=none\/(keep.contains k=true/\look Blk.none T k≠ .none/\look Blk.none T' k≠ .none)) (hc:GC P f args T keep rets T') (hE:E.wrB=true) (hG:E.gdt=vF P:=by rfl):
  jI P r E ⟨some d,.call {callee:= .value (.func f),args:=xs.toArray,argTypes:=ats},ty,pos,af,g⟩ S
   (((S.killL (zI4 σ keep T')).setL (renL σ T'++zL1 σ T T')).put d ((zOO rets).ren σ)):=
 z6F σ hn aa (extra:=[]) (λA w I ρ C _=>⟨[],by simp[Act.eval],Pw.nil⟩) (by rw[fm];exact h) H Z hT G D K O hc hE hG
theorem z6G (σ:List (Nat×Nat)) (hn:d<E.n) (ad:Ren σ) (ac:S.ev xf= .clo f cs)
  (D:ArgsAs σ (xs.map S.ev++cs.map Cap.av) args) (K:args.all (Cap.idsLt σ)=true) (ab:rets.all (Cap.idsLt σ)=true) (hT:BlksAs S σ T) (H:uS σ T=true) (G:uS σ T'=true)
  (Z:zPP S σ T) (aa:∀k,xR σ k=true->E.nm (look 0 σ k)=none\/(keep.contains k=true/\look Blk.none T k≠ .none/\look Blk.none T' k≠ .none)) (O:GC P f args T keep rets T') (hE:E.wrB=true) (hG:E.gdt=vF P:=by rfl):
  jI P r E ⟨some d,.call {callee:= .value xf,args:=xs.toArray,argTypes:=ats},ty,pos,af,g⟩ S
   (((S.killL (zI4 σ keep T')).setL (renL σ T'++zL1 σ T T')).put d ((zOO rets).ren σ)):=
 z6F σ hn ad (extra:=cs.map Cap.av) (λA w I ρ C hs=>by
  have h:=hs.ev xf;rw[ac] at h;obtain⟨ys,h1,h2⟩:=h;refine⟨ys,h1,by simpa using h2.1,λj x y hx hy=>?_⟩;rw[e7] at hy;obtain⟨c,O,rfl⟩:=g6.1 hy;exact Cap.holds (h2.2 j x c hx O)) D K ab hT H G Z aa O hE hG
end
open Go.M
def outK (E:Env) (e:Exit) (S2:AState):Exit->AState->Prop:=λh S'=>h=e/\zDZ E S' S2
def yTC {X Y:Type} (E:Env) (T:X->AState) (y:Y) (K:Exit->AState->Prop):Stp X Y->Exit->AState->Prop
 | .next x',.normal,S=>zDZ E S (T x')
 | .next _,_,_=>False
 | .done _,.normal,_=>False
 | .done h,e,S=>h=y->K e S
section
variable {S2:AState} {K:Exit->AState->Prop}
theorem z1 {e:Exit} (h:zDZ E S S2):outK E e S2 e S:=⟨rfl,h⟩
theorem zL3 {e:Exit} (G:Avc P r E c (outK E e S2) S) (H:K e S2):Avc P r E c K S:=λa w Z=>
 g7 (G a w Z) λe' D w' ⟨S',O,h⟩=>by
  obtain⟨rfl,hw⟩:=O;exact⟨S2,H,hw D w' h⟩
theorem zD {X Y:Type} {body:X->Option (Stp X Y)} {x0:X} {y:Y} (T:X->AState) (h:zE body x0=some y) (H:zDZ E S (T x0))
  (round:∀x s,body x=some s->Avc P r E c (yTC E T y K s) (T x)):Avc P r E (.loop c) K S:=by
 obtain⟨n,O⟩:=zM1.1 h;refine zW4 (ι:=Nat×X) (λq=>T q.2) (λq=>iter body q.1 q.2=some y) (λq=>q.1) (n,x0) O H ?_
 rintro⟨m,x⟩ D
 cases m with
 | zero=>cases D
 | succ m=>
  simp only[iter] at D;cases hb:body x with
  | none=>rw[hb] at D;cases D
  | some s=>
   rw[hb] at D;refine zOF (round x s hb) λe S' G=>?_;cases s with
   | next x'=>
    cases e with
    | normal=>exact⟨(m,x'),D,Nat.lt_succ_self m,G⟩
    | _=>exact G.elim
   | done y'=>
    have Z:y'=y:=by simpa using D
    cases e with
    | normal=>exact G.elim
    | _=>exact G Z
end
def ds (s:Str):DV:= .v (.string ⟨s.toArray⟩)
structure En (α:Type) where
 dv: α->DV
 size:Nat
 ok:∀x,okDV size (dv x)=true
def En.cells {h:Type} (e:En h) (x: h):List DV:=uA (e.dv x)
theorem yJW {d:DV} (h:okDV size d=true):(uA d).length=size:=by cases d<;>simp_all [okDV,uA]
theorem En.len {h:Type} (e:En h) (x: h):(e.cells x).length=e.size:=yJW (e.ok x)
def eI:En Int:=⟨di,1,λ_=>rfl⟩
def e8:En Int:=⟨dby,1,λ_=>rfl⟩
def eB:En Bool:=⟨db,1,λ_=>rfl⟩
def eS:En Str:=⟨ds,1,λ_=>rfl⟩
def En.all {h:Type} (e:En h) (l:List h):List DV:=l.flatMap e.cells
def zJ {h:Type} (e:En h) (l:List h):DV:= .sl e.size (e.all l)
def eL {h:Type} (e:En h):En (List h):=⟨zJ e,1,λ_=>rfl⟩
section
variable {α:Type} (e:En α)
theorem vE (l:List α):(e.all l).length=l.length*e.size:=by
 induction l with
 | nil=>simp[En.all]
 | cons x l h=>simp only[En.all,fC,d8,eF] at h ⊢;rw[h,e.len,fT];omega
theorem z99 (l m:List α):e.all (l++m)=e.all l++e.all m:=by simp[En.all]
theorem zL4 (l:List α) (k:Nat):(e.all l).drop (k*e.size)=e.all (l.drop k):=by
 induction k generalizing l with
 | zero=>simp
 | succ k h=>
  cases l with
  | nil=>simp[En.all]
  | cons x l=>
   rw[List.drop_succ_cons,<-h l];show (e.cells x++e.all l).drop ((k+1)*e.size)=_;have:(k+1)*e.size=(e.cells x).length+k*e.size:=by rw[e.len,fT];omega
   rw[this,List.drop_length_add_append]
theorem zOQ (l:List α) (k:Nat):(e.all l).take (k*e.size)=e.all (l.take k):=by
 induction k generalizing l with
 | zero=>simp[En.all]
 | succ k h=>
  cases l with
  | nil=>simp[En.all]
  | cons x l=>
   rw[List.take_succ_cons];show (e.cells x++e.all l).take ((k+1)*e.size)=e.cells x++e.all (l.take k);have:(k+1)*e.size=(e.cells x).length+k*e.size:=by rw[e.len,fT];omega
   rw[this,List.take_length_add_append,h]
theorem zV7 {l:List α} {x: α} (h:l[k]? =some x) (off:Nat) (H:off<e.size):(e.all l)[k*e.size+off]? =(e.cells x)[off]?:=by
 have G:(e.all l)[k*e.size+off]? =((e.all l).drop (k*e.size))[off]?:=by rw[fK]
 rw[G,zL4];obtain⟨D,K⟩:=dV.1 h;rw[eA D,K];show (e.cells x++e.all (l.drop (k+1)))[off]? =_;rw[eZ (by rw[e.len];exact H)]
theorem z2Q {l:List α} {x: α} (h:l[k]? =some x) (off n:Nat) (H:off+n<=e.size):((e.all l).drop (k*e.size+off)).take n=((e.cells x).drop off).take n:=by rw[<-iC,zL4];obtain⟨D,G⟩:=dV.1 h;rw[eA D,G];show ((e.cells x++e.all (l.drop (k+1))).drop off).take n=_;rw[List.drop_append_of_le_length (by rw[e.len];omega),List.take_append_of_le_length (by simp only[fD,e.len];omega)]
theorem yOU {l:List α} {x: α} (h:l[k]? =some x) {y: α} {d:DV} (D:off<e.size) (G:(e.cells x).set off d=e.cells y):(e.all l).set (k*e.size+off) d=e.all (l.set k y):=by
 induction l generalizing k with
 | nil=>simp at h
 | cons z l H=>
  cases k with
  | zero=>
   simp at h;subst h;show (e.cells z++e.all l).set (0*e.size+off) d=e.cells y++e.all l;rw[Nat.zero_mul,fM,List.set_append_left _ _ (by rw[e.len];exact D),G]
  | succ k=>
   simp at h;show (e.cells z++e.all l).set ((k+1)*e.size+off) d=e.cells z++e.all (l.set k y);rw[<-H h];have:(k+1)*e.size+off=(e.cells z).length+(k*e.size+off):=by rw[e.len,fT];omega
   rw[this,List.set_append_right _ _ (by omega)];simp
end
theorem uT {D:Type} {l:List D} {v: D} (h:yO l i=some v):0<=i/\i=(i.toNat:Int)/\i.toNat<l.length/\l[i.toNat]? =some v:=by unfold yO at h;split at h;rename_i hi;exact⟨hi,by omega,(dV.1 h).1,h⟩;cases h
theorem zRA (s:Str):(⟨s.toArray⟩:ByteArray).toList=s:=by rw[ByteArray.toList_eq]
section
section ints
variable {k:IntKind} {a:Int} (hn:d<E.n) (hx:S.ev x= .d (.v (.int k a))) (hy:S.ev y= .d (.v (.int k b)))
include hn hx hy
theorem z6H:AOp P r E S ⟨some d,.binOp .add tx x y tz,ty,pos,af,g⟩ d (.d (.v (.int k (k.wrap (a+b))))):=
 ⟨rfl,hn,λS' h=>yD rfl hn (by simp) λA w I ρ C D=>by
  simp only[execOp,D.val ((h.ev (by simp[Op.operands])).trans hx),D.val ((h.ev (by simp[Op.operands])).trans hy)];simp[binOp,eqGuard,Op.intArith]⟩
theorem z03:AOp P r E S ⟨some d,.binOp .sub tx x y tz,ty,pos,af,g⟩ d (.d (.v (.int k (k.wrap (a-b))))):=
 ⟨rfl,hn,λS' h=>yD rfl hn (by simp) λA w I ρ C D=>by
  simp only[execOp,D.val ((h.ev (by simp[Op.operands])).trans hx),D.val ((h.ev (by simp[Op.operands])).trans hy)];simp[binOp,eqGuard,Op.intArith]⟩
theorem yWG:AOp P r E S ⟨some d,.binOp .mul tx x y tz,ty,pos,af,g⟩ d (.d (.v (.int k (k.wrap (a*b))))):=
 ⟨rfl,hn,λS' h=>yD rfl hn (by simp) λA w I ρ C D=>by
  simp only[execOp,D.val ((h.ev (by simp[Op.operands])).trans hx),D.val ((h.ev (by simp[Op.operands])).trans hy)];simp[binOp,eqGuard,Op.intArith]⟩
theorem yR5 {c:Int} (D:zR7 k.wrap a b=some c):AOp P r E S ⟨some d,.binOp .quo tx x y tz,ty,pos,af,g⟩ d (.d (.v (.int k c))):=
 ⟨rfl,hn,λS' h=>yD rfl hn (by simp) λA w I ρ C G=>by
  unfold zR7 at D;split at D;cases D;rename_i hb;cases D;simp only[execOp,G.val ((h.ev (by simp[Op.operands])).trans hx),G.val ((h.ev (by simp[Op.operands])).trans hy)];simp[binOp,eqGuard,Op.intDiv,hb]⟩
theorem yR6 {c:Int} (D:zKY a b=some c):AOp P r E S ⟨some d,.binOp .rem tx x y tz,ty,pos,af,g⟩ d (.d (.v (.int k c))):=
 ⟨rfl,hn,λS' h=>yD rfl hn (by simp) λA w I ρ C G=>by
  unfold zKY at D;split at D;cases D;rename_i hb;cases D;simp only[execOp,G.val ((h.ev (by simp[Op.operands])).trans hx),G.val ((h.ev (by simp[Op.operands])).trans hy)];simp[binOp,eqGuard,Op.intDiv,hb]⟩
end ints
theorem yTD {k:IntKind} {a:Int} {h td:TypeId} {ds:TypeDesc} (G:d<E.n) (H:P.underlying h=some ds) (D:P.underlying td=some (.int k')) (K:S.ev x= .d (.v (.int k a))):
  AOp P r E S ⟨some d,.convert h td x,ty,pos,af,g⟩ d (.d (.v (.int k' (k'.wrap a)))):=z92 G H D K
section strs
variable {a b:Str} (hn:d<E.n) (hx:S.ev x= .d (ds a)) (hy:S.ev y= .d (ds b))
include hn hx hy
theorem yAA:AOp P r E S ⟨some d,.binOp .eql tx x y tz,ty,pos,af,g⟩ d (.d (.v (.bool (a==b)))):=by
 have:=yS4 (P:=P) (r:=r) (ty:=ty) (pos:=pos) (af:=af) (g:=g) (tx:=tx) (tz:=tz) hn hx hy
 rwa [zRA,zRA] at this
theorem yAB:AOp P r E S ⟨some d,.binOp .neq tx x y tz,ty,pos,af,g⟩ d (.d (.v (.bool (!(a==b))))):=by
 have:=yS5 (P:=P) (r:=r) (ty:=ty) (pos:=pos) (af:=af) (g:=g) (tx:=tx) (tz:=tz) hn hx hy
 rwa [zRA,zRA] at this
theorem yJX:AOp P r E S ⟨some d,.binOp .lss tx x y tz,ty,pos,af,g⟩ d (.d (.v (.bool (Op.bytesLess a b)))):=by
 have:=yS6 (P:=P) (r:=r) (ty:=ty) (pos:=pos) (af:=af) (g:=g) (tx:=tx) (tz:=tz) hn hx hy
 rwa [zRA,zRA] at this
theorem yTE:AOp P r E S ⟨some d,.binOp .gtr tx x y tz,ty,pos,af,g⟩ d (.d (.v (.bool (!Op.bytesLess a b&& !(a==b))))):=
 ⟨rfl,hn,λS' h=>yD rfl hn (by simp) λA w I ρ C D=>by
  have G:A.eval x= .string ⟨a.toArray⟩:=D.val ((h.ev (by simp[Op.operands])).trans hx);have H:A.eval y= .string ⟨b.toArray⟩:=D.val ((h.ev (by simp[Op.operands])).trans hy);simp only[execOp,G,H];simp[binOp,eqGuard,Op.stringOp,zRA]⟩
end strs
theorem zT1 {s:Str} (h:d<E.n) (D:P.underlying t=some .string) (G:S.ev x= .d (ds s)):
  AOp P r E S ⟨some d,.call {callee:= .builtin .len,args:= #[x],argTypes:= #[t]},ty,pos,af,g⟩ d (.d (.v (.int .i64 s.length))):=by
 have:=yFI (P:=P) (r:=r) (ty:=ty) (pos:=pos) (af:=af) (g:=g) h D G;have e:(⟨s.toArray⟩:ByteArray).size=s.length:=by simp[ByteArray.size]
 rwa [e] at this
theorem zOR {s:Str} {c:Int} (O:d<E.n) (Z:P.underlying t=some .string) (hx:S.ev x= .d (ds s)) (hi:S.ev ix= .d (.v (.int kk i))) (h:zM0 s i=some c):
  AOp P r E S ⟨some d,.index t x ix,ty,pos,af,g⟩ d (.d (.v (.int .u8 c))):=by
 unfold zM0 at h;cases hb:yO s i with
 | none=>rw[hb] at h;cases h
 | some b=>
  rw[hb] at h;cases h;obtain⟨h0,G,H,K⟩:=uT hb;have e:(⟨s.toArray⟩:ByteArray).size=s.length:=by simp[ByteArray.size]
  have:=yJP (P:=P) (r:=r) (ty:=ty) (pos:=pos) (af:=af) (g:=g) O Z hx hi G (by rw[e];exact H)
  have D:(s.toArray.toList.getD i.toNat 0)=b:=by simp[eT,K]
  simp only[D] at this;exact this
section sl
variable {α:Type} {en:En α} {t bytes:Nat} {l:List α}
theorem z6I (D:d<E.n) (h:SlTy P t e en.size bytes z) (G:S.ev x= .d (zJ en l)):
  AOp P r E S ⟨some d,.call {callee:= .builtin .len,args:= #[x],argTypes:= #[t]},ty,pos,af,g⟩ d (.d (.v (.int .i64 l.length))):=
 yOM D h G (vE en l)
theorem yTF {id:Nat} (D:d<E.n) (h:SlTy P t e en.size bytes z) (G:S.ev x= .row id) (hb:S.blk id= .row e en.size sh (en.all l)):
  AOp P r E S ⟨some d,.call {callee:= .builtin .len,args:= #[x],argTypes:= #[t]},ty,pos,af,g⟩ d (.d (.v (.int .i64 l.length))):=
 z0T D h G hb (vE en l)
theorem jB {v: α} (G:d<E.n) (D:SlTy P t e en.size bytes z) (H:S.ev x= .d (zJ en l)) (hi:S.ev ix= .d (.v (.int kk i))) (h:yO l i=some v):
  AOp P r E S ⟨some d,.indexAddr t x ix,ty,pos,af,g⟩ d (.ip (en.all l) (i.toNat*en.size)):=
 yFJ G D H hi (uT h).2.1 (vE en l) (uT h).2.2.1
theorem zR9 {id:Nat} {v: α} (G:d<E.n) (D:SlTy P t e en.size bytes z) (H:S.ev x= .row id) (hb:S.blk id= .row e en.size sh (en.all l)) (hi:S.ev ix= .d (.v (.int kk i))) (h:yO l i=some v):
  AOp P r E S ⟨some d,.indexAddr t x ix,ty,pos,af,g⟩ d (.ptr id (i.toNat*en.size)):=
 z5P G D H hb hi (uT h).2.1 (vE en l) (uT h).2.2.1
theorem yA {v: α} {y:DV} (G:d<E.n) (D:OneTy P tt) (K:S.ev x= .ip (en.all l) (i.toNat*en.size+off)) (H:yO l i=some v) (h:(en.cells v)[off]? =some y):
  AOp P r E S ⟨some d,.load tt x,ty,pos,af,g⟩ d (.d y):=
 yV G D K (by rw[zV7 en (uT H).2.2.2 off (by rw[<-en.len v];exact(dV.1 h).1)];exact h)
theorem zL5 {id:Nat} {v: α} {y:DV} (G:d<E.n) (D:OneTy P tt) (K:S.ev x= .ptr id (i.toNat*en.size+off)) (hb:S.blk id= .row e en.size sh (en.all l)) (H:yO l i=some v) (h:(en.cells v)[off]? =some y):
  AOp P r E S ⟨some d,.load tt x,ty,pos,af,g⟩ d (.d y):=
 z93 G D K hb (by rw[zV7 en (uT H).2.2.2 off (by rw[<-en.len v];exact(dV.1 h).1)];exact h)
theorem uU {tt:Nat} {v: α} {es:List DV} (G:d<E.n) (h:AggTy P tt n) (O:S.ev x= .ip (en.all l) (i.toNat*en.size+off)) (K:yO l i=some v) (Z:((en.cells v).drop off).take n=es) (D:es.length=n) (H:off+n<=en.size):
  AOp P r E S ⟨some d,.load tt x,ty,pos,af,g⟩ d (.d (.agg es)):=
 zGH G h O (by rw[z2Q en (uT K).2.2.2 off n H];exact Z) D
theorem yFU {tt:Nat} {id:Nat} {v: α} {es:List DV} (G:d<E.n) (h:AggTy P tt n) (O:S.ev x= .ptr id (i.toNat*en.size+off)) (hb:S.blk id= .row e en.size sh (en.all l)) (K:yO l i=some v) (Z:((en.cells v).drop off).take n=es) (D:es.length=n) (H:off+n<=en.size):
  AOp P r E S ⟨some d,.load tt x,ty,pos,af,g⟩ d (.d (.agg es)):=
 z5Q G h O hb (by rw[z2Q en (uT K).2.2.2 off n H];exact Z) D
end sl
theorem yC2 {ρ:Nat->Value} {cells:List DV} (h:Rep w I v (.pt cells)):Holds w I ρ v (.ip cells 0):=by
 cases h with
 | pt b off xs cells K G D H=>exact⟨b,off,xs,rfl,⟨K,H⟩,D,G⟩
theorem zAA {cells:List DV} (H:d<E.n) (O:FldTy P s k off n t) (hx:S.ev x= .d (.pt cells)):
  AOp P r E S ⟨some d,.fieldAddr s x k,ty,pos,af,g⟩ d (.ip cells (0+off)):=
 ⟨rfl,H,λS' Z=>zV rfl H (by simp) λA w I ρ C hs=>by
  have h:=hs.ev x;rw[(Z.ev (by simp[Op.operands])).trans hx] at h;obtain⟨b,G,xs,hv,hr,K,D⟩:=yC2 (ρ:=ρ) h;refine⟨.pointer (some ⟨b,G+(0+off),none⟩),?_,b,G,xs,rfl,hr,K,D⟩;simp only[execOp,hv,dP,zIM O w b (G+0),hY];rfl⟩
theorem zL6 {t:Nat} {cells:List DV} (H:d<E.n) (O:AggTy P t n) (hx:S.ev x= .d (.pt cells)) (hl:cells.length=n):
  AOp P r E S ⟨some d,.load t x,ty,pos,af,g⟩ d (.d (.agg cells)):=
 ⟨rfl,H,λS' Z=>zV rfl H (by simp) λA w I ρ C hs=>by
  have h:=hs.ev x;rw[(Z.ev (by simp[Op.operands])).trans hx] at h;obtain⟨b,o',xs,hv,G,K,D⟩:=yC2 (ρ:=ρ) h;refine⟨.agg xs.toArray,?_,.agg _ _ G.1 K G.2⟩;simp only[execOp,hv,dP,gZ];rw[zDN w O b o' xs (by rw[G.1];exact hl) (λj v hj=>(D j v hj).1)]
  rfl⟩
theorem z04 {e:DV} (D:d<E.n) (h:OneTy P t) (G:S.ev x= .d (.pt [e])):
  AOp P r E S ⟨some d,.load t x,ty,pos,af,g⟩ d (.d e):=yFL D h G rfl
theorem SatAt.newPt {ρ:Nat->Value} (H:SatAt E S A w I ρ C) {xs:List Value} {cells:List DV} (O:Reps w I xs cells) (h1:∀x∈xs,x.oneCell'=true):
  ∃G:Im,SatAt E S A (w.alloc (.cells xs.toArray e)) G ρ C/\Rep (w.alloc (.cells xs.toArray e)) G (.pointer (some ⟨w.heap.size,0,none⟩)) (.pt cells):=by
 have Z:∀b j,I b j->b<w.heap.size:=λb j h=>(H.old b j h).1;have hB:Below w.heap.size w (w.alloc (.cells xs.toArray e)):=⟨rfl,rfl,rfl,by simp,λk hk=>_root_.Go.heap_alloc_old w _ hk⟩
 let G:Im:=λb j=>I b j\/b=w.heap.size
 have D:∀b j,I b j->G b j:=λb j h=> .inl h;have K:=H.grow hB;refine⟨G,K.widen (B:=w.heap.size) D (λb j hi=>?_) (λi b hi hb=>(H.blt i b hi hb).2) (E.size _ _ _ H.frame) (λb hc=>E.csize _ _ _ H.frame b hc),?_⟩
 ·rcases hi with hi | rfl
  ·exact⟨by have:=Z b j hi;simp;omega,.inl hi⟩
  ·exact⟨by simp,.inr (d9 _)⟩
 ·have hr:=O.mono (zEU (.cells xs.toArray e) Z) D
  refine .pt _ _ xs cells hr.1 (λj x hj=>⟨?_,.inr rfl⟩) h1 hr.2;rw[fM,gN _ _ j xs.toArray e (0,0) (hF w _)];simpa using hj
theorem zU5 {D:TypeId} (K:d<E.n) (hx:S.ev x= .d u) (G:okDV size u=true):
  AOp P r E S ⟨some d,.box D x,ty,pos,af,g⟩ d (.d (.pt (uA u))):=
 ⟨rfl,K,λS' ha=>vR (by simp) λA w I ρ C O=>by
  have h:=O.ev x;rw[(ha.ev (by simp[Op.operands])).trans hx] at h;obtain⟨h1,h2,_⟩:=Rep.flat h G;obtain⟨Z,H,hr⟩:=O.newPt (e:=D) h1 h2;refine⟨.pointer (some ⟨w.heap.size,0,none⟩),_,?_,Z,ρ,C,H.put K hr⟩;simp[execOp,Instr.box,newVar,newRow]⟩
structure StTy (P:Program) (t:TypeId) (places:List (Nat×Nat)) (zs:List Value):Prop where
 und:∃fields,P.underlying t=some (.struct fields)/\∀w,(fields.mapM λ(f:Field)=>do pure (f.offset,<-sizeOf f.type)).run P w= .ok places.toArray w
 zero:∀w,(zeroValue t).run P w= .ok (.agg zs.toArray) w
 one:∀x∈zs,x.oneCell'=true
def zSA (places:List (Nat×Nat)):List DV->List (Nat×DV)->Option (List DV)
 | cells,[]=>some cells
 | cells,(i,v)::rest=>match places[i]? with
  | none=>none
  | some (off,size)=>if okDV size v&&Nat.ble (off+size) cells.length then zSA places (cells.take off++uA v++cells.drop (off+size)) rest else none
theorem zXH:∀(ds:List (Nat×DV)) (vs:List (Nat×Value)) (arr:Array Value) (cells h:List DV),Reps w I arr.toList cells->(∀x∈arr.toList,x.oneCell'=true)->
  Pw (λ(v:Nat×Value) (y:Nat×DV)=>v.1=y.1/\Rep w I v.2 y.2) vs ds->zSA places cells ds=some h->
  ∃D,Instr.fill (λi=>places[i]?) arr vs=some D/\Reps w I D.toList h/\∀x∈D.toList,x.oneCell'=true:=by
 intro ds
 induction ds with
 | nil=>
  intro vs arr cells h Z h1 K G;have:vs= []:=dQ K.1;subst this;simp only[zSA,gD] at G;subst G;exact⟨arr,rfl,Z,h1⟩
 | cons p ds ih=>
  intro vs arr cells h Z h1 K G;obtain⟨i,y⟩:=p;cases vs with
  | nil=>have:=K.1;simp at this
  | cons q vs=>
   obtain⟨i',v⟩:=q;obtain⟨hi,hv⟩:=K.2 0 (i',v) (i,y) rfl rfl;simp only at hi hv;subst hi;simp only[zSA] at G;cases H:places[i']? with
   | none=>simp[H] at G
   | some os=>
    obtain⟨off,size⟩:=os;simp only[H] at G;split at G
    ·rename_i hc
     simp only[eC] at hc;obtain⟨O,ah,ai⟩:=Rep.flat hv hc.1;have aj:off+size<=cells.length:=hZ hc.2;have am:v.cells.size=size:=by rw[<-fB,O.1,ai]
     have ad:arr.toList.length=cells.length:=Z.1;have ak:Reps w I (arr.toList.take off++v.cells.toList++arr.toList.drop (off+size)) (cells.take off++uA y++cells.drop (off+size)):=
      Pw.append (Pw.append (Z.take off) O) (Z.drop (off+size))
     obtain⟨D,ha,al,ab⟩:=ih vs (arr.toList.take off++v.cells.toList++arr.toList.drop (off+size)).toArray _ h (by simpa using ak) (by
      intro x hx;simp only[fk] at hx;rcases hx with (hx | hx) | hx
      ·exact h1 x (gA hx)
      ·exact ah x hx
      ·exact h1 x (fW hx)) ⟨by have:=K.1;simpa using this,λj a b ha hb=>K.2 (j+1) a b (by simpa using ha) (by simpa using hb)⟩ G
     refine⟨D,?_,al,ab⟩;rw[zW6 (off:=off) (size:=size) H am (by rw[<-fB,ad];exact aj)]
     exact ha
    ·cases G
def dvP (S:AState):List (Nat×Operand)->Option (List (Nat×DV))
 | []=>some []
 | (i,x)::r=>match S.ev x,dvP S r with
  | .d y,some ys=>some ((i,y)::ys)
  | _,_=>none
theorem zPQ {ρ:Nat->Value} (G:SatAt E S A w I ρ C):∀{ps:List (Nat×Operand)} {ds:List (Nat×DV)},dvP S ps=some ds->
  Pw (λ(v:Nat×Value) (y:Nat×DV)=>v.1=y.1/\Rep w I v.2 y.2) (ps.map λp=>(p.1,A.eval p.2)) ds
 | [],ds,h=>by simp[dvP] at h;subst h;exact Pw.nil
 | (i,x)::r,ds,h=>by
  simp only[dvP] at h;split at h
  ·rename_i y ys K D
   cases h;have H:=G.ev x;rw[K] at H;exact Pw.cons ⟨rfl,H⟩ (zPQ G D)
  ·cases h
theorem zPR {S':AState} (D:Agree S S' o):∀{ps:List (Nat×Operand)},(∀p∈ps,p.2∈o.op.operands)->dvP S' ps=dvP S ps
 | [],_=>rfl
 | (i,x)::r,h=>by
  simp only[dvP];rw[D.ev (h (i,x) (by simp)),zPR D λp G=>h p (by simp[G])]
theorem zBK {zs:List Value} {ps:List (Nat×Operand)} {ds:List (Nat×DV)} {cells:List DV} (Z:d<E.n) (G:StTy P t places zs) (H:dvP S ps=some ds) (hf:zSA places (zs.map DV.v) ds=some cells):
  AOp P r E S ⟨some d,.build t ps.toArray,ty,pos,af,g⟩ d (.d (.agg cells)):=
 ⟨rfl,Z,λS' ha=>zV rfl Z (by simp) λA w I ρ C hs=>by
  obtain⟨fields,hu,K⟩:=G.und;have D:dvP S' ps=some ds:=(zPR ha (λp K=>by simp only[Op.operands];simp;exact⟨p.1,K⟩)).trans H
  obtain⟨h,h1,O,h3⟩:=zXH (places:=places) ds (ps.map λp=>(p.1,A.eval p.2)) zs.toArray (zs.map DV.v) cells (by simpa using zOJ w I zs) (by simpa using G.one) (zPQ hs D) hf;refine⟨.agg h,?_,by have:=Rep.agg (w:=w) (I:=I) h.toList cells O.1 h3 O.2;rw[Array.toArray_toList] at this;exact this⟩
  have hz:=G.zero w;simp only[execOp,Instr.build,fq,dP,hz,dR,eM hu,K w,Value.cells,fJ,h1,eQ]⟩
end
section
variable {α:Type} {en:En α} {t bytes:Nat} {l m l':List α} {s:Operand}
theorem zEV (h:app l m=some l'):l'=l++m/\l.length+m.length<=LIM:=by unfold app at h;split at h;rename_i D;exact⟨(iH h).symm,D⟩;cases h
theorem z05 (hb:bytes<=32768) (h:l.length+m.length<=LIM):(l.length+m.length)*bytes<=140737488355328:=by have D:(l.length+m.length)*bytes<=4294967296*bytes:=fP _ h;have G:4294967296*bytes<=4294967296*32768:=iY _ hb;omega
theorem yJY {id:Nat} {cells:List DV} (hb:S.blk id= .row e en.size sh cells) (news:List DV):(S.kill id).app id news=(S.kill id).setBlk id (.row e en.size sh (cells++news)):=by unfold AState.app;rw[zJU,hb];rfl
theorem zY {id:Nat} (hn:d<E.n) (O:SlTy P t e en.size bytes z) (hs:S.ev s= .row id) (hb:S.blk id= .row e en.size sh (en.all l)) (hx:S.ev x= .d (zJ en m)) (Z:app l m=some l') (D:0<bytes) (h:bytes<=32768)
  (K:E.wrB=true) (H:E.nm id=none):
  jI P r E ⟨some d,.call {callee:= .builtin .append,args:= #[s,x],argTypes:= #[t,t]},ty,pos,af,g⟩ S (((S.kill id).setBlk id (.row e en.size sh (en.all l'))).put d (.row id)):=by
 obtain⟨rfl,G⟩:=zEV Z;have:=z94 (P:=P) (r:=r) (ty:=ty) (pos:=pos) (af:=af) (g:=g) hn O hs hb hx (vE en l) (vE en m) D (z05 h G) K H;rw[yJY hb] at this;rw[z99];exact this
theorem z2R {n:Int} {zero: α} (hn:d<E.n) (hT:SlTy P t e en.size bytes z) (hx:S.ev x= .d (.v (.int .i64 n))) (hz:z.cells.toList.map DV.v=en.cells zero) (D:mkM zero n=some l) (h:bytes<=32768) (G:E.nm d=none):
  jI P r E ⟨some d,.makeSlice t x x,ty,pos,af,g⟩ S (((S.kill d).setBlk d (.row e en.size false (en.all l))).put d (.row d)):=by
 unfold mkM at D;split at D
 ·rename_i O
  cases D;have H:n=((n.toNat:Nat):Int):=by omega
  have K:n.toNat*bytes<=140737488355328:=by
   have H:n.toNat*bytes<=4294967296*bytes:=fP _ O.2;have K:4294967296*bytes<=4294967296*32768:=iY _ h;omega
  have:=yFG (P:=P) (r:=r) (ty:=ty) (pos:=pos) (af:=af) (g:=g) hn hT hx H K (by have:=O.2;unfold LIM at this;unfold maxLen;omega) G
  have e1:zPL z n.toNat=en.all (List.replicate n.toNat zero):=by
   unfold zPL;rw[hz]
   induction n.toNat with
   | zero=>rfl
   | succ k Z=>simp only[List.replicate_succ,iz,En.all,fC] at Z ⊢;rw[Z]
  rw[e1] at this;exact this
 ·cases D
theorem z06 {v: α} (h:zCV l i v=some l'):l'=l.set i.toNat v/\0<=i/\i.toNat<l.length:=by unfold zCV at h;split at h;rename_i D;exact⟨(iH h).symm,D⟩;cases h
theorem zG8 {id:Nat} {v D: α} (K:OneTy P tt) (hx:S.ev x= .ptr id (i.toNat*en.size+off)) (hb:S.blk id= .row e en.size false (en.all l)) (hy:S.ev y= .d u) (hv:yO l i=some v)
  (hu:(en.cells v).set off u=en.cells D) (O:off<en.size) (Z:zCV l i D=some l') (G:(AV.d u).one=true) (H:E.wrB=true):
  jI P r E ⟨none,.store tt x y,ty,pos,af,g⟩ S (S.setBlk id (.row e en.size false (en.all l'))):=by
 obtain⟨rfl,h0,h⟩:=z06 Z;rw[<-yOU en (uT hv).2.2.2 O hu];refine zW1 K hx hb ?_ hy G H;rw[vE];have:(i.toNat+1)*en.size<=l.length*en.size:=fP _ h;rw[fT] at this;omega
theorem zJ1 {lo hi:Int} (h:slc l lo hi=some l'):l'=(l.take hi.toNat).drop lo.toNat/\0<=lo/\lo<=hi/\hi.toNat<=l.length:=by unfold slc at h;split at h;rename_i D;exact⟨(iH h).symm,D⟩;cases h
theorem zXI {lo:Operand} {G:IntKind} {a:Int} (K:d<E.n) (H:SlTy P t e en.size bytes z) (O:S.ev x= .d (zJ en l)) (D:S.ev lo= .d (.v (.int G a))) (h:slc l a l.length=some l'):
  AOp P r E S ⟨some d,.slice t x (some lo) none none,ty,pos,af,g⟩ d (.d (zJ en l')):=by
 obtain⟨rfl,Z,h2,h3⟩:=zJ1 h;exact z0Y K H O (vE en l) (l:=a.toNat) (h:=l.length) ⟨⟨G,a,D,by omega⟩,rfl,by omega,by omega⟩ (by rw[zOQ,zL4];simp)
theorem yJZ {hi:Operand} {G:IntKind} (O:d<E.n) (K:SlTy P t e en.size bytes z) (Z:S.ev x= .d (zJ en l)) (D:S.ev hi= .d (.v (.int G b))) (h:slc l 0 b=some l'):
  AOp P r E S ⟨some d,.slice t x none (some hi) none,ty,pos,af,g⟩ d (.d (zJ en l')):=by
 obtain⟨rfl,h1,h2,H⟩:=zJ1 h;exact z0Y O K Z (vE en l) (l:=0) (h:=b.toNat) ⟨rfl,⟨G,b,D,by omega⟩,by omega,H⟩ (by rw[zOQ];simp)
def findAt {h:Type} [DecidableEq h] (a: h):List h->List MapEntry->Nat->Option (Nat×Value)
 | k::ks,x::es,i=>if a=k then some (i,x.val) else findAt a ks es (i+1)
 | _,_,_=>none
structure KeyTy {κ:Type} [DecidableEq κ] (P:Program) (kt:TypeId) (kv: κ->Value):Prop where
 same:∀a,Instr.sameBits 10000 (kv a) (kv a)=true
 check:∀a b w,(Instr.checkKey b 10000 kt (kv a)).run P w= .ok () w
 find:∀a (ks:List κ) (es:List MapEntry) w,Pw (λ(x:MapEntry) k=>x.key=kv k) es ks->(Instr.findKey kt (kv a) es).run P w= .ok (findAt a ks es 0) w
theorem zLD {α D:Type} {R: α->D->Prop} {x: α} {y: D} {xs:List α} {ys:List D} (h:Pw R (x::xs) (y::ys)):R x y/\Pw R xs ys:=
 ⟨h.2 0 x y rfl rfl,by have:=h.1;simpa using this,λj a b G hb=>h.2 (j+1) a b (by simpa using G) (by simpa using hb)⟩
theorem zU6 {D:Type} [DecidableEq D] {kv: D->Value} {td:TypeDesc} (G:∀a b,Instr.sameNow td (kv a) (kv b)=some (decide (a=b))) (a: D):∀(es:List MapEntry) (ks:List D) (i:Nat),Pw (λ(x:MapEntry) k=>x.key=kv k) es ks->
  Instr.findNow td (kv a) es i=some (findAt a ks es i)
 | [],ks,i,h=>by
  cases ks with
  | nil=>rfl
  | cons k ks=>have:=h.1;simp at this
 | x::es,ks,i,h=>by
  cases ks with
  | nil=>have:=h.1;simp at this
  | cons k ks=>
   obtain⟨H,K⟩:=zLD h;simp only[Instr.findNow,H,G,findAt];by_cases e:a=k
   ·simp[e]
   ·simp only[e,e6,eE]
    exact zU6 G a es ks (i+1) K
def kI (n:Int):Value:= .int .i64 n
theorem yFW (h:P.underlying kt=some (.int .i64)) (n:Nat) (a:Int) (b:Bool) (w:World):(Instr.checkKey b (n+1) kt (kI a)).run P w= .ok () w:=by simp only[kI,Instr.checkKey,dP,eM h,dR];rfl
theorem yTG (D:P.underlying kt=some (.int .i64)):KeyTy P kt kI where
 same:=λa=>by simp[kI,Instr.sameBits]
 check:=λa b w=>yFW D 9999 a b w
 find:=λa ks es w h=>by
  have:=zU6 (kv:=kI) (td:= .int .i64) (λa b=>by simp only[kI,Instr.sameNow,eK];rfl) a es ks 0 h
  simp only[Instr.findKey,dP,eM D,dR];rw[this];rfl
theorem z2S (a b:Str):((⟨a.toArray⟩:ByteArray)==⟨b.toArray⟩)=decide (a=b):=by show (a.toArray==b.toArray)=_;rw[i4];simp
theorem z6J (vs:List Value) (h:vs.all Value.oneCell'=true):Rep w I (.agg vs.toArray) (.agg (vs.map DV.v)):=
 .agg vs _ (by simp) (λx D=>eO.1 h x D) (zOJ w I vs).2
def jF {h D:Type} (kv: h->Value) (ev:En D) (m:List (h×D)):List (Value×DV):=m.map λp=>(kv p.1,ev.dv p.2)
structure MapTy (P:Program) (t kt vt:TypeId) (zv:Value):Prop where
 und:P.underlying t=some (.map kt vt)
 zero:∀w,(zeroValue vt).run P w= .ok zv w
section
variable {κ ν:Type} [DecidableEq κ] {kv: κ->Value} {ev:En ν} {mp:List (κ×ν)} {k: κ} {vt:TypeId} {zv:Value} {zero: ν} {km kk:Operand} {id:Nat}
theorem zM2 {a: κ}:∀{m:List (κ×ν)} {es:List MapEntry} {i:Nat},Pw (λ(x:MapEntry) (y:Value×DV)=>x.key=y.1/\Rep w I x.val y.2) es (jF kv ev m)->
  (mget m a=none/\findAt a (m.map Prod.fst) es i=none)\/∃v j x,mget m a=some v/\findAt a (m.map Prod.fst) es i=some (i+j,x)/\Rep w I x (ev.dv v)/\(∃y,es[j]? =some y/\y.key=kv a/\y.val=x)/\
   ∀(u:Value) (D: ν) (f:MapEntry->MapEntry),(∀y,(f y).key=y.key\/(f y).key=kv a)->(∀y,(f y).val=u)->Rep w I u (ev.dv D)->Pw (λ(x:MapEntry) (y:Value×DV)=>x.key=y.1/\Rep w I x.val y.2) (es.modify j f) (jF kv ev (vS m a D))
 | [],es,i,h=>by left;exact⟨rfl,by cases es<;>rfl⟩
 | (k',D)::m,[],i,h=>by have:=h.1;simp[jF] at this
 | (k',D)::m,x::es,i,h=>by
  obtain⟨H,h2⟩:=zLD h;simp only[fp,findAt,mget,vS];by_cases e:a=k'
  ·subst e
   right;refine⟨D,0,x.val,by simp,by simp,H.2,⟨x,rfl,H.1,rfl⟩,λu G f hk hv Z=>?_⟩;simp only[eK,List.modify_zero_cons];refine Pw.cons ⟨?_,by rw[hv];exact Z⟩ h2
   rcases hk x with hk | hk
   ·rw[hk];exact H.1
   ·exact hk
  ·simp only[e,eE]
   rcases zM2 (a:=a) (m:=m) (es:=es) (i:=i+1) h2 with ⟨K,O⟩ | ⟨v,j,y,K,O,e3,⟨q,q1,q2,q3⟩,e4⟩
   ·left;exact⟨K,O⟩
   ·right
    refine⟨v,j+1,y,K,by rw[O];congr 2;omega,e3,⟨q,by simpa using q1,q2,q3⟩,λu G f hk hv Z=>?_⟩
    simp only[List.modify_succ_cons];exact Pw.cons H (e4 u G f hk hv Z)
theorem z6K {m:List (κ×ν)} {a: κ} (h:mget m a=none) (v: ν):vS m a v=m++ [(a,v)]:=by
 induction m with
 | nil=>rfl
 | cons p m D=>
  obtain⟨k',G⟩:=p;simp only[mget,vS] at h ⊢;split at h;cases h;rename_i e;simp only[e,eE,D h,fV]
omit [DecidableEq κ] in
theorem z2T {m:List (κ×ν)} {es:List MapEntry} (h:Pw (λ(x:MapEntry) (y:Value×DV)=>x.key=y.1/\Rep w I x.val y.2) es (jF kv ev m)):Pw (λ(x:MapEntry) k=>x.key=kv k) es (m.map Prod.fst):=by
 refine⟨by rw[h.1];simp[jF],λj x k H D=>?_⟩
 rw[e7] at D;cases G:m[j]? with
 | none=>simp[G] at D
 | some p=>
  simp[G] at D;subst D;exact(h.2 j x (kv p.1,ev.dv p.2) H (by simp[jF,G])).1
theorem zJ2 {b D:Nat} {h:Array MapEntry} (hT:MapTy P t kt vt zv) (Z:KeyTy P kt kv) (hh:w.heap[b]? =some (.map h D)) (hp:Pw (λ(x:MapEntry) (y:Value×DV)=>x.key=y.1/\Rep w I x.val y.2) h.toList (jF kv ev mp)) (hz:Rep w I zv (ev.dv zero)) (ok:Bool):
  ∃v,(Instr.lookup t (.map (some b)) (kv k) ok).run P w= .ok (if ok then .tuple #[v,.bool (zB0 mp k)] else v) w/\Rep w I v (ev.dv (wR mp k zero)):=by
 have K:=Z.find k _ h.toList w (z2T hp);have G:(getObj b).run P w= .ok (.map h D) w:=by simp[getObj,Sem.run,hh]
 rcases zM2 (a:=k) (i:=0) hp with ⟨H,O⟩ | ⟨v,j,x,H,O,e3,_,_⟩
 ·rw[O] at K
  refine⟨zv,?_,by simpa[wR,H] using hz⟩;simp only[Instr.lookup,dP,eM hT.und,dR,G,eQ,Z.check,K,hT.zero,zB0,H];rfl
 ·rw[O] at K
  refine⟨x,?_,by simpa[wR,H] using e3⟩;simp only[Instr.lookup,dP,eM hT.und,dR,G,eQ,Z.check,K,zB0,H];rfl
theorem z6L (hn:d<E.n) (hT:MapTy P t kt vt zv) (hK:KeyTy P kt kv) (hm:S.ev km= .row id) (hb:S.blk id= .map (jF kv ev mp)) (hk:S.ev kk= .d (.v (kv k))) (hz:∀w I,Rep w I zv (ev.dv zero)):
  AOp P r E S ⟨some d,.lookup t km kk false,ty,pos,af,g⟩ d (.d (ev.dv (wR mp k zero))):=
 ⟨rfl,hn,λS' G=>zV rfl hn (by simp) λA w I ρ C K=>by
  have h:=K.blks id;rw[(G.blk id).trans hb] at h;obtain⟨b,ab,D,aa,_,hh,hp,_⟩:=h;have hv:=K.ev km;rw[(G.ev (by simp[Op.operands])).trans hm] at hv;have O:A.eval km= .map (some b):=Eq.trans hv aa;have H:=K.val ((G.ev (x:=kk) (by simp[Op.operands])).trans hk);have Z:=hz w I;obtain⟨v,h1,h2⟩:=zJ2 (w:=w) (I:=I) hT hK hh hp Z false;refine⟨v,?_,h2⟩;simp only[execOp,O,H,dP,h1];rfl⟩
theorem z07 (hn:d<E.n) (hT:MapTy P t kt vt zv) (hK:KeyTy P kt kv) (hm:S.ev km= .row id) (hb:S.blk id= .map (jF kv ev mp)) (hk:S.ev kk= .d (.v (kv k))) (hz:∀w I,Rep w I zv (ev.dv zero)):
  AOp P r E S ⟨some d,.lookup t km kk true,ty,pos,af,g⟩ d (.tup [ev.dv (wR mp k zero),db (zB0 mp k)]):=
 ⟨rfl,hn,λS' G=>zV rfl hn (by simp) λA w I ρ C K=>by
  have h:=K.blks id;rw[(G.blk id).trans hb] at h;obtain⟨b,ab,D,aa,_,hh,hp,_⟩:=h;have hv:=K.ev km;rw[(G.ev (by simp[Op.operands])).trans hm] at hv;have O:A.eval km= .map (some b):=Eq.trans hv aa;have H:=K.val ((G.ev (x:=kk) (by simp[Op.operands])).trans hk);have Z:=hz w I;obtain⟨v,h1,h2⟩:=zJ2 (w:=w) (I:=I) hT hK hh hp Z true;refine⟨.tuple #[v,.bool (zB0 mp k)],?_,[v,.bool (zB0 mp k)],rfl,Pw.cons h2 (Pw.cons (.v _) Pw.nil)⟩;simp only[execOp,O,H,dP,h1];rfl⟩
theorem yFX (O:d<E.n) (D:E.nm d=none):jI P r E ⟨some d,.makeMap t none,ty,pos,af,g⟩ S (((S.kill d).setBlk d (.map [])).put d (.row d)):=
 vR (by simp) λA w I ρ C G=>by
  have H:∀b j,I b j->b<w.heap.size:=λb j h=>(G.old b j h).1;have hb:=G.update (zG7 w (.map #[] 0)) (id:=d) (u:= .map (some w.heap.size)) (x:= .map []) (by simp) (zEU _ H) (λb hb=> .inl (by simp[blockOf] at hb;omega))
   ⟨w.heap.size,#[],0,by simp[upd],E.mineB _ (E.size _ _ _ G.frame),hF w _,Pw.nil,λj K=>by have:=H _ j K;omega,.nil⟩ (.inl rfl) D
  refine⟨.map (some w.heap.size),w.alloc (.map #[] 0),?_,I,_,C,hb.put O (by simp[Holds,upd])⟩;simp only[execOp,Instr.makeMap,iu,dP,run_newObj_alloc,dR,eQ]
theorem zM3 {b D:Nat} {G:Array MapEntry} {H:Obj} (h:w.heap[b]? =some (.map G D)):(setObj b H).run P w= .ok () {w with heap:=w.heap.setIfInBounds b H}:=by simp[setObj,Sem.run,h]
theorem z6M {v: ν} (hT:MapTy P t kt vt zv) (hK:KeyTy P kt kv) (hm:S.ev km= .row id) (hb:S.blk id= .map (jF kv ev mp)) (hk:S.ev kk= .d (.v (kv k))) (hx:S.ev x= .d u) (hu:u=ev.dv v) (hE:E.wrB=true):
    jI P r E ⟨none,.mapUpdate t km kk x,ty,pos,af,g⟩ S (S.setBlk id (.map (jF kv ev (vS mp k v)))):=
  zGS rfl (by simp) λA w I ρ C hs=>by
    subst hu;have ad:=hs.blks id;rw[hb] at ad;obtain⟨b,H,K,ab,hM,hh,hp,hI,hN⟩:=ad;have hv:=hs.ev km;rw[hm] at hv;have aj:A.eval km= .map (some b):=Eq.trans hv ab;have ah:=hs.val hk;have aa:=hs.ev x;rw[hx] at aa;have ap:=(dX.1 hh).1;have hf:=hK.find k _ H.toList w (z2T hp);have Z:(getObj b).run P w= .ok (.map H K) w:=by simp[getObj,Sem.run,hh]
    have ac:∀(G:Array MapEntry) (D:Nat),Pw (λ(x:MapEntry) (y:Value×DV)=>x.key=y.1/\Rep w I x.val y.2) G.toList (jF kv ev (vS mp k v))->Born G D->
        Sat E (S.setBlk id (.map (jF kv ev (vS mp k v)))) A {w with heap:=w.heap.setIfInBounds b (.map G D)}:=by
      intro G D ar ao;have hg:w.grownBy {w with heap:=w.heap.setIfInBounds b (.map G D)} (some b):=
        ⟨rfl,rfl,rfl,by simp,λq _ hq=>eX (λe=>hq (by rw[e]))⟩
      have O:Same I w {w with heap:=w.heap.setIfInBounds b (.map G D)}:=λb' j hi=>by
        have:b'≠b:=λe=>hI j (e▸hi);exact KeepB.of (eX (λe=>this e.symm))
      refine⟨I,ρ,C,hs.modify hg (by rw[hb];simp) (by rw[ab];rfl) O ⟨b,G,D,ab,hM,by simp[ap],ar.imp λ_ _ h=>⟨h.1,h.2.mono O (λ_ _ h=>h)⟩,hI,ao⟩ hE⟩
    rcases zM2 (a:=k) (i:=0) hp with ⟨e1,e2⟩ | ⟨v0,j,x0,e1,e2,e3,⟨q,q1,q2,q3⟩,e4⟩
    · rw[e2] at hf
      refine⟨_,?_,ac (H.push {key:=kv k,val:=A.eval x,born:=K}) (K+1) ?_ hN.push⟩
      · simp only[execOp,aj,ah,Instr.mapUpdate,dP,eM hT.und,dR,Z,hK.check,hf,zM3 hh,eQ]
      · rw[z6K e1]
        simp only[jF,ja,Array.toList_push,fp,gE];exact Pw.append hp (Pw.cons ⟨rfl,aa⟩ Pw.nil)
    · rw[e2] at hf
      have hq:H[0+j]? =some q:=by rw[fM];simpa using q1
      have ag:(Instr.keyThatStays (((H[0+j]?).map (·.key)).getD (kv k)) (kv k)).run P w= .ok (kv k) w:=by
        rw[hq];simp only[gJ,iU,q2,Instr.keyThatStays,hK.same,eK,eQ]
      refine⟨_,?_,ac (H.modify (0+j) λe=>{e with key:=kv k,val:=A.eval x}) K ?_ (hN.modify λ_=>rfl)⟩
      · simp only[execOp,aj,ah,Instr.mapUpdate,dP,eM hT.und,dR,Z,hK.check,hf,ag,zM3 hh,eQ]
      · rw[fM,Array.toList_modify]
        exact e4 (A.eval x) v _ (λ_=> .inr rfl) (λ_=>rfl) aa
end
end
def FnC (P:Program) (c:DV) (ds rs:List DV):Prop:=
 (∃f h,c= .fn f h/\zB P f (ds++h) rs)\/(∃f,c= .v (.func (.func f) #[] #[])/\zB P f ds rs)\/
 (∃m t u f y,c= .v (.func (.method m) #[.iface t u] #[])/\(∀args w,(callMethod (.iface t u) m args).run P w=(callFunc f (#[u]++args)).run P w)/\(∀w I,Rep w I u y)/\zB P f (y::ds) rs)
section
theorem z08 {us:List Value} {ys:List DV} {S':AState} {ρ:Nat->Value} {K:Act->World->Prop} {Q:Exit->Act->World->Prop} (hn:d<E.n) (H:SatAt E S' A w I ρ C) (hc:zB P f ys rs) (hG:E.gdt=vF P) (h3:Reps w I us ys)
  (aa:∀fn,P.funcs[f]? =some fn->(fn.name== "runtime.NumGoroutine")=false->fn.body.isNone=false->(execOp A.eval ⟨some d,.call {callee:= .value x,args:=xs.toArray,argTypes:=ats},ty,pos,af,g⟩).run P w= .ok (.enter f us.toArray) w)
  (hk:∀a' w',Sat E (S'.put d (zQP rs)) a' w'->K a' w'):Oper.wpIn (fen r) 0 P ⟨some d,.call {callee:= .value x,args:=xs.toArray,argTypes:=ats},ty,pos,af,g⟩ A w K Q:=by
 obtain⟨⟨fn,hf,G,h⟩,D⟩:=hc;have ag:=D w I us (λb j hi=>(H.old b j hi).1) (hG▸H.gl) h3;refine⟨λf _=>trivial,?_⟩;rw[Oper.semAt_eq _ _ _ (by simp)];rw[aa fn hf G h];refine⟨by simp[fen,Fence.wide],?_⟩;show CallsIn Fence.wide 0 P f _ w _;refine g8.2 (ag.mono ?_)
 rintro e w' ⟨v,I',rfl,hb,ab,O,Z⟩
 refine hk _ _ ⟨I',ρ,C,SatAt.put ?_ hn (zIL Z)⟩;have h4:=H.grow hb;exact h4.widen ab O (λi b hi ac=>(H.blt i b hi ac).2) (E.size _ _ _ H.frame) (λb hc=>E.csize _ _ _ H.frame b hc)
theorem zM4 {c:DV} {ds:List DV} (hn:d<E.n) (hx:S.ev x= .d c) (Z:unD (xs.map S.ev)=some ds) (G:FnC P c ds rs) (hG:E.gdt=vF P:=by rfl):
  AOp P r E S ⟨some d,.call {callee:= .value x,args:=xs.toArray,argTypes:=ats},ty,pos,af,g⟩ d (zQP rs):=by
 rcases G with ⟨f,al,rfl,G⟩ | ⟨f,rfl,G⟩ | ⟨m,t,u,f,y,rfl,hm,hu,G⟩
 ·exact yOP hn hx Z G hG
 all_goals
  refine⟨rfl,hn,λS' O=>?_⟩;have ak:=(O.ev (x:=x) (by simp[Op.operands,Call.operands])).trans hx;have aa:unD (xs.map S'.ev)=some ds:=by
   have:xs.map S'.ev=xs.map S.ev:=fZ λy hy=>O.ev (by simp[Op.operands,Call.operands,hy]);rw[this];exact Z
  obtain⟨ag,ah⟩:=zFT S' aa
  rintro A w K Q ⟨I,ρ,C,hs⟩ hk
  obtain⟨I1,h1,h2,h3⟩:=SatAt.dvL _ hs (v2 hs xs) ag;rw[ah] at h2;have hv:=hs.val ak
 ·refine z08 hn h2 G hG h3 (λfn hf D h=>?_) hk
  simp only[execOp,resolve,hv,Deferred.ofValue];have H:¬fn.name= "runtime.NumGoroutine" :=by simpa using D
  have hn2:¬fn.body=none:=by intro e;simp[e] at h
  simp[invoke,callFunc,hf,H,hn2,fq]
 ·refine z08 (us:=u::xs.map A.eval) hn h2 G hG ?_ (λfn hf D h=>?_) hk
  ·refine⟨by simp[h3.1],λj a b O hb=>?_⟩
   cases j with
   | zero=>simp only[List.getElem?_cons_zero,gD] at O hb;subst O;subst hb;exact hu w I1
   | succ j=>exact h3.2 j a b (by simpa using O) (by simpa using hb)
  ·simp only[execOp,resolve,hv,Deferred.ofValue]
   have H:¬fn.name= "runtime.NumGoroutine" :=by simpa using D
   have hn2:¬fn.body=none:=by intro e;simp[e] at h
   have he:(#[Value.iface t u]++xs.toArray.map A.eval).extract 1 (#[Value.iface t u]++xs.toArray.map A.eval).size=xs.toArray.map A.eval:=by
    rw[<-Array.toList_inj];simp[gS]
   have h0:(#[Value.iface t u]++xs.toArray.map A.eval)[0]? =some (.iface t u):=by simp
   have h1:(callMethod (.iface t u) m (xs.toArray.map A.eval)).run P w= .ok (.enter f (u::xs.map A.eval).toArray) w:=by
    rw[hm];simp[callFunc,hf,H,hn2,fq]
   simp only[dP,eQ,dR,invoke,h0,he,h1]
variable {ops:Array Oper} {rest:List Oper} {J:AState->Prop} {j t:Nat} {want b c:Bool} {x:AV}
theorem k6 (h:AOp P r E S o d x) (k:Sq P r E ops rest (S.put d x) J) (D:o.guard=none:=by rfl):Sq P r E ops (o::rest) S J:=yS7 (z5T D h) k
theorem daa (h:AOp P r E S o d x) (k:DA P r E ops rest (S.put d x) J) (D:o.guard=none:=by rfl):DA P r E ops (o::rest) S J:=yS8 (z5T D h) k
theorem gF {b:Bool} (h:gd false b=true):b=false:=by cases b;rfl;cases h
theorem zGV {t:Nat} {x:DV} (h:S.dv (S.get t).un=some x):RetS P S [.tmp t] [x]:=⟨_,_,rfl,h,rfl⟩
theorem zAB {a t id:Nat} {cells:List AV} {ds:List DV} (h:(S.get a).un= .ptr id 0) (D:S.blk id= .box e cells) (G:AggTy P t cells.length) (H:S.dvL cells=some ds):RetS P S [.cell a t] [.agg ds]:=
 ⟨_,_,id,e,cells,rfl,h,D,.inr ⟨ds,G,H,rfl⟩,rfl⟩
end
abbrev wi (n:Int):Int:=IntKind.i64.wrap n
abbrev wu (n:Int):Int:=IntKind.u64.wrap n
theorem zS {a b:Bool} (h:(a&&b)=true):a=true/\b=true:=by simpa using h
section
theorem z2U {t:Nat} (h:(P.info? t).map (·.size)=some n) (w:World):(sizeOf t).run P w= .ok n w:=by
 cases hi:P.info? t with
 | none=>simp[hi] at h
 | some i=>simp[hi] at h;simp[sizeOf,typeInfo,hi,h]
theorem z2V {t:Nat} (h:(P.info? t).bind (·.zero)=some z) (w:World):(zeroValue t).run P w= .ok z w:=by
 cases hi:P.info? t with
 | none=>simp[hi] at h
 | some i=>simp[hi] at h;simp[zeroValue,typeInfo,hi,h]
theorem FldTy.of (K:P.underlying s=some (.struct fields)) (D:(fields[k]?).map (λf=>(f.offset,f.type))=some (off,t)) (H:(P.info? t).map (·.size)=some n) (G:0<n):FldTy P s k off n t:=by
 cases h:fields[k]? with
 | none=>simp[h] at D
 | some f=>simp[h] at D;exact⟨⟨fields,f,K,h,D.1,D.2⟩,z2U H,G⟩
theorem zU7 (w:World):∀(D:List Field) (places:List (Nat×Nat)),D.map (λf=>(f.offset,(P.info? f.type).map (·.size)))=places.map (λp=>(p.1,some p.2))->
    (D.mapM λ(f:Field)=>(do pure (f.offset,<-sizeOf f.type):Sem (Nat×Nat))).run P w= .ok places w
  | [],places,h=>by cases places with
    | nil=>simp
    | cons p ps=>simp at h
  | f::D,places,h=>by cases places with
    | nil=>simp at h
    | cons p ps=>
      simp only[fp,List.cons.injEq,Prod.mk.injEq] at h;have G:=z2U h.1.2 w;have H:=zU7 w D ps h.2;simp only[iS,dP,G,dR,eQ,H,h.1.1]
theorem StTy.of {zs:List Value} (G:P.underlying t=some (.struct fields)) (D:fields.toList.map (λf=>(f.offset,(P.info? f.type).map (·.size)))=places.map (λp=>(p.1,some p.2)))
    (K:((P.info? t).bind (·.zero))=some (.agg zs.toArray)) (h:zs.all Value.oneCell'=true):StTy P t places zs:=by
  refine⟨⟨fields,G,λw=>?_⟩,z2V K,λx H=>eO.1 h x H⟩;rw[Array.mapM_eq_mapM_toList];simp only[Sem.run_map,zU7 w _ _ D,dR]
theorem MapTy.of {h:TypeId} {D:Value} (G:P.underlying t=some (.map kt h)) (H:(P.info? h).bind (·.zero)=some D):MapTy P t kt h D:=⟨G,z2V H⟩
def zZI:List DV->List DV->Prop
 | [],[]=>True
 | a::as,b::bs=>(a=b\/(a= .v (.slice none 0 0)/\∃s,b= .sl s []))/\zZI as bs
 | _,_=>False
theorem zXJ:∀{vs:List Value} {as bs:List DV},zZI as bs->Reps w I vs as->Reps w I vs bs
 | vs,[],[],_,h=>h
 | vs,[],b::bs,h,_=>h.elim
 | vs,a::as,[],h,_=>h.elim
 | [],a::as,b::bs,_,D=>by have:=D.1;simp at this
 | v::vs,a::as,b::bs,h,D=>by
  obtain⟨G,H⟩:=zLD D;refine Pw.cons ?_ (zXJ h.2 H);rcases h.1 with rfl | ⟨rfl,s,rfl⟩;exact G;cases G;exact .nil _ _ _
theorem yOV (h:zB P f bs rs) (G:zZI as bs):zB P f as rs:=
 ⟨h.1,λw I vs D hG H=>h.2 w I vs D hG (zXJ G H)⟩
end
section
theorem run_equalIn_int {k:IntKind} (h:P.underlying t=some (.int k)) (d:Nat) (a b:Int) (w:World):(Op.equalIn (d+1) t (.int k' a) (.int k' b)).run P w= .ok (decide (a=b)) w:=by rw[Op.equalIn];simp only[dP,eM h,dR,eK,eQ];rfl
theorem zVM (h:P.underlying t=some .string) (d:Nat) (a b:Str) (w:World):(Op.equalIn (d+1) t (.string ⟨a.toArray⟩) (.string ⟨b.toArray⟩)).run P w= .ok (decide (a=b)) w:=by rw[Op.equalIn];simp only[dP,eM h,dR,eQ,z2S]
theorem zJ3 {xs:Array Value} {a:Value} (h:∀w,(isAgg t).run P w= .ok false w) (D:xs[off]? =some a) (w:World):(part t xs off).run P w= .ok a w:=by simp[part,h,D]
theorem z09 {F:Field->Option Bool×PUnit->Sem (ForInStep (Option Bool×PUnit))}:∀(D:List Field) (cs:List Bool),Pw (λ(f:Field) c=> ∀s,(F f s).run P w= .ok (if c then .yield (none,()) else .done (some false,())) w) D cs->
  (forIn D ((none,()):Option Bool×PUnit) F).run P w= .ok (if cs.all id then (none,()) else (some false,())) w
 | [],cs,h=>by cases cs with
  | nil=>simp
  | cons c cs=>have:=h.1;simp at this
 | f::D,cs,h=>by cases cs with
  | nil=>have:=h.1;simp at this
  | cons c cs=>
   obtain⟨G,H⟩:=zLD h;have K:=z09 D cs H;rw[List.forIn_cons];simp only[dP,G,dR];cases c with
   | false=>simp
   | true=>simpa using K
def Eqs (P:Program) (d:Nat) (xs ys:Array Value) (w:World) (h:List Field) (cs:List Bool):Prop:=
 Pw (λ(f:Field) c=>f.name≠ "_" /\(∀w,(isAgg f.type).run P w= .ok false w)/\∃a b,xs[f.offset]? =some a/\ys[f.offset]? =some b/\(Op.equalIn d f.type a b).run P w= .ok c w) h cs
theorem z2W {xs ys:Array Value}:Eqs P d xs ys w [] []:=Pw.nil
section
variable {xs ys:Array Value} {f:Field} {fs:List Field} {cs:List Bool} (hn:(f.name== "_")=false) (ho:OneTy P f.type) (hs:Eqs P (d+1) xs ys w fs cs)
include hn ho hs
theorem zSB {k:IntKind} {a:Int} (h:P.underlying f.type=some (.int k)) (D:xs[f.offset]? =some (.int k' a)) (G:ys[f.offset]? =some (.int k' b)):Eqs P (d+1) xs ys w (f::fs) (decide (a=b)::cs):=
 Pw.cons ⟨by simpa using hn,ho.agg,_,_,D,G,run_equalIn_int h d a b w⟩ hs
theorem yOW {a b:Str} (h:P.underlying f.type=some .string) (D:xs[f.offset]? =some (.string ⟨a.toArray⟩)) (G:ys[f.offset]? =some (.string ⟨b.toArray⟩)):Eqs P (d+1) xs ys w (f::fs) (decide (a=b)::cs):=
 Pw.cons ⟨by simpa using hn,ho.agg,_,_,D,G,zVM h d a b w⟩ hs
end
structure EqTy {α:Type} [DecidableEq α] (P:Program) (t:TypeId) (en:En α):Prop where
 eq:∀(a b: α) (va vb:Value) w I,Rep w I va (en.dv a)->Rep w I vb (en.dv b)->(∃xs ys,va= .agg xs/\vb= .agg ys)/\(Op.equal t va vb).run P w= .ok (decide (a=b)) w
 guard:∀(op:BinOp) (x y:Operand) xs ys w,(eqGuard op t x y (.agg xs) (.agg ys)).run P w= .ok () w
theorem zOS {u:Value} (h:Rep w I u (.v v)):u=v:=by cases h;rfl
theorem zL7 (h:Rep w I v (.agg (vs.map DV.v))):v= .agg vs.toArray:=by
 cases h with
 | agg xs cells Z D O=>
  congr 2;apply hJ;intro j;have H:xs.length=vs.length:=by simpa using Z
  by_cases K:j<xs.length;have D:xs[j]? =some xs[j]:=dT K;have G:vs[j]? =some (vs[j]'(by omega)):=dT (by omega);have:=O j xs[j] (.v (vs[j]'(by omega))) D (by simp[G]);rw[D,G,zOS this];rw[fN (by omega),fN (by omega)]
theorem EqTy.of {G:Type} [DecidableEq G] {en:En G} {vals: G->List Value} {cs: G->G->List Bool} (hu:P.underlying t=some (.struct fields)) (O:P.stoodInHeld t=false) (hg:P.eqGuardType P.depth t=false)
  (hv:∀a,en.dv a= .agg ((vals a).map DV.v)) (he:∀a b w,Eqs P (9998+1) (vals a).toArray (vals b).toArray w fields.toList (cs a b)) (hc:∀a b,(cs a b).all id=decide (a=b)):EqTy P t en where
 eq:=λa b va vb w I h1 h2=>by
  rw[hv] at h1 h2;rw[zL7 h1,zL7 h2];refine⟨⟨_,_,rfl,rfl⟩,?_⟩;show (Op.equalIn (9999+1) t _ _).run P w=_;rw[Op.equalIn];simp only[dP,eM hu,dR];have K:(program).run P w= .ok P w:=by rfl
  simp only[K,O,dR,fg,eE,eQ];rw[<-Array.forIn_toList,<-hc a b];have D:=λF h=>z09 (P:=P) (w:=w) (F:=F) fields.toList (cs a b) h;simp only[dP];rw[D _ ⟨(he a b w).1,λj f c hf H s=>?_⟩]
  ·simp only[dR]
   cases (cs a b).all id<;>simp
  ·obtain⟨q1,q2,x,y,q3,q4,q5⟩:=(he a b w).2 j f c hf H
   simp only[q1,ne_eq,not_false_eq_true,eK,dP,zJ3 q2 q3,zJ3 q2 q4,dR];have Z:(Op.equalIn 9999 f.type x y).run P w= .ok c w:=q5;rw[Z];cases c<;>simp
 guard:=λop x y xs ys w=>by
  have K:(program).run P w= .ok P w:=by rfl
  cases op<;>simp[eqGuard,K,hg]
theorem z2X {D:Type} [DecidableEq D] {en:En D} {a b: D} (hn:d<E.n) (hT:EqTy P tx en) (hx:S.ev x= .d (en.dv a)) (hy:S.ev y= .d (en.dv b)):
  AOp P r E S ⟨some d,.binOp .eql tx x y tz,ty,pos,af,g⟩ d (.d (.v (.bool (decide (a=b))))):=
 ⟨rfl,hn,λS' h=>yD rfl hn (by simp) λA w I ρ C hs=>by
  have K:=hs.ev x;rw[(h.ev (by simp[Op.operands])).trans hx] at K;have O:=hs.ev y;rw[(h.ev (by simp[Op.operands])).trans hy] at O;obtain⟨⟨xs,ys,G,H⟩,Z⟩:=hT.eq a b _ _ w I K O;rw[G,H] at Z;have hb:binOp .eql tx (.agg xs) (.agg ys)=(do pure (.bool (<-Op.equal tx (.agg xs) (.agg ys)))):=rfl;simp only[execOp,G,H,dP,hT.guard,dR,hb,Z,eQ]⟩
theorem z2Y {D:Type} [DecidableEq D] {en:En D} {a b: D} (hn:d<E.n) (hT:EqTy P tx en) (hx:S.ev x= .d (en.dv a)) (hy:S.ev y= .d (en.dv b)):
  AOp P r E S ⟨some d,.binOp .neq tx x y tz,ty,pos,af,g⟩ d (.d (.v (.bool (!decide (a=b))))):=
 ⟨rfl,hn,λS' h=>yD rfl hn (by simp) λA w I ρ C hs=>by
  have K:=hs.ev x;rw[(h.ev (by simp[Op.operands])).trans hx] at K;have O:=hs.ev y;rw[(h.ev (by simp[Op.operands])).trans hy] at O;obtain⟨⟨xs,ys,G,H⟩,Z⟩:=hT.eq a b _ _ w I K O;rw[G,H] at Z;have hb:binOp .neq tx (.agg xs) (.agg ys)=(do pure (.bool (!(<-Op.equal tx (.agg xs) (.agg ys))))):=rfl;simp only[execOp,G,H,dP,hT.guard,dR,hb,Z,eQ]⟩
theorem zM5 {t:Nat} {id eb:Nat} {cells:List AV} {ds:List DV} (hT:AggTy P t n) (hx:S.ev x= .ptr id 0) (hb:S.blk id= .box eb cells) (hy:S.ev y= .d (.agg ds)) (hl:cells.length=n) (ai:ds.length=n) (hE:E.wrB=true):
  jI P r E ⟨none,.store t x y,ty,pos,af,g⟩ S (S.setBlk id (.box eb (ds.map AV.d))):=
 zGS rfl (by simp) λA w I ρ C hs=>by
  have h:=hs.ev x;rw[hx] at h;obtain⟨b,H,hv⟩:=h;have O:=hs.blks id;rw[hb] at O;obtain⟨K,arr,G,hB,hh,ap,aj,hI⟩:=O;have ah:K=b:=by rw[G] at H;simpa[blockOf] using H
  subst ah;have ab:=hs.ev y;rw[hy] at ab;have D:Rep w I (A.eval y) (.agg ds):=ab;generalize he:A.eval y=vy at D;cases D with
  | agg xs ac Z h1 hr=>
   have az:arr.size=n:=by rw[<-fB,aj.1];exact hl
   have al:xs.length=n:=by rw[Z];exact ai
   have aa:=zQ7 (P:=P) w hT (b:=K) (off:=0) (vs:=xs) hh (by omega) al h1;have e1:arr.toList.take 0++xs++arr.toList.drop (0+n)=xs:=by
    rw[List.drop_eq_nil_of_le (by simp;omega)];simp
   rw[e1] at aa;refine⟨_,?_,I,ρ,C,hs.modify (zCU w K xs.toArray) (by rw[hb];simp) H (vA hI) ⟨K,xs.toArray,G,hB,iQ w K arr _ eb _ hh,by simpa using h1,?_,hI⟩ hE⟩
   ·simp only[execOp,hv,he,dP,aa]
    rfl
   ·have ak:Reps w I xs ds:=⟨Z,hr⟩
    exact yTB (ρ:=ρ) (Reps.mono ak (vA hI) (λ_ _ h=>h))
end
section
theorem yJ0 {x y:DV} (G:d<E.n) (D:∀w I v,Rep w I v x->Rep w I v y) (h:Sat E (S.put d (.d x)) a w):Sat E (S.put d (.d y)) a w:=by
 obtain⟨I,ρ,C,h⟩:=h;refine⟨I,ρ,C,⟨λu=>?_,h.blks,h.dist,by have:=h.frame;rw[vZ _ _ G] at this ⊢;exact this,h.sub,h.old,h.size,h.defers,h.cI,h.cB,h.nm⟩⟩
 have:=h.tmps u;rw[wK] at this ⊢;by_cases e:d=u;simp only[e,eK] at this ⊢;exact D _ _ _ this;simp only[e,eE] at this ⊢;exact this
theorem AOp.conv {x y:DV} (h:AOp P r E S o d (.d x)) (O:∀w I v,Rep w I v x->Rep w I v y):AOp P r E S o d (.d y):=
 ⟨h.1,h.2.1,λS' H a w K Q hs Z=>h.2.2 S' H a w K Q hs λG w' D=>Z G w' (yJ0 h.2.1 O D)⟩
theorem z6N (G:zZI as bs) (h:Rep w I v (.agg as)):Rep w I v (.agg bs):=by
 cases h with
 | agg xs cells K D H=>
  have:=zXJ G (⟨K,H⟩:Reps w I xs as);exact .agg xs bs this.1 D this.2
theorem AOp.nils (h:AOp P r E S o d (.d (.agg as))) (D:zZI as bs):AOp P r E S o d (.d (.agg bs)):=h.conv λ_ _ _ G=>z6N D G
theorem zM6 {i:Nat} {c:Cap} (G:d<E.n) (hx:S.ev x= .tupc cs) (hi:cs[i]? =some c):AOp P r E S ⟨some d,.extract x i,ty,pos,af,g⟩ d c.av:=
 ⟨rfl,G,λS' K=>zV rfl G (by simp) λA w I ρ C O=>by
  have h:=O.ev x;rw[(K.ev (by simp[Op.operands])).trans hx] at h;obtain⟨xs,Z,H⟩:=h;have D:i<xs.length:=by rw[H.1];exact(dV.1 hi).1
  refine⟨xs[i],?_,Cap.holds (H.2 i _ c (dT D) hi)⟩;simp only[execOp,Z];simp[Instr.extract,dT D]⟩
theorem z6O {c:List Cap} (h:d<E.n) (D:S.ev x= .tupc c):AOp P r E S ⟨some d,.move x,ty,pos,af,g⟩ d (.tupc c):=zGU h D
theorem zSC {id:Nat} {cells:List DV} (hb:S.blk id= .row e size false cells):zDZ E S (S.setBlk id (.win e size 0 cells)):=by
 rintro a w ⟨I,ρ,C,h⟩
 have hk:=h.blks id;rw[hb] at hk;obtain⟨hp,n,xs,hl,D,h1,hr,hI⟩:=hk;have ag:S.blk id≠ .none:=by rw[hb];simp
 have key:∀i,(S.setBlk id (.win e size 0 cells)).blk i≠ .none->S.blk i≠ .none:=by
  intro i hi;rw[yC] at hi;by_cases K:id=i;subst K;exact ag;simpa[K] using hi
 refine⟨I,ρ,C,⟨h.tmps,λi=>?_,λi i' b hn hi ac=>h.dist i i' b hn (key i hi) (key i' ac),h.frame,h.sub,h.old,h.size,h.defers,h.cI,λi b hi=>h.cB i b (key i hi),λi v G hi=>h.nm i v G (key i hi)⟩⟩;rw[yC];by_cases K:id=i;subst K;simp only[eK];rcases D.2 with ⟨G,ad⟩ | ⟨O,aa,H,G,hB,hh,Z,aq,ab,au⟩
 subst ad;exact⟨none,0,0,xs,G,d9 _,hp.1,hl,hr,h1,.inl ⟨rfl,rfl⟩⟩;refine⟨_,n,aa,xs,G,Z,hp.1,hl,hr,h1,.inr ⟨O,0,H,rfl,hp.2 O (by rw[G];rfl),hh,?_,λj x hj=>?_,λj _ hj hi=>?_⟩⟩
 rw[fM,ab];exact fP _ Z;have:=D.cells (g:=O) (by rw[G];rfl) j x hj
 rw[zFF,gN w O (0+j) H e (0,0) hh] at this;exact this;have:=(hI O j (by rw[G];rfl) hi).1;cases this;simp only[K,eE];exact h.blks i
theorem yAC {t id:Nat} {cells:List DV} (hn:t<E.n) (ht:S.get t= .row id) (hb:S.blk id= .win e size k cells):zDZ E S ((S.setBlk id .none).put t (.d (.sl size cells))):=by
 rintro a w ⟨I,ρ,C,h⟩
 have hk:=h.blks id;rw[hb] at hk;obtain⟨A,n,c,xs,hv,ah,hp,Z,hr,h1,hA⟩:=hk;have O:S.blk id≠ .none:=by rw[hb];simp
 let I':Im:=λb j=>I b j\/(∃off,A=some ⟨b,off,none⟩/\off<=j/\j<off+n*size)
 have D:∀b j,I b j->I' b j:=λb j hi=> .inl hi;have key:∀i,((S.setBlk id .none).put t (.d (.sl size cells))).blk i≠ .none->S.blk i≠ .none/\i≠id:=by
  intro i hi;rw[zPK,yC] at hi;by_cases H:id=i;subst H;simp at hi;simp only[H,eE] at hi;exact⟨hi,λe2=>H e2.symm⟩
 have K:∀b off,A=some ⟨b,off,none⟩->blockOf (ρ id)=some b:=λb off e=>by rw[hv,e];rfl
 refine⟨I',ρ,C,⟨λu=>?_,λi=>?_,λi i' b ag hi ad=>h.dist i i' b ag (key i hi).1 (key i' ad).1,by rw[vZ _ _ hn];exact h.frame,λb j hi=>D b j (h.sub b j hi),λb j hi=>?_,h.size,h.defers,λb j hi=>?_,λi b hi=>h.cB i b (key i hi).1,λi v hv hi=>h.nm i v hv (key i hi).1⟩⟩
 rw[wK];by_cases H:t=u;subst H;simp only[eK];have:=h.tmps t;rw[ht] at this;have ak:a.tmps.getD t undef= ρ id:=this;rw[ak,hv];rcases hA with ⟨rfl,rfl⟩ | ⟨b,off,arr,rfl,hM,hh,hf,hc,hI⟩
 have:cells= []:=dQ (by simpa using Z);subst this;exact .nil _ _ _;by_cases h0:n=0;subst h0;have:cells= []:=dQ (by simpa using Z);subst this;exact .nil _ _ _;have aj:=hr.mono (jJ I w) D;refine .sl b off n c size xs cells (by omega) ah Z hr.1 (λj x hj=>⟨?_,.inr ⟨off,rfl,by omega,?_⟩⟩) h1 aj.2;rw[gN w b (off+j) arr e (0,0) hh];exact hc j x hj;have:=(dV.1 hj).1;rw[hr.1,Z] at this;omega;simp only[H,eE];exact(h.tmps u).mono (jJ I w) D;show BlkOk w I' ρ E.mine i ((S.setBlk id .none).blk i);rw[yC];by_cases H:id=i;subst H;simp only[eK];trivial;simp only[H,eE];refine(h.blks i).widenI D λb j hx ac hi=>?_;rcases hi with hi | ⟨off,G,_⟩
 exact hi;exact absurd ac (h.dist id i b H O hx (K b off G));rcases hi with hi | ⟨off,G,_⟩
 exact h.old b j hi;have:=h.blt id b O (K b off G);exact⟨this.2,.inr this.1⟩;rcases hi with hi | ⟨off,G,_⟩
 exact h.cI b j hi;exact h.cB id b O (K b off G)
end
def zOT (S:AState) (σ:List (Nat×Nat)) (T:List (Nat×Blk)):Bool:=σ.all λp=>match look Blk.none T p.1,S.blk p.2 with
 | .none,.none=>true
 | .none,_=>false
 | _,_=>true
theorem zJ4 {σ:List (Nat×Nat)} (h:zOT S σ T=true):zPP S σ T:=by
 intro k G D;have:=eO.1 h _ (zED G);simp only[D] at this;cases hb:S.blk (look 0 σ k) with
 | none=>rfl
 | _=>rw[hb] at this;simp at this
theorem zRB {σ:List (Nat×Nat)} (h:((σ.map Prod.fst).Nodup/\(σ.map Prod.snd).Nodup)):Ren σ:=⟨h.1,h.2⟩
section
theorem wL (σ:List (Nat×Nat)) (hc:GC P f args T keep rets T') (hn:d<E.n) (aa:(σ.map Prod.fst).Nodup/\(σ.map Prod.snd).Nodup)
  (h:ArgsAs σ (xs.map S.ev) args) (H:args.all (Cap.idsLt σ)=true) (Z:rets.all (Cap.idsLt σ)=true) (hT:BlksAs S σ T) (G:uS σ T=true) (D:uS σ T'=true)
  (K:zOT S σ T=true) (O:∀k,E.nm k=none) (hE:E.wrB=true) (hG:E.gdt=vF P:=by rfl):
  jI P r E ⟨some d,.call {callee:= .value (.func f),args:=xs.toArray,argTypes:=ats},ty,pos,af,g⟩ S
   (((S.killL (zI4 σ keep T')).setL (renL σ T'++zL1 σ T T')).put d ((zOO rets).ren σ)):=
 z2P σ hn (zRB aa) h H Z hT G D (zJ4 K) (λk _=> .inl (O _)) hc hE hG
end
theorem nl0:zZI [] []:=trivial
theorem nlE {a:DV} (h:zZI as bs):zZI (a::as) (a::bs):=⟨.inl rfl,h⟩
theorem nlN (h:zZI as bs):zZI (.v (.slice none 0 0)::as) (.sl s []::bs):=⟨.inr ⟨rfl,_,rfl⟩,h⟩
end Go.AV


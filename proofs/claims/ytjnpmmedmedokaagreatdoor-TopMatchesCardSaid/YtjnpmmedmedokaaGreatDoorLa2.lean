/- The layer of abstract values: what a temporary holds, said once; every rule of it is proved from the model. Conditions: none. -/
import Derived.Test.YtjnpmmedmedokaaGreatDoorLa1
set_option linter.unusedSimpArgs false
set_option linter.unusedVariables false
set_option linter.unnecessarySimpa false
namespace Go.AV
open Go.RowKit
structure Kept (C:Nat->Prop) (w w':World):Prop where
 size:w.heap.size<=w'.heap.size
 blk:∀b,b<w.heap.size->¬C b->w'.heap[b]? =w.heap[b]?
def zYL (P:Program) (l:Nat) (ys:List Value) (w:World) (b:Bool) (R:World->Prop):Prop:=
 ∃k tmps h body,(Instr.yield l ys.toArray).run P w= .ok (.round l k tmps h body) w/\
  RoundIn Fence.wide 0 P l k tmps h body w λe w'=>e= .returned (.bool b)/\R w'
def z02 (P:Program) (E:Env) (l:Nat) (xs:List (List DV)) (z:Nat->Bool:=λ_=>true):Prop:=
 ∀k C w (I:Im) ys x,xs[k]? =some x->E.fr k C w->(∀b j,I b j->b<w.heap.size/\¬C b/\(E.I0 b j\/E.mine b))->Reps w I ys x->
  zYL P l ys w (z k) λw2=> ∃h,E.fr (k+1) h w2/\Kept C w w2/\∀b,h b->C b\/w.heap.size<=b
section
variable {P:Program} {r:Option Nat} {E:Env} {S:AState} {d:Nat} {ty:TypeId} {pos:String} {af:Array Edge} {g:Option (Nat×Bool)}
theorem SatAt.kept {a:Act} {w w':World} {I:Im} {ρ:Nat->Value} {C H:Nat->Prop} {k:Nat} (h:SatAt E S a w I ρ C) (O:Kept C w w') (hC:∀b,H b->C b\/w.heap.size<=b) (Y:E.fr k H w'):
  SatAt E (S.put GT (.gh k)) a w' I ρ H:=by
 have hs:Same I w w':=λb j hi=>KeepB.of (O.blk b (h.old b j hi).1 (h.cI b j hi));have z:∀b,b<w.heap.size->¬C b->¬H b:=λb hb hc T=>by rcases hC b T with K | K;exact hc K;omega
 have Z:(S.put GT (.gh k)).ghost=k:=by unfold AState.ghost;rw[zAE];simp
 refine⟨λt=>?_,λi=>?_,h.dist,by rw[Z];exact Y,h.sub,λb j hi=>⟨eP (h.old b j hi).1 O.size,(h.old b j hi).2⟩,h.size,?_,λb j hi=>z b (h.old b j hi).1 (h.cI b j hi),λi b hi hb=>z b (h.blt i b hi hb).2 (h.cB i b hi hb),h.nm⟩
 ·rw[zAE]
  by_cases e:GT=t
  ·simp only[e,dH];trivial
  ·simp only[e,cY];exact(h.tmps t).mono hs (λ_ _ h=>h)
 ·show BlkOk w' I ρ E.mine i (S.blk i)
  cases hx:S.blk i with
  | none=>trivial
  | _=>
   rw[<-hx];have G:S.blk i≠ .none:=by rw[hx];simp
   exact(h.blks i).mono hs (λb hb=>O.blk b (h.blt i b G hb).2 (h.cB i b G hb))
 ·refine⟨λdd hd=>?_,h.defers.dist,h.defers.wr⟩
  obtain⟨q,K,h2,h3,h4⟩:=h.defers.each dd hd;have D:=(cU.1 h4).1;exact⟨q,K,h2,z q D h3,(O.blk q D h3).trans h4⟩
theorem zV9 {go:Nat->Bool} {l k:Nat} {x:Operand} {args:List Operand} {ats:Array TypeId} {xs:List (List DV)} {it:List DV} (hn:d<E.n) (hE:z02 P E l xs go) (hx:S.ev x= .d (.v (.func (.yield l) #[] #[]))) (ac:unD (args.map S.ev)=some it)
  (hk:S.ghost=k) (ad:xs[k]? =some it):
  jA P r E ⟨some d,.call {callee:= .value x,args:=args.toArray,argTypes:=ats},ty,pos,af,g⟩ S ((S.put GT (.gh (k+1))).put d (.d (.v (.bool (go k))))):=by
 rintro A w K Q ⟨I,ρ,C,hs⟩ ag
 obtain⟨aa,ab⟩:=zD0 S ac;obtain⟨I1,h1,G,h3⟩:=SatAt.dvL _ hs (uB hs args) aa;rw[ab] at G;have H:=G.frame;rw[hk] at H;obtain⟨fn,tmps,h,body,Y,z⟩:=hE k C w I1 (args.map A.eval) it ad H (λb j hi=>⟨(G.old b j hi).1,G.cI b j hi,(G.old b j hi).2⟩) h3;refine⟨λf _=>trivial,?_⟩;rw[Oper.semAt_eq _ _ _ (by simp)];have ah:(execOp A.eval ⟨some d,.call {callee:= .value x,args:=args.toArray,argTypes:=ats},ty,pos,af,g⟩).run P w= .ok (.round l fn tmps h body) w:=by
  have aj:=hs.val hx;have T:args.toArray.map A.eval=(args.map A.eval).toArray:=by simp
  simp only[execOp,resolve,aj,T,Deferred.ofValue,cW,dU,cX,invoke];simpa using Y
 rw[ah];refine⟨by simp[fen,Fence.wide],?_⟩;show RoundIn Fence.wide 0 P l fn tmps h body w _;refine z.mono ?_
 rintro e w' ⟨rfl,C',O,D,Z⟩
 exact ag _ _ ⟨I1,ρ,C',(G.kept D Z O).put hn (.v _)⟩
def zSE (P:Program) (f:FuncId) (h:List DV) (xs:List (List DV)) (H:Nat->Bool:=λ_=>true):Prop:=
 (∃D,P.funcs[f]? =some D/\(D.name== "runtime.NumGoroutine")=false/\D.body.isNone=false)/\
 ∀(w:World) (I:Im) (vs:List Value) (C:Nat->Prop) (l:Nat) (J:Nat->(Nat->Prop)->World->Prop),
  (∀b j,I b j->b<w.heap.size/\¬C b)->Reps w I vs h->(∀k C w,J k C w->∀b,C b->b<w.heap.size)->(∀k C w w',J k C w->Below w.heap.size w w'->J k C w')->(∀k C w,J k C w->GlI (zAU P) w I)->J 0 C w->
  (∀k C w' (G:Im) ys x,xs[k]? =some x->J k C w'->(∀b j,G b j->b<w'.heap.size/\¬C b/\(I b j\/w.heap.size<=b))->Reps w' G ys x->zYL P l ys w' (H k) λw2=> ∃z,J (k+1) z w2/\Kept C w' w2/\∀b,z b->C b\/w'.heap.size<=b)->
  Calls P f (.func (.yield l) #[] #[]::vs).toArray w λe w'=>e= .returned (.tuple #[])/\∃z,J xs.length z w'
def Env.iter (gdt:Nat->Option (List Value)) (w0:World) (I0:Im) (J:Nat->(Nat->Prop)->World->Prop) (n:Nat) (G:n<=1000000) (z:∀k C w,J k C w->∀b,C b->b<w.heap.size) (D:∀k C w w',J k C w->Below w.heap.size w w'->J k C w') (hG:∀k C w,J k C w->GlI gdt w I0):Env where
 B:=w0.heap.size
 I0:=I0
 n:=n
 fr:=λk C w=>J k C w/\w0.heap.size<=w.heap.size
 wrB:=false
 nle:=G
 mine:=λb=>w0.heap.size<=b
 mineB:=λ_ h=>h
 nm:=λ_=>none
 size:=λ_ _ _ h=>h.2
 csize:=λk C w h=>z k C w h.1
 grow:=λk C w w' h hb=>⟨D k C w w' h.1 hb,d7 h.2 hb.size⟩
 wr:=λh=>by cases h
 turn:=λh=>by cases h
 gdt:=gdt
 gl:=λk C w h=>hG k C w h.1
def yKZ (h:Func) (n:Nat):Exit->AState->Prop
 | .ret,S | .normal,S=>h.results= #[]/\S.ghost=n
 | _,_=>False
theorem z2K {go:Nat->Bool} {f:FuncId} {D:Func} {c:Code} {z:List DV} {xs:List (List DV)} (hf:P.funcs[f]? =some D) (T:(D.name== "runtime.NumGoroutine")=false) (hb:D.body=some c) (hn:z.length+1<=D.ntmps) (K:D.ntmps<=1000000)
  (h:∀w0 I0 J Y Z hG l,z02 P (Env.iter (zAU P) w0 I0 J D.ntmps K Y Z hG) l xs go->Avc P none (Env.iter (zAU P) w0 I0 J D.ntmps K Y Z hG) c (yKZ D xs.length) ⟨(GT,.gh 0)::(0,.d (.v (.func (.yield l) #[] #[])))::zKJ z 1,[]⟩):zSE P f z xs go:=by
 refine⟨⟨D,hf,T,by simp[hb]⟩,λw I vs C l J hI ai Y Z hG h0 hy=>?_⟩;have aq:z02 P (Env.iter (zAU P) w I J D.ntmps K Y Z hG) l xs go:=by
  intro k C w2 I2 ys x hx G an hr;obtain⟨al,tmps,H,body,ag,O⟩:=hy k C w2 I2 ys x hx G.1 an hr;refine⟨al,tmps,H,body,ag,O.mono ?_⟩
  rintro e w3 ⟨rfl,C',h1,h2,h3⟩
  exact⟨rfl,C',⟨h1,d7 G.2 h2.size⟩,h2,h3⟩
 refine gy (n:=0) |>.1 (callsIn_of_wp_marks hf hb trivial ?_)
 have ab:vs.length=z.length:=ai.1;have ah:Sat (Env.iter (zAU P) w I J D.ntmps K Y Z hG) ⟨(GT,.gh 0)::(0,.d (.v (.func (.yield l) #[] #[])))::zKJ z 1,[]⟩ {tmps:=(.func (.yield l) #[] #[]::vs).toArray++Array.replicate (D.ntmps-(Value.func (.yield l) #[] #[]::vs).toArray.size) undef,defers:=[]} w:=by
  refine⟨I,λ_=>undef,C,⟨λt=>?_,λ_=>trivial,λ_ _ _ _ h=>absurd rfl h,⟨h0,dF _⟩,λ_ _ h=>h,λb j h=>⟨(hI b j h).1,.inl h⟩,by simp[Env.iter];omega,DefOk.nil,λb j h=>(hI b j h).2,λ_ _ h=>absurd rfl h,λ_ _ h=>by cases h⟩⟩
  show Holds _ _ _ _ (look AV.top ((GT,.gh 0)::(0,.d (.v (.func (.yield l) #[] #[])))::zKJ z 1) t);rw[kB];by_cases eg:GT=t
  ·simp only[eg,dH];trivial
  ·simp only[eg,cY]
   rw[kB];by_cases e0:0=t
   ·subst e0
    simp only[dH];have:((Value.func (.yield l) #[] #[]::vs).toArray++Array.replicate (D.ntmps-(Value.func (.yield l) #[] #[]::vs).toArray.size) undef).getD 0 undef= .func (.yield l) #[] #[]:=by
     simp[dJ,Array.getElem?_append]
    rw[this];exact .v _
   ·simp only[e0,cY]
    rcases zUN z 1 t with ⟨bg,x,hx,hlk⟩ | hlk
    ·rw[hlk]
     have ht:t-1<vs.length:=by rw[ab];exact(c9.1 hx).1
     refine ai.2 (t-1) _ x ?_ hx;have e1:t=(t-1)+1:=by omega
     have:((Value.func (.yield l) #[] #[]::vs).toArray++Array.replicate (D.ntmps-(Value.func (.yield l) #[] #[]::vs).toArray.size) undef)[t]? =vs[t-1]?:=by
      rw[Array.getElem?_append_left (by simp;omega)]
      simp only[eW]
      conv=>lhs;rw[e1]
      simp
     simp only[dJ,this];simp[ht]
    ·rw[hlk];trivial
 refine gR (h w I J Y Z hG l aq _ w ah) ?_
 rintro en a w' ⟨S,hK,I1,ρ,C1,hs⟩
 have aa:(D.results= #[]/\S.ghost=xs.length)->LeavesInM (fen none) 0 P D a.tmps (λe w'=>e= .returned (.tuple #[])/\∃C',J xs.length C' w') a.defers .returning w':=by
  rintro⟨ad,ap⟩
  have G:=hs.frame;rw[ap] at G;have ac:a.defers= []:=by
   cases hd:a.defers with
   | nil=>rfl
   | cons q qs=>have:=hs.defers.wr (by rw[hd];simp);cases this
  rw[ac];exact⟨_,results_none ad _ _ _,rfl,C1,G.1⟩
 cases en with
 | normal=>exact aa hK
 | ret=>exact aa hK
 | _=>exact hK.elim
end
open Go.RowKit
theorem SatAt.weak {E:Env} {S S':AState} {a:Act} {w:World} {I:Im} {ρ:Nat->Value} {C:Nat->Prop} (h:SatAt E S a w I ρ C) (z:∀t,S'.get t= .top\/S.get t=S'.get t) (k:∀t,S'.blk t= .none\/S.blk t=S'.blk t) (G:E.fr S'.ghost C w):SatAt E S' a w I ρ C:=by
 have hb:∀i,S'.blk i≠ .none->S.blk i≠ .none:=λi hi=>by
  rcases k i with e | e;exact absurd e hi;rw[e];exact hi
 refine⟨λt=>?_,λi=>?_,λi K b O hi H=>h.dist i K b O (hb i hi) (hb K H),G,h.sub,h.old,h.size,h.defers,h.cI,λi b hi D=>h.cB i b (hb i hi) D,λi v T hi=>h.nm i v T (hb i hi)⟩;rcases z t with e | e
 rw[e];trivial;rw[<-e];exact h.tmps t;rcases k i with e | e
 rw[e];trivial;rw[<-e];exact h.blks i
theorem z2L {S:AState}:∀{l:List (Nat×AV)},Cov S l->∀t,look AV.top l t= .top\/S.get t=look AV.top l t
 | [],_,_=> .inl rfl
 | (i,x)::l,h,t=>by
  rw[kB];by_cases e:i=t;simp only[e,dH];exact .inr (e▸h.1);simp only[e,cY];exact z2L h.2 t
theorem zKM {S:AState}:∀{l:List (Nat×Blk)},zMW S l->∀t,look Blk.none l t= .none\/S.blk t=look Blk.none l t
 | [],_,_=> .inl rfl
 | (i,x)::l,h,t=>by
  rw[kB];by_cases e:i=t;simp only[e,dH];exact .inr (e▸h.1);simp only[e,cY];exact zKM h.2 t
def jQ (T:List (Nat×Blk)) (ρ:Nat->Value) (b:Nat):Prop:= ∃id,look Blk.none T id≠ .none/\blockOf (ρ id)=some b
structure RndOk (E:Env) (w1:World) (Iall:Im) (C0:Nat->Prop):Prop where
 lt:∀b j,Iall b j->b<w1.heap.size
 sub:∀b j,E.I0 b j->Iall b j
 size:E.B<=w1.heap.size
def Env.rnd (E:Env) (w1:World) (Iall:Im) (X C0:Nat->Prop) (Z:List Nat) (au:Nat->Value) (O:List Deferred) (l D:Nat) (lp:Loop) (z:RndOk E w1 Iall C0):Env where
 B:=w1.heap.size
 I0:=Iall
 n:=E.n
 fr:=λ_ C w=>E.fr 0 C0 w/\Same Iall w1 w/\Kept (λb=>X b\/b=l) w1 w/\(∀b,C b↔C0 b)/\w.heap[l]? =some (.loop lp)/\(l<w1.heap.size/\D<w1.heap.size/\l≠D)/\w.heap[D]? =some (.deferred (some []))/\DefOk E.B E.wrB C0 w O/\(∀d∈O,∀q,d.target= .collected q->q<w1.heap.size)
 wrB:=E.wrB
 nle:=E.nle
 mine:=λb=>(X b/\E.mine b)\/w1.heap.size<=b
 mineB:=λ_ h=> .inr h
 nm:=λid=>if Z.contains id then some (au id) else E.nm id
 size:=λ_ _ _ h=>h.2.2.1.size
 csize:=λ_ C w h b hb=>E.csize _ _ _ h.1 b ((h.2.2.2.1 b).1 hb)
 grow:=λ_ C w w' h hb=>by
  obtain⟨h1,h2,G,h4,T,h8,Y,h7,h9⟩:=h;refine⟨E.grow _ _ _ _ h1 hb,λb j hi=>?_,⟨d7 G.size hb.size,λb k hn=>(hb.block b (eP k G.size)).trans (G.blk b k hn)⟩,h4,(hb.block l (cU.1 T).1).trans T,h8,(hb.block D (cU.1 Y).1).trans Y,h7.keep λq K=>(hb.block q (cU.1 K).1).trans K,h9⟩;exact(KeepB.of (hb.block b (eP (z.lt b j hi) G.size))).trans (h2 b j hi)
 wr:=λhE _ C w w' row h hg hr hs=>by
  obtain⟨h1,h2,G,h4,T,h8,Y,h7,h9⟩:=h;have hm:∀b,row b->E.mine b/\¬C0 b/\∃o,w.heap[b]? =some o/\isData o=true:=λb hb=>by
   obtain⟨m1,m2,m3⟩:=hr b hb;refine⟨?_,λhc=>m2 ((h4 b).2 hc),m3⟩;rcases m1 with m1 | m1;exact m1.2;exact E.mineB b (d7 z.size m1)
  have H:∀q o,w.heap[q]? =some o->isData o=false->¬row q:=λq o K ho e=>by
   obtain⟨_,_,o',hc,hd⟩:=hr q e;rw[K] at hc;cases hc;rw[ho] at hd;cases hd
  refine⟨E.wr hE _ _ _ _ _ h1 hg hm (λb j hi=>hs b j (z.sub b j hi)),λb j hi=>(hs b j hi).trans (h2 b j hi),⟨d7 G.size hg.size,λb k hn=>?_⟩,h4,(hg.block l (cU.1 T).1 (H l _ T rfl)).trans T,h8,(hg.block D (cU.1 Y).1 (H D _ Y rfl)).trans Y,?_,h9⟩;refine(hg.block b (eP k G.size) (λe=>?_)).trans (G.blk b k hn);rcases (hr b e).1 with m | m
  exact hn (.inl m.1);omega;exact h7.keep λq K=>(hg.block q (cU.1 K).1 (H q _ K rfl)).trans K
 turn:=λhE _ C w w' q h K ht hs=>by
  obtain⟨h1,h2,G,h4,T,h8,Y,h7,h9⟩:=h;refine⟨E.turn hE _ _ _ _ _ h1 (d7 z.size K) ht (λb j hi=>hs b j (z.sub b j hi)),λb j hi=>(hs b j hi).trans (h2 b j hi),⟨by rw[ht.size];exact G.size,λb k hn=>(ht.blk b (by omega)).trans (G.blk b k hn)⟩,h4,(ht.blk l (by omega)).trans T,h8,(ht.blk D (by omega)).trans Y,?_,h9⟩
  refine⟨λdd hd=>?_,h7.dist,h7.wr⟩;obtain⟨u,e1,e2,e3,e4⟩:=h7.each dd hd;have:=h9 dd hd u e1;exact⟨u,e1,e2,e3,(ht.blk u (by omega)).trans e4⟩
 gdt:=E.gdt
 gl:=λ_ _ _ h=>(E.gl _ _ _ h.1).sub z.sub
theorem z7U {w:World} {b j:Nat} (h:∀o,w.heap[b]? =some o->isData o=false):w.cell? ⟨b,j,none⟩=none:=by
 unfold World.cell?;cases hb:w.heap[b]? with
 | none=>rfl
 | some o=>
  cases o with
  | cells c e f=>have:=h _ hb;cases this
  | _=>rfl
theorem Turned.same {l:Nat} {w w':World} (h:Turned l w w') (I:Im):Same I w w':=by
 intro b j _;by_cases e:b=l;subst e;exact⟨by rw[z7U h.no',z7U h.no],λ_ _ q=>by have:=h.no _ q;cases this⟩
 exact KeepB.of (h.blk b e)
theorem SatAt.turn {E:Env} {S:AState} {a:Act} {w w':World} {I:Im} {ρ:Nat->Value} {C:Nat->Prop} (h:SatAt E S a w I ρ C) {l:Nat} (z:Turned l w w') (D:∀d∈a.defers,d.target≠ .collected l) (H:E.fr S.ghost C w'):SatAt E S a w' I ρ C:=by
 have O:=z.same I;refine⟨λt=>(h.tmps t).mono O (λ_ _ h=>h),λi=>?_,h.dist,H,h.sub,λb j hi=>⟨by rw[z.size];exact(h.old b j hi).1,(h.old b j hi).2⟩,h.size,⟨λdd k=>?_,h.defers.dist,h.defers.wr⟩,h.cI,h.cB,h.nm⟩
 cases T:S.blk i with
 | none=>trivial
 | _=>
  rw[<-T];refine(h.blks i).mono O (λb G=>z.blk b ?_)
  rintro rfl
  obtain⟨o,hc,D⟩:=h.cellBlk (by rw[T];simp) G
  rw[z.no o hc] at D;cases D
 obtain⟨q,K,Y,Z,e4⟩:=h.defers.each dd k;exact⟨q,K,Y,Z,(z.blk q (λe=>D dd k (e▸K))).trans e4⟩
theorem SatAt.turn2 {E E':Env} {S:AState} {a:Act} {w w':World} {I:Im} {ρ:Nat->Value} {C:Nat->Prop} (h:SatAt E S a w I ρ C) (eB:E'.B=E.B) (eI:E'.I0=E.I0) (en:E'.n=E.n) (T:E'.mine=E.mine) (G:E'.nm=E.nm) (ew:E'.wrB=E.wrB)
  {l:Nat} (z:Turned l w w') (D:∀d∈a.defers,d.target≠ .collected l) (K:E'.fr S.ghost C w'):SatAt E' S a w' I ρ C:=by
 have Y:=z.same I;refine⟨λt=>(h.tmps t).mono Y (λ_ _ h=>h),λi=>?_,h.dist,K,by rw[eI];exact h.sub,λb j hi=>⟨by rw[z.size];exact(h.old b j hi).1,by rw[eI,T];exact(h.old b j hi).2⟩,by rw[en];exact h.size,⟨λdd k=>?_,h.defers.dist,by rw[ew];exact h.defers.wr⟩,h.cI,h.cB,by rw[G];exact h.nm⟩
 ·rw[T]
  cases Z:S.blk i with
  | none=>trivial
  | _=>
   rw[<-Z];refine(h.blks i).mono Y (λb H=>z.blk b ?_)
   rintro rfl
   obtain⟨o,hc,D⟩:=h.cellBlk (by rw[Z];simp) H
   rw[z.no o hc] at D;cases D
 ·obtain⟨q,O,e2,e3,e4⟩:=h.defers.each dd k
  exact⟨q,O,by rw[eB];exact e2,e3,(z.blk q (λe=>D dd k (e▸O))).trans e4⟩
def zUV (T:List (Nat×Blk)):Bool:=T.all λp=>match p.2 with
 | .row _ _ h _=>!h
 | .win _ _ _ _=>false
 | _=>true
theorem z42 {T:List (Nat×Blk)} (h:zUV T=true) {id e size k:Nat} {cells:List DV} (hb:look Blk.none T id= .win e size k cells):False:=by
 induction T with
 | nil=>cases hb
 | cons p T D=>
  obtain⟨i,x⟩:=p;simp only[zUV,hY,dM] at h;rw[kB] at hb;by_cases z:i=id;simp only[z,dH] at hb;subst hb;simp at h;simp only[z,cY] at hb;exact D h.2 hb
theorem z03 {T:List (Nat×Blk)} (h:zUV T=true) {id e size:Nat} {z:Bool} {cells:List DV} (hb:look Blk.none T id= .row e size z cells):z=false:=by
 induction T with
 | nil=>cases hb
 | cons p T D=>
  obtain⟨i,x⟩:=p;simp only[zUV,hY,dM] at h;rw[kB] at hb;by_cases k:i=id;simp only[k,dH] at hb;subst hb;simpa using h.1;simp only[k,cY] at hb;exact D h.2 hb
def zH7 (h:List Nat):List (Nat×AV)->Bool
 | []=>true
 | (_,.d _)::r=>zH7 h r
 | (_,.ptr id _)::r=>h.contains id&&zH7 h r
 | _=>false
theorem zKN {k:List Nat}:∀{l:List (Nat×AV)},zH7 k l=true->∀t,look AV.top l t= .top\/(∃y,look AV.top l t= .d y)\/∃id off,look AV.top l t= .ptr id off/\k.contains id=true
 | [],_,_=> .inl rfl
 | (i,x)::l,h,t=>by
  rw[kB];by_cases e:i=t;simp only[e,dH];cases x with
  | d y=>exact .inr (.inl ⟨y,rfl⟩)
  | ptr id off=>simp only[zH7,dM] at h;exact .inr (.inr ⟨id,off,rfl,h.1⟩)
  | _=>simp[zH7] at h
  simp only[e,cY];cases x with
  | d y=>exact zKN (l:=l) (by simpa[zH7] using h) t
  | ptr id off=>simp only[zH7,dM] at h;exact zKN h.2 t
  | _=>simp[zH7] at h
def z43:List Tmp->List DV->List (Nat×AV)
 | p::h,x::xs=>z43 h xs++ [(p,.d x)]
 | _,_=>[]
theorem zYM {w:World} {I:Im} {ρ:Nat->Value} {n:Nat}:∀(H:List Tmp) (ys:List Value) (xs:List DV) (tm:Array Value) (l:List (Nat×AV)),H.length=xs.length->Reps w I ys xs->(∀p∈H,p<n)->tm.size=n->
  (∀t,Holds w I ρ (tm.getD t undef) (look AV.top l t))->
  ((H.zip ys).foldl (λ(tmps:Array Value) (q:Tmp×Value)=>tmps.setIfInBounds q.1 q.2) tm).size=n/\
  ∀t,Holds w I ρ (((H.zip ys).foldl (λ(tmps:Array Value) (q:Tmp×Value)=>tmps.setIfInBounds q.1 q.2) tm).getD t undef) (look AV.top (z43 H xs++l) t)
 | [],ys,xs,tm,l,G,k,K,D,h=>by
  have hx:xs= []:=cS (by simpa using G.symm);subst hx;have:ys= []:=cS k.1;subst this;exact⟨D,h⟩
 | p::H,ys,xs,tm,l,G,k,K,D,h=>by
  match xs,ys,G,k with
  | x::xs,y::ys,G,k=>
   have T:Reps w I ys xs:=⟨by have:=k.1;simpa using this,λj u z Z hz=>k.2 (j+1) u z (by simpa using Z) (by simpa using hz)⟩
   have:=zYM H ys xs (tm.setIfInBounds p y) ((p,.d x)::l) (by simpa using G) T (λq Y=>K q (by simp[Y])) (by simp[D]) (λt=>by
    rw[kB];have O:p<tm.size:=by rw[D];exact K p (by simp)
    by_cases e:p=t
    ·subst e
     simp only[dH];have:(tm.setIfInBounds p y).getD p undef=y:=by simp[dJ,O]
     rw[this];exact k.2 0 y x rfl rfl
    ·simp only[e,cY]
     have:(tm.setIfInBounds p y).getD t undef=tm.getD t undef:=by
      rw[dJ,dJ,dZ e]
     rw[this];exact h t)
   simp only[List.zip_cons_cons,ia,z43,dB,im];exact this
  | [],_,G,_=>simp at G
  | _::_,[],_,k=>have:=k.1;simp at this
def yK0 (P:Program) (l:Nat) (h:Env) (body:Code) (k:Exit->AState->Prop):Exit->AState->Prop
 | .normal,S=>Avc P (some l) h body k S
 | _,_=>False
def yK1 (h:List (Nat×Blk)):Exit->AState->Prop
 | .normal,S=>zMW S h
 | _,_=>False
def zMG:Exit->Nat->Nat->Bool
 | .normal,_,_=>false
 | _,n,k=>Nat.beq k n
def goF (h:Exit) (n k:Nat):Bool:=!zMG h n (k+1)
theorem yCV {z:Exit} {n k:Nat} (h:k<n):zMG z n k=false:=by
 have:Nat.beq k n=false:=by
  cases D:Nat.beq k n with
  | false=>rfl
  | true=>have:=io D;omega
 cases z<;>first | rfl | exact this
def z44:Exit->Option Code
 | .ret=>some .ret
 | .exit id=>some (.exit id)
 | _=>none
def z04 (h:Exit) (n k:Nat) (z:List (Nat×Blk)) (e:Exit) (S:AState):Prop:=cond (goF h n k) (yK1 z e S) (e=h/\zMW S z)
theorem zMY (ab:Exit) {P:Program} {E:Env} {S:AState} {g:Operand} {ps:List Tmp} {assign body:Code} {f:FuncId} {am:List DV} {xs:List (List DV)} {K:Exit->AState->Prop}
    (keep:List (Nat×AV)) (O:List Nat) (T:Nat->List (Nat×Blk)) (hg:S.ev g= .d (.fn f am)) (bk:ab= .normal\/((z44 ab).isSome=true/\xs.isEmpty=false)) (fs:zSE P f am xs (goF ab xs.length)) (hE:E.wrB=true) (cp:∀k k' C w,E.fr k C w->E.fr k' C w)
    (cr:Cov S keep) (fh:zMW S (T 0)) (fw:zH7 O keep=true) (ee:∀k,zUV (T k)=true) (dm:∀k id,O.contains id=true->look Blk.none (T k) id≠ .none) (gf:∀id,O.contains id=true->E.nm id=none)
    (gi:∀x∈xs,ps.length=x.length) (gh:∀p∈ps,p<E.n)
    (round:∀w1 Iall X C0 ei cg l D gp gq bd k x,xs[k]? =some x->
      Avc P (some l) (Env.rnd E w1 Iall X C0 O ei cg l D gp bd) assign (yK0 P l (Env.rnd E w1 Iall X C0 O ei cg l D gq bd) body (z04 ab xs.length k (T (k+1)))) ⟨z43 ps x++keep,T k⟩)
    (hK:K ab ⟨keep,T xs.length⟩) (hG:E.gdt=zAU P:=by rfl):Avc P none E (.rangeFunc g ps.toArray assign body) K S:=by
  rintro a w ⟨I,ρ,C0,hs⟩
  obtain⟨⟨dg,fr,ca,bx⟩,cq⟩:=fs;have dw:=hs.ev g;rw[hg] at dw;have cj:Rep w I (a.eval g) (.fn f am):=dw;generalize go:a.eval g=vg at cj;cases cj with
  | fn f bw am fm fl=>
  refine wpIn_rangeFunc λfn _=>?_
  let D:=w.heap.size
  let l:=w.heap.size+1
  let z:Loop:={state:= .ready,pending:=none,fn,tmps:=a.tmps,params:=ps.toArray,assign,body,defers:=D}
  let w1:=(w.alloc (.deferred (some []))).alloc (.loop z)
  let ao:Loop:={z with state:= .done,pending:=z44 ab}
  let Y:Nat->Loop:=λk=>cond (zMG ab xs.length k) ao z
  have dy:∀k,k<xs.length->Y k=z:=λk hk=>by
    simp only[Y,yCV hk,cP]
  have ft:Y 0=z:=by
    rcases bk with e | ⟨_,e⟩
    · simp only[Y,e,zMG,cP]
    · exact dy 0 (e6.2 λh=>by rw[h] at e;cases e)
  refine⟨l,[{target:= .collected D,args:= #[]}],w1,{target:= .fn (.func f) bw.toArray,args:= #[.func (.yield l) #[] #[]]},w1,f,(.func (.yield l) #[] #[]::bw).toArray,w1,?_,?_,λ_ _=>trivial,?_,by simp[fen,Fence.wide],?_⟩
  · simp[Instr.enterLoop,w1,l,D,z,fen]
  · have:(resolve a.eval (rangeCall g l) 0)=Deferred.ofValue (a.eval g) #[.func (.yield l) #[] #[]]:=by
      simp[resolve,rangeCall,Act.eval]
    rw[this,go];simp[Deferred.ofValue]
  · have gc:¬dg.name= "runtime.NumGoroutine" :=by simpa using ca
    have ge:¬dg.body=none:=by intro e;simp[e] at bx
    simp[invoke,callFunc,fr,gc,ge]
  show CallsIn Fence.wide 0 P f _ w1 _;have ha:w1.heap.size=w.heap.size+2:=by simp[w1]
  have dh:Below w.heap.size w w1:=((Below.refl _ _).alloc (dF _) _).alloc (by simp) _;have fy:w1.heap[l]? =some (.loop z):=by
    have:=g8 (w.alloc (.deferred (some []))) (.loop z);simpa[w1,l] using this
  have fb:w1.heap[D]? =some (.deferred (some [])):=by
    have h1:w1.heap[D]? =(w.alloc (.deferred (some []))).heap[D]?:=Below.heap_alloc _ _ _ (by simp[D]);rw[h1];exact g8 w _
  let S0:Nat->AState:=λk=>⟨keep,T k⟩
  have dp:Reps w I bw am:=⟨fm,fl⟩;have bi:∀dd∈a.defers,∀q,dd.target= .collected q->q<w.heap.size:=λdd hd q hq=>by
    obtain⟨u,e1,_,_,e4⟩:=hs.defers.each dd hd;rw[hq] at e1;cases e1;exact(cU.1 e4).1
  let J:Nat->(Nat->Prop)->World->Prop:=λk C w'=> ∃I' G,SatAt E (S0 k) a w' I' G C0/\(∀b j,I b j->I' b j)/\w1.heap.size<=w'.heap.size/\w'.heap[l]? =some (.loop (Y k))/\w'.heap[D]? =some (.deferred (some []))/\∀b,C b↔((C0 b\/jQ (T k) G b)\/b=l)
  have ff:∀k C w',J k C w'->∀b,C b->b<w'.heap.size:=by
    rintro k C w' ⟨I',G,h1,_,_,h4,_,h6⟩ b hb
    rcases (h6 b).1 hb with (hc | ⟨id,h7,h8⟩) | rfl
    · exact E.csize _ _ _ h1.frame b hc
    · exact(h1.blt id b h7 h8).2
    · exact(cU.1 h4).1
  have fg:∀k C w' cy,J k C w'->Below w'.heap.size w' cy->J k C cy:=by
    rintro k C w' cy ⟨I',G,h1,h2,h3,h4,h5,h6⟩ hb
    exact⟨I',G,h1.grow hb,h2,d7 h3 hb.size,(hb.block l (cU.1 h4).1).trans h4,(hb.block D (cU.1 h5).1).trans h5,h6⟩
  have bo:SatAt E (S0 0) a w1 I ρ C0:=(hs.weak (S':=S0 0) (z2L cr) (zKM fh) (cp _ _ _ _ hs.frame)).grow dh;have cm:∀k w' (I':Im) G,SatAt E (S0 k) a w' I' G C0->∀b j,I' b j->¬jQ (T k) G b:=by
    rintro k w' I' G h b j hi ⟨id,h1,h2⟩
    have hk:=h.blks id;have bg:(S0 k).blk id=look Blk.none (T k) id:=rfl;cases hx:look Blk.none (T k) id with
    | none=>exact h1 hx
    | row e size sh cells=>
      rw[bg,hx] at hk;obtain⟨hp,n,ys,hl,ec,_,_,fe⟩:=hk;have gn:=z03 (ee k) hx;subst gn;have gg:(G id).ownBlock=some b:=by
        rcases ec.2 with ⟨cw,_⟩ | ⟨gb,hm,ho,cw,_⟩
        · rw[cw] at h2;cases h2
        · rw[cw] at h2 ⊢;exact h2
      have:=(fe b j gg hi).1;cases this
    | box e cells=>
      rw[bg,hx] at hk;obtain⟨b',arr,br,_,_,_,_,bj⟩:=hk;rw[br] at h2;cases h2;exact bj j hi
    | map es=>
      rw[bg,hx] at hk;obtain⟨b',ents,cn,br,_,_,_,bj,_⟩:=hk;rw[br] at h2;cases h2;exact bj j hi
    | it es q=>
      rw[bg,hx] at hk;obtain⟨b',bm,ents,cn,hj,br,_,_,bj,_⟩:=hk;rw[br] at h2;cases h2;exact bj j hi
    | win e size k' cells=>exact z42 (ee k) hx
  refine gy.2 ((cq w1 I bw (λb=>(C0 b\/jQ (T 0) ρ b)\/b=l) l J (λb j hi=>⟨by have:=(hs.old b j hi).1;omega,λhc=>?_⟩) (dp.mono (λb j hi=>KeepB.of (dh.block b (hs.old b j hi).1)) (λ_ _ h=>h)) ff fg (λk C w' ⟨I',G,h1,h2,_⟩ g' zs du j=>⟨((hG▸h1.gl) g' zs du j).1,((hG▸hs.gl) g' zs du j).2⟩) ⟨I,ρ,bo,λ_ _ h=>h,dF _,(by rw[ft];exact fy),fb,λ_=>Iff.rfl⟩ ?_).mono ?_)
  · rcases hc with (hc | hc) | hc
    · exact hs.cI b j hi hc
    · exact cm 0 w1 I ρ bo b j hi hc
    · have:=(hs.old b j hi).1
      omega
  · -- a round
    rintro k C w' I1 ys x hx ⟨I',G,h1,h2,h3,h4,h5,h6⟩ fc bn
    have ck:ps.length=x.length:=gi x (eT hx);rw[dy k (c9.1 hx).1] at h4;have eg:ys.length=ps.length:=by rw[bn.1,ck]
    refine⟨fn,(ps.toArray.zip ys.toArray).foldl (λtmps (q:Tmp×Value)=>tmps.setIfInBounds q.1 q.2) a.tmps,assign,body,?_,?_⟩
    · have ig:¬ys.toArray.size≠ps.toArray.size:=by simpa using eg
      simp[Instr.yield,Instr.getLoop,getObj,Sem.run,h4,z,eg]
    let Iall:Im:=λb j=>I' b j\/I1 b j
    let X:Nat->Prop:=jQ (T k) G
    have ag:∀b j,Iall b j->b<w'.heap.size/\¬C0 b/\¬X b/\(E.I0 b j\/E.mine b):=by
      rintro b j (hi | hi)
      · exact⟨(h1.old b j hi).1,h1.cI b j hi,cm k w' I' G h1 b j hi,(h1.old b j hi).2⟩
      · obtain⟨e1,e2,e3⟩:=fc b j hi
        refine⟨e1,λhc=>e2 ((h6 b).2 (.inl (.inl hc))),λhc=>e2 ((h6 b).2 (.inl (.inr hc))),?_⟩;rcases e3 with e3 | e3
        · exact(hs.old b j e3).2
        · exact .inr (E.mineB b (by have:=E.size _ _ _ hs.frame;omega))
    have bd:RndOk E w' Iall C0:=⟨λb j hi=>(ag b j hi).1,λb j hi=> .inl (h1.sub b j hi),E.size _ _ _ h1.frame⟩;have fz:l<w'.heap.size/\D<w'.heap.size/\l≠D:=⟨by omega,by omega,by simp[l,D]⟩;have dq:∀dd∈a.defers,∀q,dd.target= .collected q->q<w'.heap.size:=λdd hd q hq=>by have:=bi dd hd q hq;omega
    let aw:Loop:={z with state:= .busy}
    let E1:=Env.rnd E w' Iall X C0 O G a.defers l D z bd
    let E2:=Env.rnd E w' Iall X C0 O G a.defers l D aw bd
    have bp:∀b j,I' b j->Iall b j:=λ_ _ h=> .inl h;have ed:=zYM (w:=w') (I:=Iall) (ρ:=G) (n:=E.n) ps ys x a.tmps keep ck (bn.mono (kM I1 w') (λ_ _ h=> .inr h)) gh h1.size (λt=>(h1.tmps t).mono (kM I' w') bp);have eh:(ps.toArray.zip ys.toArray).foldl (λtmps (q:Tmp×Value)=>tmps.setIfInBounds q.1 q.2) a.tmps=(ps.zip ys).foldl (λtmps (q:Tmp×Value)=>tmps.setIfInBounds q.1 q.2) a.tmps:=by
      rw[<-Array.foldl_toList];simp
    have cc:Sat E1 ⟨z43 ps x++keep,T k⟩ {tmps:=(ps.toArray.zip ys.toArray).foldl (λtmps (q:Tmp×Value)=>tmps.setIfInBounds q.1 q.2) a.tmps,defers:=[]} w':=by
      rw[eh];refine⟨Iall,G,C0,⟨ed.2,λi=>?_,h1.dist,⟨cp _ _ _ _ h1.frame,kM _ _,⟨dF _,λ_ _ _=>rfl⟩,λ_=>Iff.rfl,h4,fz,h5,h1.defers,dq⟩,λ_ _ h=>h,λb j hi=>⟨(ag b j hi).1,.inl hi⟩,ed.1,DefOk.nil,λb j hi=>(ag b j hi).2.1,h1.cB,λid v hv hi=>?_⟩⟩
      · have fv:=h1.blks i
        have bg:(S0 k).blk i=look Blk.none (T k) i:=rfl;show BlkOk w' Iall G E1.mine i (look Blk.none (T k) i);have df:∀b j,look Blk.none (T k) i≠ .none->blockOf (G i)=some b->¬Iall b j:=λb j aj bc hi=>(ag b j hi).2.2.1 ⟨i,aj,bc⟩;have cu:∀b,look Blk.none (T k) i≠ .none->blockOf (G i)=some b->E.mine b->E1.mine b:=λb aj bc _=> .inl ⟨⟨i,aj,bc⟩,(h1.blt i b aj bc).1⟩;have dz:BlkOk w' I' G E.mine i (look Blk.none (T k) i):=fv;exact(dz.mineM cu).widenI bp λb j aj bc hi=>absurd hi (df b j aj bc)
      · simp only[E1,Env.rnd] at hv
        by_cases e:O.contains id=true
        · rw[dK e] at hv;cases hv;rfl
        · rw[dQ e] at hv;exact h1.nm id v hv hi
    refine roundIn_of_wpIn trivial ?_;have dk:=round w' Iall X C0 G a.defers l D z aw bd k x hx _ w' cc;refine gR dk ?_
    rintro e a2 w2 ⟨S2,dj,I2,ej,C2,cx⟩
    cases e with
    | normal=>
      have fp:=cx.frame;obtain⟨f1,f2,f3,f4,f5,f6,f7,f8,f9⟩:=fp
      let w3:World:={w2 with heap:=w2.heap.setIfInBounds l (.loop aw)}
      have bz:l<w2.heap.size:=(cU.1 f5).1;have ad:Turned l w2 w3:=⟨rfl,rfl,rfl,by simp[w3],λq hq=>dZ (λe=>hq e.symm),λo hc=>(by rw[f5] at hc;cases hc;rfl),λo hc=>(by simp[w3,bz] at hc;subst hc;rfl)⟩
      refine⟨w3,?_,?_⟩
      · simp[Instr.beginRound,Instr.getLoop,getObj,setObj,Sem.run,f5,z,w3,aw]
      · have fq:E2.fr S2.ghost C2 w3:=by
          refine⟨E.turn hE _ _ _ _ _ f1 (by have:=E.size _ _ _ hs.frame;omega) ad (ad.same _),λb j hi=>(ad.same Iall b j hi).trans (f2 b j hi),⟨by rw[ad.size];exact f3.size,λb ct hn=>(ad.blk b (λe=>hn (.inr e))).trans (f3.blk b ct hn)⟩,f4,by simp[w3,bz],f6,(ad.blk D (λe=>f6.2.2 e.symm)).trans f7,?_,f9⟩
          refine⟨λdd hd=>?_,f8.dist,f8.wr⟩;obtain⟨u,e1,e2,e3,e4⟩:=f8.each dd hd;have:=bi dd hd u e1;exact⟨u,e1,e2,e3,(ad.blk u (by omega)).trans e4⟩
        have gk:SatAt E2 S2 a2 w3 I2 ej C2:=by
          have fo:∀d∈a2.defers,d.target≠ .collected l:=λdd hd e=>by
            obtain⟨u,e1,e2,_,_⟩:=cx.defers.each dd hd;rw[e] at e1;cases e1;have:w'.heap.size<=l:=e2;omega
          exact cx.turn2 (E':=E2) rfl rfl rfl rfl rfl rfl ad fo fq
        refine gR (dj a2 w3 ⟨I2,ej,C2,gk⟩) ?_
        rintro e a4 w4 ⟨S4,ah,I4,bu,C4,H⟩
        have dn:zMW S4 (T (k+1)):=by
          unfold z04 at ah;cases ai:goF ab xs.length k with
          | true=>
            rw[ai] at ah;cases e with
            | normal=>exact ah
            | _=>exact ah.elim
          | false=>rw[ai] at ah;exact ah.2
        obtain⟨p1,p2,p3,p4,p5,p6,p7,p8,p9⟩:=H.frame
        let w5:World:={w4 with heap:=w4.heap.setIfInBounds l (.loop (Y (k+1)))}
        have ea:l<w4.heap.size:=(cU.1 p5).1;have aa:Turned l w4 w5:=⟨rfl,rfl,rfl,by simp[w5],λq hq=>dZ (λe=>hq e.symm),λo hc=>(by rw[p5] at hc;cases hc;rfl),λo hc=>(by simp[w5,ea] at hc;subst hc;rfl)⟩
        have dt:E.fr 0 C0 w5:=E.turn hE _ _ _ _ _ p1 (by have:=E.size _ _ _ hs.frame;omega) aa (aa.same _)
        have cb:Same Iall w' w5:=λb j hi=>(aa.same Iall b j hi).trans (p2 b j hi);have au:∀b j,Iall b j->I4 b j:=H.sub;have Z:∀i,look Blk.none (T (k+1)) i≠ .none->S4.blk i=look Blk.none (T (k+1)) i:=λi hi=>by
          rcases zKM dn i with e | e
          · exact absurd e hi
          · exact e
        have gm:SatAt E (S0 (k+1)) a w5 I4 bu C0:=by
          refine⟨λt=>?_,λi=>?_,λi i' b hn hi dx=>H.dist i i' b hn (by rw[Z i hi];exact hi) (by rw[Z i' dx];exact dx),cp _ _ _ _ dt,λb j hi=>au b j (.inl (h1.sub b j hi)),λb j hi=>⟨by rw[aa.size];exact(H.old b j hi).1,?_⟩,h1.size,?_,λb j hi hc=>H.cI b j hi ((p4 b).2 hc),λi b hi hb hc=>H.cB i b (by rw[Z i hi];exact hi) hb ((p4 b).2 hc),λi v hv hi=>?_⟩
          · have az:Holds w' I' G (a.tmps.getD t undef) (look AV.top keep t):=h1.tmps t
            show Holds w5 I4 bu (a.tmps.getD t undef) (look AV.top keep t);rcases zKN fw t with e | ⟨y,e⟩ | ⟨id,off,e,bh⟩
            · rw[e];trivial
            · rw[e] at az ⊢
              exact Rep.mono az (λb j hi=>cb b j (.inl hi)) (λb j hi=>au b j (.inl hi))
            · rw[e] at az ⊢
              obtain⟨b,fj,fk⟩:=az;refine⟨b,?_,fk⟩;have:=H.nm id (G id) (by show (if O.contains id then some (G id) else E.nm id)=_;rw[dK bh]) (by rw[Z id (dm (k+1) id bh)];exact dm (k+1) id bh)
              rw[this];exact fj
          · show BlkOk w5 I4 bu E.mine i (look Blk.none (T (k+1)) i)
            cases ef:look Blk.none (T (k+1)) i with
            | none=>trivial
            | _=>
              have aj:look Blk.none (T (k+1)) i≠ .none:=by rw[ef];simp
              rw[<-ef];have dl:=H.blks i;rw[Z i aj] at dl;have ga:=dl.mono (aa.same I4) (λb hb=>aa.blk b (λe=>by
                obtain⟨o,hc,hd⟩:=H.cellBlk (id:=i) (by rw[Z i aj];exact aj) hb
                rw[e,p5] at hc;cases hc;cases hd))
              refine ga.mineM λb _ _ m=>?_;rcases m with m | m
              · exact m.2
              · exact E.mineB b (by have:=E.size _ _ _ h1.frame;omega)
          · rcases (H.old b j hi).2 with m | m | m
            · exact(ag b j m).2.2.2
            · exact .inr m.2
            · exact .inr (E.mineB b (by have:=E.size _ _ _ h1.frame;omega))
          · refine⟨λdd hd=>?_,p8.dist,p8.wr⟩
            obtain⟨u,e1,e2,e3,e4⟩:=p8.each dd hd;have:=bi dd hd u e1;exact⟨u,e1,e2,e3,(aa.blk u (by omega)).trans e4⟩
          · by_cases e:O.contains i=true
            · rw[gf i e] at hv;cases hv
            · exact H.nm i v (by show (if O.contains i then some (G i) else E.nm i)=_;rw[dQ e];exact hv) (by rw[Z i hi];exact hi)
        have bf:∃C',J (k+1) C' w5/\Kept C w' w5/\∀b,C' b->C b\/w'.heap.size<=b:=by
         refine⟨(λb=>(C0 b\/jQ (T (k+1)) bu b)\/b=l),⟨I4,bu,gm,λb j hi=>au b j (.inl (h2 b j hi)),?_,by simp[w5,ea],(aa.blk D (by simp[D,l])).trans p7,λ_=>Iff.rfl⟩,⟨?_,λb ct hn=>?_⟩,?_⟩
         · rw[aa.size];exact d7 h3 p3.size
         · rw[aa.size];exact p3.size
         · by_cases e:b=l
           · exact absurd ((h6 b).2 (.inr e)) hn
           · refine(aa.blk b e).trans (p3.blk b ct ?_)
             rintro (hc | hc)
             · exact hn ((h6 b).2 (.inl (.inr hc)))
             · exact e hc
         · rintro b ((hc | ⟨id,hi,hb⟩) | rfl)
           · exact .inl ((h6 b).2 (.inl (.inl hc)))
           · rcases (H.blt id b (by rw[Z id hi];exact hi) hb).1 with m | m
             · exact .inl ((h6 b).2 (.inl (.inr m.1)))
             · exact .inr m
           · exact .inl ((h6 _).2 (.inr rfl))
        unfold z04 at ah;cases ai:goF ab xs.length k with
        | true=>
          rw[ai] at ah;have an:zMG ab xs.length (k+1)=false:=by unfold goF at ai;cases h:zMG ab xs.length (k+1) with | false=>rfl | true=>rw[h] at ai;cases ai
          cases e with
          | normal=>exact⟨.bool true,w5,by simp[Instr.endRound,Instr.getLoop,getObj,setObj,Sem.run,p5,aw,z,w5,Y,an],rfl,bf⟩
          | _=>exact ah.elim
        | false=>
          rw[ai] at ah;have an:zMG ab xs.length (k+1)=true:=by unfold goF at ai;cases h:zMG ab xs.length (k+1) with | true=>rfl | false=>rw[h] at ai;cases ai
          obtain⟨rfl,_⟩:=ah;rcases bk with h0 | ⟨h0,_⟩
          · subst h0;cases an
          · cases e with
            | ret=>exact⟨.bool false,w5,by simp[Instr.endRound,Instr.getLoop,getObj,setObj,Sem.run,p5,aw,z,w5,Y,an,ao,z44],rfl,bf⟩
            | exit id=>exact⟨.bool false,w5,by simp[Instr.endRound,Instr.getLoop,getObj,setObj,Sem.run,p5,aw,z,w5,Y,an,ao,z44],rfl,bf⟩
            | _=>cases h0
    | _=>exact dj.elim
  · -- behind the loop
    rintro e w' ⟨rfl,C',I',G,h1,h2,h3,h4,h5,h6⟩
    let w4:World:={w' with heap:=w'.heap.setIfInBounds l (.loop {Y xs.length with state:= .exhausted})}
    have bz:l<w'.heap.size:=(cU.1 h4).1;have ht:Turned l w' w4:=⟨rfl,rfl,rfl,by simp[w4],λq hq=>dZ (λe=>hq e.symm),λo hc=>(by rw[h4] at hc;cases hc;rfl),λo hc=>(by simp[w4,bz] at hc;subst hc;rfl)⟩
    have bt:yHD E K ab {a with defers:={target:= .collected D,args:= #[]}::a.defers} w4:=by
      have dr:=E.turn hE _ _ _ _ _ h1.frame (by have:=E.size _ _ _ hs.frame;omega) ht (ht.same _)
      have H:=h1.turn ht (λdd hd e=>by have:=bi dd hd l e;omega) dr
      refine⟨S0 xs.length,hK,I',G,C0,⟨H.tmps,H.blks,H.dist,H.frame,H.sub,H.old,H.size,⟨?_,?_,λ_=>hE⟩,H.cI,H.cB,H.nm⟩⟩
      · intro dd hd
        rcases dN.1 hd with rfl | hd
        · refine⟨D,rfl,by have:=E.size _ _ _ hs.frame;omega,λhc=>?_,(ht.blk D (by simp[D,l])).trans h5⟩
          have:=E.csize _ _ _ hs.frame D hc;omega
        · exact H.defers.each dd hd
      · refine fE.2 ⟨λdd hd q hq gj=>?_,H.defers.dist⟩
        cases hq;have:=bi dd hd D gj;omega
    rcases bk with h0 | ⟨h0,_⟩
    · subst h0
      exact⟨none,w4,by simp[Instr.endLoop,Instr.getLoop,getObj,setObj,Sem.run,h4,z,w4,Y,zMG],bt⟩
    · have an:zMG ab xs.length xs.length=true:=by
        cases ab with
        | normal=>cases h0
        | _=>exact Nat.beq_refl _
      cases ab with
      | ret=>exact⟨some .ret,w4,by simp[Instr.endLoop,Instr.getLoop,getObj,setObj,Sem.run,h4,z,w4,Y,an,ao,z44],wpIn_ret bt⟩
      | exit id=>exact⟨some (.exit id),w4,by simp[Instr.endLoop,Instr.getLoop,getObj,setObj,Sem.run,h4,z,w4,Y,an,ao,z44],wpIn_exit bt⟩
      | _=>cases h0
theorem zUW {P:Program} {E:Env} {S:AState} {g:Operand} {ps:List Tmp} {z body:Code} {f:FuncId} {G:List DV} {xs:List (List DV)} {K:Exit->AState->Prop}
  (keep:List (Nat×AV)) (h:List Nat) (T:Nat->List (Nat×Blk)) (hg:S.ev g= .d (.fn f G)) (ag:zSE P f G xs) (hE:E.wrB=true) (ad:∀k k' C w,E.fr k C w->E.fr k' C w)
  (O:Cov S keep) (ab:zMW S (T 0)) (ah:zH7 h keep=true) (al:∀k,zUV (T k)=true) (ac:∀k id,h.contains id=true->look Blk.none (T k) id≠ .none) (ai:∀id,h.contains id=true->E.nm id=none)
  (ak:∀x∈xs,ps.length=x.length) (aj:∀p∈ps,p<E.n)
  (round:∀w1 Iall X C0 Z H l D am an Y k x,xs[k]? =some x->
   Avc P (some l) (Env.rnd E w1 Iall X C0 h Z H l D am Y) z (yK0 P l (Env.rnd E w1 Iall X C0 h Z H l D an Y) body (yK1 (T (k+1)))) ⟨z43 ps x++keep,T k⟩)
  (hK:K .normal ⟨keep,T xs.length⟩) (hG:E.gdt=zAU P:=by rfl):Avc P none E (.rangeFunc g ps.toArray z body) K S:=
 zMY .normal keep h T hg (.inl rfl) ag hE ad O ab ah al ac ai ak aj round hK hG
open Go.RowKit
section
variable {P:Program} {r:Option Nat} {E:Env} {S:AState} {d:Nat} {ty:TypeId} {pos:String} {af:Array Edge} {g:Option (Nat×Bool)}
theorem SatAt.rebox {a:Act} {w:World} {I:Im} {ρ:Nat->Value} {C:Nat->Prop} (h:SatAt E S a w I ρ C) {bid eb:Nat} {cells k:List AV} (hb:S.blk bid= .box eb cells) (hc:∀xs:List Value,Pw (Holds w I ρ) xs cells->Pw (Holds w I ρ) xs k):
  SatAt E (S.setBlk bid (.box eb k)) a w I ρ C:=by
 have G:S.blk bid≠ .none:=by rw[hb];simp
 have key:∀i,(S.setBlk bid (.box eb k)).blk i≠ .none->S.blk i≠ .none:=by
  intro i hi;rw[yB] at hi;by_cases e:bid=i
  ·subst e;exact G
  ·simpa[e] using hi
 refine⟨h.tmps,λi=>?_,λi T b hn hi D=>h.dist i T b hn (key i hi) (key T D),h.frame,h.sub,h.old,h.size,h.defers,h.cI,λi b hi z=>h.cB i b (key i hi) z,λi v hv hi=>h.nm i v hv (key i hi)⟩;rw[yB];by_cases e:bid=i
 ·subst e
  simp only[dH];have O:=h.blks bid;rw[hb] at O;obtain⟨b,arr,K,hM,hh,Y,H,Z⟩:=O;exact⟨b,arr,K,hM,hh,Y,hc _ H,Z⟩
 ·simp only[e,cY];exact h.blks i
theorem Pw.set_right {K z:Type} {R: K->z->Prop} {xs:List K} {ys:List z} (h:Pw R xs ys) {off:Nat} {y H: z} (T:ys[off]? =some y) (O:∀x,R x y->R x H):Pw R xs (ys.set off H):=by refine⟨by simp[h.1],λj u v G k=>?_⟩;rw[ii] at k;by_cases e:off=j;subst e;by_cases D:off<ys.length;simp[D] at k;subst k;exact O u (h.2 off u y G T);simp[D] at k;simp[e] at k;exact h.2 j u v G k
theorem zCN {bid eb off:Nat} {cells:List AV} (k e size:Nat) (T:0<size) (z:k≠bid) (D:E.nm k=none) (hb:S.blk bid= .box eb cells) (O:(cells.map (zDM k))[off]? =some (.d (.v (.slice none 0 0)))):
  zES E S (((S.kill k).setBlk k (.row e size false [])).setBlk bid (.box eb ((cells.map (zDM k)).set off (.row k)))):=by
 rintro a w ⟨I,ρ,C,h⟩
 have K:=h.update (hZ w none) (id:=k) (u:= .slice none 0 0) (x:= .row e size false []) (by simp) (kM I w) (by simp[blockOf])
  ⟨⟨T,by simp[upd,Value.ownBlock]⟩,0,[],by simp,by simp only[upd,dH];exact ij w _ e size,by simp,Pw.nil,by simp[upd,Value.ownBlock]⟩ (.inl rfl) D
 refine⟨I,_,C,K.rebox (eb:=eb) (cells:=cells.map (zDM k)) ?_ λxs Y=>Y.set_right O λx G=>?_⟩
 ·rw[yB,dQ z,zGK,hb];rfl
 ·have H:Rep w I x (.v (.slice none 0 0)):=G
  cases H;simp[Holds,upd]
theorem zF5 {bid eb off k e size:Nat} {sh:Bool} {cells:List AV} {K:List DV} (hb:S.blk bid= .box eb cells) (Z:cells[off]? =some (.row k)) (D:S.blk k= .row e size sh K):
  zES E S ((S.setBlk k (.row e size true K)).setBlk bid (.box eb (cells.set off (.d (.sl size K))))):=by
 rintro a w ⟨I,ρ,C,h⟩
 have z:k≠bid:=by rintro rfl;rw[hb] at D;cases D
 obtain⟨O,h1,T,Y⟩:=h.shareRow D;refine⟨O,ρ,C,T.rebox (eb:=eb) (cells:=cells) (by rw[yB,dQ z];exact hb) λxs hx=>hx.set_right Z λx G=>?_⟩
 have H:x= ρ k:=G;rw[H];exact Y
theorem zEU {t z e size:Nat} {Z:Bool} {D:List DV} (K:t<E.n) (T:S.get t= .row z) (O:S.blk z= .row e size Z D):zES E S ((S.setBlk z (.row e size true D)).put t (.d (.sl size D))):=by
 rintro a w ⟨I,ρ,C,h⟩
 obtain⟨G,h1,k,H⟩:=h.shareRow O;refine⟨G,ρ,C,⟨λu=>?_,k.blks,k.dist,by rw[zBX _ _ K];exact k.frame,k.sub,k.old,k.size,k.defers,k.cI,k.cB,k.nm⟩⟩
 rw[zAE];by_cases e:t=u;subst e;simp only[dH];have:=h.tmps t;rw[T] at this;have Y:a.tmps.getD t undef= ρ z:=this;rw[Y];exact H;simp only[e,cY];exact k.tmps u
theorem zGO {t:Nat} (size:Nat) (z:t<E.n) (D:S.get t= .d (.v (.slice none 0 0))):zES E S (S.put t (.d (.sl size []))):=by
 rintro a w ⟨I,ρ,C,h⟩
 refine⟨I,ρ,C,⟨λu=>?_,h.blks,h.dist,by rw[zBX _ _ z];exact h.frame,h.sub,h.old,h.size,h.defers,h.cI,h.cB,h.nm⟩⟩
 rw[zAE];by_cases e:t=u;subst e;simp only[dH];have:=h.tmps t;rw[D] at this;generalize a.tmps.getD t undef=v at this ⊢;have k:Rep w I v (.v (.slice none 0 0)):=this;cases k;exact .nil _ _ _;simp only[e,cY];exact h.tmps u
theorem AOp.int {o:Oper} {k:IntKind} {a b:Int} (h:AOp P r E S o d (.d (.v (.int k a)))) (e:a=b):AOp P r E S o d (.d (.v (.int k b))):=e▸h
theorem AOp.data {o:Oper} {a b:DV} (h:AOp P r E S o d (.d a)) (e:a=b):AOp P r E S o d (.d b):=e▸h
theorem AOp.bool {o:Oper} {a b:Bool} (h:AOp P r E S o d (.d (.v (.bool a)))) (e:a=b):AOp P r E S o d (.d (.v (.bool b))):=e▸h
theorem zI8 {t u:Nat} {x y:DV} (h:S.dv (S.get t).un=some x) (k:S.dv (S.get u).un=some y):RetS P S [.tmp t,.tmp u] [x,y]:=⟨_,_,rfl,h,_,_,rfl,k,rfl⟩
end
open Go.RowKit
structure DrawOkF (l:List Oper) (N:Nat):Prop where
 pos:1<=N
 lt:N<l.length
 aft:∀i o,l[i]? =some o->∀j∈aft o,j<i
 looks:∀i o,i<N->i≠0->l[i]? =some o->∀t∈o.looksAt l.toArray,∀j,j<N->j≠0->j≠i->dstAt l j=some t->if j<i then Reach l i j else Reach l j i
 free:∀i o,i<N->l[i]? =some o->∀t∈o.looksAt l.toArray,∀j,j<N->i=0\/j=0->dstAt l j≠some t
 dist:∀i o,i<N->l[i]? =some o->∀j,j<N->j≠i->dstAt l j≠o.dst
 tail:∀i o,N<=i->l[i]? =some o->∀j,j<i->¬(i=N/\j=0)->Reach l i j
open Go.RowKit
open Go.RowKit
structure FldTy (P:Program) (s k off n:Nat) (t:TypeId):Prop where
 fld:∃fields f,P.underlying s=some (.struct fields)/\fields[k]? =some f/\f.offset=off/\f.type=t
 size:∀w,(sizeOf t).run P w= .ok n w
 pos:0<n
theorem zKO {P:Program} {s k off n:Nat} {t:TypeId} (h:FldTy P s k off n t) (w:World) (b o:Nat):
  (Instr.fieldAt s (.pointer (some ⟨b,o,none⟩)) k).run P w= .ok (.pointer (some ⟨b,o+off,none⟩)) w:=by
 obtain⟨D,f,O,H,rfl,rfl⟩:=h.fld;have T:=h.pos;have K:=h.size w;have G:¬n=0:=by omega
 have z:(⟨b,o,none⟩:Addr).add f.offset=⟨b,o+f.offset,none⟩:=by
  unfold Addr.add;split
  ·rename_i e;rw[e];rfl
  ·rfl
 simp[Instr.fieldAt,dL O,H,Instr.sureAddr,fieldPlace,K,G,z]
theorem zYN {w:World} {I:Im} {ρ:Nat->Value} {cells:List AV} {ds:List DV} {xs:List Value} (h:Pw (Holds w I ρ) xs cells) (k:unD cells=some ds):Reps w I xs ds:=by
 induction cells generalizing xs ds with
 | nil=>simp[unD] at k;subst k;have:xs= []:=cS h.1;subst this;exact Pw.nil
 | cons c cells H=>
  cases xs with
  | nil=>have:=h.1;simp at this
  | cons x xs=>
   cases c with
   | d y=>
    simp only[unD] at k;cases D:unD cells with
    | none=>simp[D] at k
    | some ys=>
     simp[D] at k;subst k;exact Pw.cons (h.2 0 x (.d y) rfl rfl) (H ⟨by have:=h.1;simpa using this,λj u z D G=>h.2 (j+1) u z (by simpa using D) (by simpa using G)⟩ D)
   | _=>simp[unD] at k
theorem yHK {w:World} {I:Im} {ρ:Nat->Value} {ds:List DV} {xs:List Value} (h:Reps w I xs ds):Pw (Holds w I ρ) xs (ds.map AV.d):=by refine⟨by rw[h.1,eY],λj x c z k=>?_⟩;simp only[dX,e9] at k;obtain⟨y,D,rfl⟩:=k;exact h.2 j x y z D
section
variable {P:Program} {r:Option Nat} {E:Env} {S:AState} {d:Nat} {ty:TypeId} {pos:String} {af:Array Edge} {g:Option (Nat×Bool)}
theorem zBP {s k off n id o:Nat} {t:TypeId} {x:Operand} (D:d<E.n) (G:FldTy P s k off n t) (T:S.ev x= .ptr id o):
  AOp P r E S ⟨some d,.fieldAddr s x k,ty,pos,af,g⟩ d (.ptr id (o+off)):=
 ⟨rfl,D,λS' H=>zQ rfl D (by simp) λA w I ρ C K=>by
  have h:=K.ev x;rw[(H.ev (by simp[Op.operands])).trans T] at h;obtain⟨b,z,O⟩:=h;refine⟨.pointer (some ⟨b,o+off,none⟩),?_,b,z,rfl⟩;simp only[execOp,O,cW,zKO G w b o];rfl⟩
theorem zAW {s k off n o:Nat} {t:TypeId} {x:Operand} {cells:List DV} (G:d<E.n) (K:FldTy P s k off n t) (hx:S.ev x= .ip cells o):
  AOp P r E S ⟨some d,.fieldAddr s x k,ty,pos,af,g⟩ d (.ip cells (o+off)):=
 ⟨rfl,G,λS' O=>zQ rfl G (by simp) λA w I ρ C Y=>by
  have h:=Y.ev x;rw[(O.ev (by simp[Op.operands])).trans hx] at h;obtain⟨b,D,xs,Z,T,H,z⟩:=h;refine⟨.pointer (some ⟨b,D+(o+off),none⟩),?_,b,D,xs,rfl,T,H,z⟩;simp only[execOp,Z,cW,zKO K w b (D+o),gv];rfl⟩
theorem xG {t n id eb:Nat} {x:Operand} {cells:List AV} {ds:List DV} (T:d<E.n) (hT:AggTy P t n) (hx:S.ev x= .ptr id 0) (hb:S.blk id= .box eb cells) (hd:unD cells=some ds) (hl:cells.length=n):
  AOp P r E S ⟨some d,.load t x,ty,pos,af,g⟩ d (.d (.agg ds)):=
 ⟨rfl,T,λS' O=>zQ rfl T (by simp) λA w I ρ C Z=>by
  have h:=Z.ev x;rw[(O.ev (by simp[Op.operands])).trans hx] at h;obtain⟨b,z,hv⟩:=h;have D:=Z.blks id;rw[(O.blk id).trans hb] at D;obtain⟨K,arr,H,hB,hh,h1,Y,hI⟩:=D;rw[H] at z;simp[blockOf] at z;subst z;have k:Reps w I arr.toList ds:=zYN Y hd;have G:arr.toList.length=n:=by rw[Y.1];exact hl
  refine⟨.agg arr.toList.toArray,?_,.agg _ _ k.1 (λu hu=>h1 u hu) k.2⟩;simp only[execOp,hv,cW];rw[zCE w hT K 0 arr.toList G (λj v hj=>by rw[e7 w K _ arr eb (0,0) hh];simpa using hj)]
  rfl⟩
theorem z45 {k:TypeId} {x:Operand} {ds:List DV} (T:d<E.n) (hx:S.ev x= .d (.agg ds)) (G:E.nm d=none):
  jA P r E ⟨some d,.box k x,ty,pos,af,g⟩ S (((S.kill d).setBlk d (.box k (ds.map AV.d))).put d (.ptr d 0)):=
 uE (by simp) λA w I ρ C K=>by
  have h:=K.ev x;rw[hx] at h;have H:Rep w I (A.eval x) (.agg ds):=h;generalize Z:A.eval x=v at H;cases H with
  | agg xs cells D O Y=>
   have hb:=K.newBox (id:=d) (e:=k) (arr:=xs.toArray) (cells:=ds.map AV.d) (yHK ⟨D,Y⟩) (by simpa using O) G;have z:(ds.map AV.d).map (zDM d)=ds.map AV.d:=by
    rw[List.map_map];rfl
   rw[z] at hb;refine⟨.pointer (some ⟨w.heap.size,0,none⟩),w.alloc (.cells xs.toArray k),?_,I,_,C,hb.put T (show Holds _ _ _ (.pointer (some ⟨w.heap.size,0,none⟩)) (AV.ptr d 0) from ⟨w.heap.size,by simp[upd,blockOf],rfl⟩)⟩;simp only[execOp,Z,Instr.box,newVar];simp[newRow,Value.cells]
end
open Go.RowKit
def zSF (w:World):Im:=λb _=>b<w.heap.size
theorem yCW {P:Program} {f:FuncId} {ds:List DV} (D:zH P f ds [.v (.bool true)]) {w:World} {vs:List Value} (hG:GlI (zAU P) w (zSF w)) (G:Reps w (zSF w) vs ds):
  Calls P f vs.toArray w λe w'=>e= .returned (.bool true)/\Below w.heap.size w w':=by
 refine(D.2 w (zSF w) vs (λ_ _ h=>h) hG G).mono ?_
 rintro e w' ⟨v,z,rfl,hb,_,_,k⟩
 refine⟨?_,hb⟩;have h:Rep w' z v (.v (.bool true)):=k;cases h;rfl
theorem z7V (w:World) (I:Im):Reps w I [] []:=Pw.nil
theorem zPJ {w:World} {I:Im} {v:Value} {vs:List Value} {d:DV} {ds:List DV} (h:Rep w I v d) (D:Reps w I vs ds):Reps w I (v::vs) (d::ds):=by
 refine⟨by simp[D.1],λj x y k z=>?_⟩;cases j with
 | zero=>simp at k z;subst k;subst z;exact h
 | succ j=>exact D.2 j x y (by simpa using k) (by simpa using z)
theorem lq {a b:Nat} (h:Nat.ble a b=true):a<=b:=gX h
end Go.AV
namespace Go.M
abbrev Str:=List UInt8
def zV {h:Type} (l:List h) (i:Int):Option h:=if 0<=i then l[i.toNat]? else none
def uV {h:Type} (l:List h) (i:Int) (x: h):Option (List h):=if 0<=i/\i.toNat<l.length then some (l.set i.toNat x) else none
def slc {h:Type} (l:List h) (lo hi:Int):Option (List h):=if 0<=lo/\lo<=hi/\hi.toNat<=l.length then some ((l.take hi.toNat).drop lo.toNat) else none
def LIM:Nat:=4294967296
def app {h:Type} (l m:List h):Option (List h):=if l.length+m.length<=LIM then some (l++m) else none
def mkM {h:Type} (z: h) (n:Int):Option (List h):=if 0<=n/\n.toNat<=LIM then some (List.replicate n.toNat z) else none
def gM {h:Type} [Inhabited h] (g:Bool) (m:Option h):Option h:=cond g m (some default)
def pv {h:Type} (x: h):Option h:=some x
def zKP (k:Int->Int) (a b:Int):Option Int:=if b=0 then none else some (k (a.tdiv b))
def zHC (a b:Int):Option Int:=if b=0 then none else some (a.tmod b)
def zYO (s:Str) (i:Int):Option Int:=(zV s i).map λb=>(b.toNat:Int)
def mget {h z:Type} [DecidableEq h] (m:List (h×z)) (k: h):Option z:=match m with
 | []=>none
 | (D,v)::r=>if k=D then some v else mget r k
def xY {h z:Type} [DecidableEq h] (m:List (h×z)) (k: h) (v: z):List (h×z):=match m with
 | []=>[(k,v)]
 | (D,G)::r=>if k=D then (k,v)::r else (D,G)::xY r k v
def mgetD {h D:Type} [DecidableEq h] (m:List (h×D)) (k: h) (z: D): D:=(mget m k).getD z
def zBQ {h z:Type} [DecidableEq h] (m:List (h×z)) (k: h):Bool:=(mget m k).isSome
inductive Stp (X Y:Type) where
 | next (x:X)
 | done (y:Y)
def iter {X Y:Type} (body:X->Option (Stp X Y)):Nat->X->Option Y
 | 0,_=>none
 | n+1,x=>match body x with
  | none=>none
  | some (.next x')=>iter body n x'
  | some (.done y)=>some y
theorem zUX {X Y:Type} {body:X->Option (Stp X Y)} {y:Y}:∀{n m:Nat} {x:X},n<=m->iter body n x=some y->iter body m x=some y:=by
 intro n
 induction n with
 | zero=>intro m x _ h;cases h
 | succ n k=>
  intro m x z h;cases m with
  | zero=>omega
  | succ m=>
   simp only[iter] at h ⊢;cases hb:body x with
   | none=>rw[hb] at h;cases h
   | some s=>
    rw[hb] at h;cases s with
    | next x'=>exact k (by omega) h
    | done D=>exact h
open Classical in
noncomputable def zB {X Y:Type} (body:X->Option (Stp X Y)) (x:X):Option Y:=
 if h:∃n y,iter body n x=some y then some (Classical.choose (Classical.choose_spec h)) else none
theorem zI9 {X Y:Type} {body:X->Option (Stp X Y)} {x:X} {y:Y}:zB body x=some y↔∃n,iter body n x=some y:=by
 unfold zB;constructor;intro h;split at h;rename_i k;have:=Classical.choose_spec (Classical.choose_spec k);cases h;exact⟨_,this⟩;cases h
 rintro⟨n,D⟩
 have k:∃n y,iter body n x=some y:=⟨n,y,D⟩;rw[dif_pos k];have G:=Classical.choose_spec (Classical.choose_spec k);have H:=zUX (Nat.le_max_left (Classical.choose k) n) G;have z:=zUX (Nat.le_max_right (Classical.choose k) n) D;rw[H] at z;exact z
theorem jN {X Y:Type} (body:X->Option (Stp X Y)) (x:X):zB body x=match body x with
  | none=>none
  | some (.next x')=>zB body x'
  | some (.done y)=>some y:=by
 apply Option.ext;intro y;rw[zI9];constructor
 ·rintro⟨n,k⟩
  cases n with
  | zero=>cases k
  | succ n=>
   simp only[iter] at k;cases hb:body x with
   | none=>rw[hb] at k;cases k
   | some s=>
    rw[hb] at k;cases s with
    | next x'=>exact zI9.2 ⟨n,k⟩
    | done z=>exact k
 ·intro h
  cases hb:body x with
  | none=>rw[hb] at h;cases h
  | some s=>
   rw[hb] at h;cases s with
   | next x'=>
    obtain⟨n,k⟩:=zI9.1 h;exact⟨n+1,by simp only[iter,hb];exact k⟩
   | done z=>exact⟨1,by simp only[iter,hb];exact h⟩
theorem bE {k z:Type} {o:Option k} {f: k->Option z} {b: z} (h:o.bind f=some b):∃a,o=some a/\f a=some b:=Option.bind_eq_some_iff.1 h
theorem cT {k:Type} {c:Bool} {A B:Option k} {r:Option k} (z:c=true) (h:cond c A B=r):A=r:=by subst z;exact h
theorem cF {k:Type} {c:Bool} {A B:Option k} {r:Option k} (z:c=false) (h:cond c A B=r):B=r:=by subst z;exact h
theorem eL {z D k:Type} {f: z->k} {g: D->k} {y: z} {r: k} (h:Sum.elim f g (Sum.inl y)=r):f y=r:=h
theorem eR {D z k:Type} {f: D->k} {g: z->k} {y: z} {r: k} (h:Sum.elim f g (Sum.inr y)=r):g y=r:=h
end Go.M
namespace Go.AV
open Go.RowKit
structure Frag (w:World) (I:Im) (ρ:Nat->Value) (T:List (Nat×Blk)):Prop where
 ok:∀id,BlkOk w I ρ (λ_=>True) id (look Blk.none T id)
 dist:∀id id' b,id≠id'->look Blk.none T id≠ .none->look Blk.none T id'≠ .none->blockOf (ρ id)=some b->blockOf (ρ id')≠some b
def yHL (w:World) (I:Im) (ρ:Nat->Value) (v:Value):List Cap->Prop
 | [x]=>HoldsC w I ρ v x
 | xs=> ∃ys,v= .tuple ys.toArray/\Pw (HoldsC w I ρ) ys xs
def GC (P:Program) (f:FuncId) (args:List Cap) (T:List (Nat×Blk)) (keep:List Nat) (k:List Cap) (D:List (Nat×Blk)):Prop:=
 (∃G,P.funcs[f]? =some G/\(G.name== "runtime.NumGoroutine")=false/\G.body.isNone=false)/\
 ∀(w:World) (I:Im) (ρ:Nat->Value) (vs:List Value),(∀b j,I b j->b<w.heap.size)->GlI (zAU P) w I->Frag w I ρ T->Pw (HoldsC w I ρ) vs args->
  Calls P f vs.toArray w λe w'=> ∃v z h,e= .returned v/\Chg w w' (jQ T ρ)/\Same I w w'/\(∀b j,I b j->z b j)/\
   (∀b j,z b j->b<w'.heap.size/\(I b j\/w.heap.size<=b\/jQ T ρ b))/\Frag w' z h D/\yHL w' z h v k/\
   (∀b,jQ D h b->b<w'.heap.size/\(w.heap.size<=b\/jQ T ρ b))/\(∀id,keep.contains id=true->look Blk.none D id≠ .none->h id= ρ id)
def GCA (P:Program) (f:FuncId) (args:List Cap) (T:List (Nat×Blk)) (keep:List Nat) (G:AV) (z:List (Nat×Blk)):Prop:=
 (∃D,P.funcs[f]? =some D/\(D.name== "runtime.NumGoroutine")=false/\D.body.isNone=false)/\
 ∀(w:World) (I:Im) (ρ:Nat->Value) (vs:List Value),(∀b j,I b j->b<w.heap.size)->GlI (zAU P) w I->Frag w I ρ T->Pw (HoldsC w I ρ) vs args->
  Calls P f vs.toArray w λe w'=> ∃v k h,e= .returned v/\Chg w w' (jQ T ρ)/\Same I w w'/\(∀b j,I b j->k b j)/\
   (∀b j,k b j->b<w'.heap.size/\(I b j\/w.heap.size<=b\/jQ T ρ b))/\Frag w' k h z/\Holds w' k h v G/\
   (∀b,jQ z h b->b<w'.heap.size/\(w.heap.size<=b\/jQ T ρ b))/\(∀id,keep.contains id=true->look Blk.none z id≠ .none->h id= ρ id)
def Cap.av:Cap->AV
 | .top=> .top
 | .d x=> .d x
 | .ptr i o=> .ptr i o
 | .row i=> .row i
theorem Cap.holds {w:World} {I:Im} {ρ:Nat->Value} {v:Value} {c:Cap} (h:HoldsC w I ρ v c):Holds w I ρ v c.av:=by cases c<;>exact h
def zMH:List Cap->Nat->List (Nat×AV)
 | [],_=>[]
 | x::r,k=>(k,x.av)::zMH r (k+1)
theorem z05 (cs:List Cap):∀(k t:Nat),(k<=t/\∃x,cs[t-k]? =some x/\look AV.top (zMH cs k) t=x.av)\/look AV.top (zMH cs k) t= .top:=by
 induction cs with
 | nil=>intro k t;exact .inr rfl
 | cons x ds G=>
  intro k t;simp only[zMH,kB];by_cases e:k=t;subst e;simp;simp only[e,cY];rcases G (k+1) t with ⟨H,y,D,z⟩ | h
  refine .inl ⟨by omega,y,?_,z⟩;have:t-k=(t-(k+1))+1:=by omega
  rw[this];simpa using D;exact .inr h
theorem Chg.refl (w:World) (O:Nat->Prop):Chg w w O:=⟨rfl,rfl,rfl,dF _,λ_ _ _=>rfl⟩
def Env.gen (gdt:Nat->Option (List Value)) (w0:World) (I0:Im) (hG:GlI gdt w0 I0) (H:Nat->Value) (T:List (Nat×Blk)) (keep:List Nat) (n:Nat) (Z:n<=1000000):Env where
 B:=w0.heap.size
 I0:=I0
 n:=n
 fr:=λ_ C w=>(Chg w0 w (jQ T H)/\Same I0 w0 w)/\(∀b j,I0 b j->b<w0.heap.size)/\∀b,¬C b
 wrB:=true
 nle:=Z
 mine:=λb=>w0.heap.size<=b\/jQ T H b
 mineB:=λ_ h=> .inl h
 nm:=λid=>if keep.contains id then some (H id) else none
 size:=λ_ _ _ h=>h.1.1.size
 csize:=λ_ _ _ h b hb=>absurd hb (h.2.2 b)
 grow:=λ_ _ w w' h hb=>⟨⟨⟨hb.os.trans h.1.1.os,hb.tape.trans h.1.1.tape,hb.output.trans h.1.1.output,d7 h.1.1.size hb.size,λk G z=>(hb.block k (eP G h.1.1.size)).trans (h.1.1.block k G z)⟩,
  λb j hi=>(KeepB.of (hb.block b (eP (h.2.1 b j hi) h.1.1.size))).trans (h.1.2 b j hi)⟩,h.2⟩
 wr:=λ_ _ _ w w' O h D hr Y=>⟨⟨⟨D.os.trans h.1.1.os,D.tape.trans h.1.1.tape,D.output.trans h.1.1.output,d7 h.1.1.size D.size,λk G z=>(D.block k (eP G h.1.1.size) (λe=>by
   rcases (hr k e).1 with h1 | h1
   ·omega
   ·exact z h1)).trans (h.1.1.block k G z)⟩,λb j hi=>(Y b j hi).trans (h.1.2 b j hi)⟩,h.2⟩
 turn:=λ_ _ _ w w' l h hl K Y=>⟨⟨⟨K.os.trans h.1.1.os,K.tape.trans h.1.1.tape,K.output.trans h.1.1.output,by rw[K.size];exact h.1.1.size,λk G z=>(K.blk k (by omega)).trans (h.1.1.block k G z)⟩,λb j hi=>(Y b j hi).trans (h.1.2 b j hi)⟩,h.2⟩
 gdt:=gdt
 gl:=λ_ _ w h g zs D j=>⟨(h.1.2 g j (hG g zs D j).2).cell.trans (hG g zs D j).1,(hG g zs D j).2⟩
def CapOf:AV->Cap->Prop
 | _,.top=>True
 | av,c=>av=c.av
theorem CapOf.holds {w:World} {I:Im} {ρ:Nat->Value} {v:Value} {av:AV} {c:Cap} (h:CapOf av c) (k:Holds w I ρ v av):HoldsC w I ρ v c:=by
 cases c with
 | top=>trivial
 | _=>have e:av=_:=h;rw[e] at k;exact k
section
variable {P:Program} {r:Option Nat} {E:Env} {S:AState} {d:Nat} {ty:TypeId} {pos:String} {af:Array Edge} {g:Option (Nat×Bool)}
def RetGS (P:Program) (S:AState):List ResultVar->List Cap->Prop
 | [],ys=>ys= []
 | .tmp t::h,ys=> ∃y zs,ys=y::zs/\CapOf (S.get t).un y/\RetGS P S h zs
 | .cell a t::h,ys=> ∃y zs id e cells,ys=y::zs/\(S.get a).un= .ptr id 0/\S.blk id= .box e cells/\
   ((OneTy P t/\∃av,cells= [av]/\CapOf av y)\/(∃ds,AggTy P t cells.length/\unD cells=some ds/\y= .d (.agg ds)))/\RetGS P S h zs
def yK3 (P:Program) (z:Func) (h:List Cap) (k:List (Nat×Blk)):Exit->AState->Prop
 | .ret,S | .normal,S=>RetGS P S z.results.toList h/\zMW S k
 | _,_=>False
theorem RetGS.holds {a:Act} {w:World} {I:Im} {ρ:Nat->Value} {C:Nat->Prop} (h:SatAt E S a w I ρ C):∀(l:List ResultVar) (rs:List Cap) (_:RetGS P S l rs),
  ∃xs:List Value,(l.mapM (zR8 a.tmps)).run P w= .ok xs w/\Pw (HoldsC w I ρ) xs rs:=by
 intro l
 induction l with
 | nil=>intro rs hr;cases hr;exact⟨[],by simp,Pw.nil⟩
 | cons x l ih=>
  intro rs hr;cases x with
  | tmp t=>
   obtain⟨y,ys,rfl,h1,h2⟩:=hr;obtain⟨xs,H,k⟩:=ih ys h2;exact⟨_::xs,by simp[g9,zR8,H],Pw.cons (h1.holds (h.tmps t).un) k⟩
  | cell ad t=>
   obtain⟨y,ys,id,e,cells,rfl,h1,h2,h3,h4⟩:=hr;obtain⟨xs,H,k⟩:=ih ys h4;have hp:=(h.tmps ad).un;rw[h1] at hp;obtain⟨b,aa,hv⟩:=hp;have O:=h.blks id;rw[h2] at O;obtain⟨b',arr,ab,hB,hh,aj,G,hI⟩:=O;have al:b'=b:=by rw[ab] at aa;simpa[blockOf] using aa
   subst al;have z:∀(j:Nat) v,arr.toList[j]? =some v->w.cell? ⟨b',0+j,none⟩=some v:=λj v hj=>by
    rw[eD,e7 w b' j arr e (0,0) hh];simpa using hj
   rcases h3 with ⟨ho,av,hc,hd⟩ | ⟨ds,ha,hd,rfl⟩
   ·subst hc
    have Y:=G.1
    match K:arr.toList,Y with
    | [v0],_=>
     rw[K] at G z;refine⟨v0::xs,?_,Pw.cons (hd.holds (G.2 0 v0 av rfl rfl)) k⟩;have T:=z 0 v0 rfl;simp only[fH] at T;simp[g9,zR8,hv,asAddr,loadVar,ho.agg,run_load,T,H]
   ·have Z:=zYN G hd
    refine⟨.agg arr.toList.toArray::xs,?_,Pw.cons (.agg _ _ Z.1 aj Z.2) k⟩;have D:=zCE (P:=P) w ha b' 0 arr.toList G.1 z;simp only[Instr.loadAt,Instr.sureAddr,cW,dU,cX] at D;simp only[g9,zR8,hv,asAddr,cW,dU,cX,D,H]
theorem RetGS.run {a:Act} {w:World} {I:Im} {ρ:Nat->Value} {C:Nat->Prop} {O:Func} {K:List Cap} (h:SatAt E S a w I ρ C) (G:RetGS P S O.results.toList K):
  ∃v,(results O a.tmps).run P w= .ok v w/\yHL w I ρ v K:=by
 obtain⟨xs,H,k⟩:=RetGS.holds h _ _ G;refine⟨_,zKK H,?_⟩;have T:=k.1
 match xs,K,T,k with
 | [],[],_,D=>exact⟨_,rfl,D⟩
 | [x],[y],_,D=>exact D.2 0 _ y rfl rfl
 | x::u::xs,y::z::ys,_,D=>exact⟨x::u::xs,by simp,D⟩
def GCX (P:Program) (f:FuncId) (args:List Cap) (T:List (Nat×Blk)) (keep:List Nat) (R:World->Im->(Nat->Value)->Value->Prop) (z:List (Nat×Blk)):Prop:=
 (∃D,P.funcs[f]? =some D/\(D.name== "runtime.NumGoroutine")=false/\D.body.isNone=false)/\
 ∀(w:World) (I:Im) (ρ:Nat->Value) (vs:List Value),(∀b j,I b j->b<w.heap.size)->GlI (zAU P) w I->Frag w I ρ T->Pw (HoldsC w I ρ) vs args->
  Calls P f vs.toArray w λe w'=> ∃v k h,e= .returned v/\Chg w w' (jQ T ρ)/\Same I w w'/\(∀b j,I b j->k b j)/\
   (∀b j,k b j->b<w'.heap.size/\(I b j\/w.heap.size<=b\/jQ T ρ b))/\Frag w' k h z/\R w' k h v/\
   (∀b,jQ z h b->b<w'.heap.size/\(w.heap.size<=b\/jQ T ρ b))/\(∀id,keep.contains id=true->look Blk.none z id≠ .none->h id= ρ id)
def yF5 (h:AState->Prop) (k:List (Nat×Blk)):Exit->AState->Prop
 | .ret,S | .normal,S=>h S/\zMW S k
 | _,_=>False
theorem z7W {f:FuncId} {H:Func} {c:Code} {args:List Cap} {T Y:List (Nat×Blk)} {keep:List Nat} (R:World->Im->(Nat->Value)->Value->Prop) (RS:AState->Prop) (az:∀(E:Env) (S:AState) (a:Act) (w:World) (I:Im) (ρ:Nat->Value) (C:Nat->Prop),SatAt E S a w I ρ C->RS S->∃v,(results H a.tmps).run P w= .ok v w/\R w I ρ v) (hf:P.funcs[f]? =some H) (ah:(H.name== "runtime.NumGoroutine")=false) (hb:H.body=some c) (hn:args.length<=H.ntmps) (ag:H.ntmps<=1000000)
  (h:∀w0 I0 hG bb,Avc P none (Env.gen (zAU P) w0 I0 hG bb T keep H.ntmps ag) c (yF5 RS Y) ⟨zMH args 0,T⟩):GCX P f args T keep R Y:=by
 refine⟨⟨H,hf,ah,by simp[hb]⟩,λw I ρ vs hI hG O an=>?_⟩;refine gy (n:=0) |>.1 (callsIn_of_wp_marks hf hb trivial ?_)
 have ak:vs.length=args.length:=an.1;have am:Sat (Env.gen (zAU P) w I hG ρ T keep H.ntmps ag) ⟨zMH args 0,T⟩ {tmps:=vs.toArray++Array.replicate (H.ntmps-vs.toArray.size) undef,defers:=[]} w:=by
  refine⟨I,ρ,λ_=>False,⟨λt=>?_,λi=>?_,O.dist,⟨⟨Chg.refl _ _,kM I w⟩,hI,λ_ h=>h⟩,λ_ _ h=>h,λb j h=>⟨hI b j h,.inl h⟩,by simp[Env.gen];omega,DefOk.nil,λ_ _ _ h=>h,λ_ _ _ _ h=>h,λid v hv _=>?_⟩⟩
  ·rcases z05 args 0 t with ⟨_,x,hx,hl⟩ | hl
   ·show Holds _ _ _ _ (look AV.top (zMH args 0) t)
    rw[hl];simp only[Nat.sub_zero] at hx;have ht:t<vs.length:=by rw[ak];exact(c9.1 hx).1
    refine Cap.holds (an.2 t _ x ?_ hx);simp[dJ,Array.getElem?_append,ht]
   ·show Holds _ _ _ _ (look AV.top (zMH args 0) t)
    rw[hl];trivial
  ·exact(O.ok i).mineM λb z ac _=> .inr ⟨i,z,ac⟩
  ·simp only[Env.gen] at hv
   split at hv
   ·cases hv;rfl
   ·cases hv
 refine gR (h w I hG ρ _ w am) ?_
 rintro e a w' ⟨S,hK,I1,bc,C,Z⟩
 have ai:RS S/\zMW S Y->LeavesInM (fen none) 0 P H a.tmps (λe w'=> ∃v I' aa,e= .returned v/\Chg w w' (jQ T ρ)/\Same I w w'/\(∀b j,I b j->I' b j)/\
   (∀b j,I' b j->b<w'.heap.size/\(I b j\/w.heap.size<=b\/jQ T ρ b))/\Frag w' I' aa Y/\R w' I' aa v/\
   (∀b,jQ Y aa b->b<w'.heap.size/\(w.heap.size<=b\/jQ T ρ b))/\(∀id,keep.contains id=true->look Blk.none Y id≠ .none->aa id= ρ id)) a.defers .returning w':=by
  rintro⟨al,ab⟩
  refine zN4 (B:=w.heap.size) a.defers w' Z.defers λw2 K aj=>?_;have ad:(Env.gen (zAU P) w I hG ρ T keep H.ntmps ag).fr S.ghost C w2:=by
   refine⟨⟨⟨K.os.trans Z.frame.1.1.os,K.tape.trans Z.frame.1.1.tape,K.output.trans Z.frame.1.1.output,d7 Z.frame.1.1.size K.size,λk hk z=>(K.block k hk).trans (Z.frame.1.1.block k hk z)⟩,λb j hi=>(aj.same (I:=I) b j hi).trans (Z.frame.1.2 b j hi)⟩,Z.frame.2⟩
  have D:=Z.taken aj ad;obtain⟨v,h1,h2⟩:=az _ _ _ _ _ _ _ D al;have key:∀id,look Blk.none Y id≠ .none->S.blk id=look Blk.none Y id:=λid z=>by
   rcases zKM ab id with h | h
   ·exact absurd h z
   ·exact h
  have G:∀id,look Blk.none Y id≠ .none->S.blk id≠ .none:=λid z=>by rw[key id z];exact z
  refine⟨v,h1,v,I1,bc,rfl,ad.1.1,ad.1.2,λb j hi=>D.sub b j hi,λb j hi=>⟨(D.old b j hi).1,?_⟩,⟨λid=>?_,λid ao b z h1 h2=>D.dist id ao b z (G id h1) (G ao h2)⟩,h2,λb hb=>?_,λid hk z=>?_⟩
  ·rcases (D.old b j hi).2 with h | h
   ·exact .inl h
   ·exact .inr h
  ·rcases zKM ab id with h | h
   ·rw[h];trivial
   ·rw[<-h];exact(D.blks id).mineM λ_ _ _ _=>trivial
  ·obtain⟨id,z,ac⟩:=hb
   have:=D.blt id b (G id z) ac;exact⟨this.2,this.1⟩
  ·refine D.nm id (ρ id) ?_ (G id z)
   simp only[Env.gen];rw[dK hk]
 cases e with
 | normal=>exact ai hK
 | ret=>exact ai hK
 | _=>exact hK.elim
theorem zC1 {f:FuncId} {z:Func} {c:Code} {args k:List Cap} {T K:List (Nat×Blk)} {keep:List Nat} (Y:P.funcs[f]? =some z) (D:(z.name== "runtime.NumGoroutine")=false) (hb:z.body=some c) (Z:args.length<=z.ntmps) (G:z.ntmps<=1000000)
  (h:∀w0 O hG H,Avc P none (Env.gen (zAU P) w0 O hG H T keep z.ntmps G) c (yK3 P z k K) ⟨zMH args 0,T⟩):GC P f args T keep k K:=
 z7W (λw I ρ v=>yHL w I ρ v k) (λS=>RetGS P S z.results.toList k) (λ_ _ _ _ _ _ _ hs hr=>RetGS.run hs hr) Y D hb Z G h
theorem z7X {f:FuncId} {z:Func} {c:Code} {args:List Cap} {k:AV} {K:Nat} {T Y:List (Nat×Blk)} {keep:List Nat} (hf:P.funcs[f]? =some z) (D:(z.name== "runtime.NumGoroutine")=false) (hb:z.body=some c) (hn:args.length<=z.ntmps) (G:z.ntmps<=1000000) (H:z.results= #[.tmp K])
  (h:∀w0 Z hG O,Avc P none (Env.gen (zAU P) w0 Z hG O T keep z.ntmps G) c (yF5 (λS=>(S.get K).un=k) Y) ⟨zMH args 0,T⟩):GCA P f args T keep k Y:=
 z7W (λw I ρ v=>Holds w I ρ v k) (λS=>(S.get K).un=k) (λE S a w I ρ C hs hr=>⟨_,zKK (xs:=[a.tmps.getD K undef]) (by rw[H];simp[zR8]),by
  have:=(hs.tmps K).un;rw[hr] at this;exact this⟩) hf D hb hn G h
end
open Go.RowKit
def Cap.ren (σ:List (Nat×Nat)):Cap->Cap
 | .ptr i o=> .ptr (look 0 σ i) o
 | .row i=> .row (look 0 σ i)
 | c=>c
def AV.ren (σ:List (Nat×Nat)):AV->AV
 | .row i=> .row (look 0 σ i)
 | .ptr i o=> .ptr (look 0 σ i) o
 | .rs i o n=> .rs (look 0 σ i) o n
 | .wp i o=> .wp (look 0 σ i) o
 | .ws i o n tt=> .ws (look 0 σ i) o n tt
 | .cond g x=> .cond g (x.ren σ)
 | .clo f h=> .clo f (h.map (Cap.ren σ))
 | .tupc h=> .tupc (h.map (Cap.ren σ))
 | .aggc h=> .aggc (h.map (Cap.ren σ))
 | x=>x
def Blk.ren (σ:List (Nat×Nat)):Blk->Blk
 | .box e cells=> .box e (cells.map (AV.ren σ))
 | b=>b
def renL (σ:List (Nat×Nat)) (T:List (Nat×Blk)):List (Nat×Blk):=T.map λp=>(look 0 σ p.1,p.2.ren σ)
def xS (σ:List (Nat×Nat)) (k:Nat):Bool:=σ.any λp=>Nat.beq p.1 k
def Cap.idsLt (σ:List (Nat×Nat)):Cap->Bool
 | .ptr i _=>xS σ i
 | .row i=>xS σ i
 | _=>true
def AV.idsLt (σ:List (Nat×Nat)):AV->Bool
 | .row i=>xS σ i
 | .ptr i _=>xS σ i
 | .rs i _ _=>xS σ i
 | .wp i _=>xS σ i
 | .ws i _ _ _=>xS σ i
 | .cond _ x=>x.idsLt σ
 | .clo _ h=>h.all (Cap.idsLt σ)
 | .tupc h=>h.all (Cap.idsLt σ)
 | .aggc h=>h.all (Cap.idsLt σ)
 | _=>true
def Blk.idsLt (σ:List (Nat×Nat)):Blk->Bool
 | .box _ cells=>cells.all (AV.idsLt σ)
 | _=>true
section
variable {w:World} {I:Im}
theorem HoldsC.ren {σ:List (Nat×Nat)} {ρ z:Nat->Value} {v:Value} {c:Cap} (h:∀k,xS σ k=true->z (look 0 σ k)= ρ k) (D:c.idsLt σ =true):HoldsC w I ρ v c↔HoldsC w I z v (c.ren σ):=by
 cases c with
 | top=>exact Iff.rfl
 | d x=>exact Iff.rfl
 | ptr i o=>
  have:xS σ i=true:=D;simp only[HoldsC,Cap.ren,h i this]
 | row i=>
  have:xS σ i=true:=D;simp only[HoldsC,Cap.ren,h i this]
theorem zN9 {K O Y:Type} {R: K->O->Prop} {R': K->Y->Prop} {f: O->Y} {xs:List K} {ys:List O} (h:∀x y,y∈ys->(R x y↔R' x (f y))):Pw R xs ys↔Pw R' xs (ys.map f):=by
 constructor
 rintro⟨D,G⟩
 refine⟨by simpa using D,λj x y H k=>?_⟩;rw[dX] at k;cases z:ys[j]? with
 | none=>simp[z] at k
 | some T=>simp[z] at k;subst k;exact(h x T (eT z)).1 (G j x T H z)
 rintro⟨D,G⟩
 refine⟨by simpa using D,λj x y H k=>?_⟩;exact(h x y (eT k)).2 (G j x (f y) H (by simp[k]))
theorem HoldsC.renL {σ:List (Nat×Nat)} {ρ h:Nat->Value} (z:∀k,xS σ k=true->h (look 0 σ k)= ρ k) {xs:List Value} {cs:List Cap} (D:cs.all (Cap.idsLt σ)=true):Pw (HoldsC w I ρ) xs cs↔Pw (HoldsC w I h) xs (cs.map (Cap.ren σ)):=
 zN9 λx y G=>HoldsC.ren z (eC.1 D y G)
theorem Holds.ren {σ : List (Nat × Nat)} {ρ ρ' : Nat -> Value} (hρ : ∀ k, xS σ k = true -> ρ' (look 0 σ k) = ρ k) {v : Value} : ∀ {x : AV}, x.idsLt σ = true -> (Holds w I ρ v x ↔ Holds w I ρ' v (x.ren σ)) := by
  intro x
  induction x with
  | row i => intro hn; have : xS σ i = true := hn
             simp only[Holds, AV.ren, hρ i this]
  | ptr i o => intro hn; have : xS σ i = true := hn
               simp only[Holds, AV.ren, hρ i this]
  | rs i o m => intro hn; have : xS σ i = true := hn
                simp only[Holds, AV.ren, hρ i this]
  | wp i o => intro hn; have : xS σ i = true := hn
              simp only[Holds, AV.ren, hρ i this]
  | ws i o m tt => intro hn; have : xS σ i = true := hn
                   simp only[Holds, AV.ren, hρ i this]
  | cond g x ih => intro hn; simp only[Holds, AV.ren, ih hn]
  | clo f caps => intro hn; simp only[Holds, AV.ren]; constructor
                  · rintro⟨xs, h1, h2⟩; exact⟨xs, h1, (HoldsC.renL hρ hn).1 h2⟩
                  · rintro⟨xs, h1, h2⟩; exact⟨xs, h1, (HoldsC.renL hρ hn).2 h2⟩
  | tupc caps => intro hn; simp only[Holds, AV.ren]; constructor
                 · rintro⟨xs, h1, h2⟩; exact⟨xs, h1, (HoldsC.renL hρ hn).1 h2⟩
                 · rintro⟨xs, h1, h2⟩; exact⟨xs, h1, (HoldsC.renL hρ hn).2 h2⟩
  | aggc caps => intro hn; simp only[Holds, AV.ren]; constructor
                 · rintro⟨xs, h1, h2, h3⟩; exact⟨xs, h1, (HoldsC.renL hρ hn).1 h2, h3⟩
                 · rintro⟨xs, h1, h2, h3⟩; exact⟨xs, h1, (HoldsC.renL hρ hn).2 h2, h3⟩
  | top => intro _; exact Iff.rfl
  | d x => intro _; exact Iff.rfl
  | ip c o => intro _; exact Iff.rfl
  | tup ds => intro _; exact Iff.rfl
  | gh k => intro _; exact Iff.rfl
theorem BlkOk.ren {σ:List (Nat×Nat)} {ρ z:Nat->Value} {k:Nat} {M:Nat->Prop} (h:∀k,xS σ k=true->z (look 0 σ k)= ρ k) (D:xS σ k=true) {x:Blk} (Z:x.idsLt σ =true):BlkOk w I ρ M k x↔BlkOk w I z M (look 0 σ k) (x.ren σ):=by
 cases x with
 | none=>exact Iff.rfl
 | row e size sh cells=>simp only[BlkOk,Blk.ren,h k D]
 | map es=>simp only[BlkOk,Blk.ren,h k D]
 | it es q=>simp only[BlkOk,Blk.ren,h k D]
 | win e size k' cells=>simp only[BlkOk,Blk.ren,h k D]
 | box e cells=>
  simp only[BlkOk,Blk.ren,h k D];have:∀arr:Array Value,Pw (Holds w I ρ) arr.toList cells↔Pw (Holds w I z) arr.toList (cells.map (AV.ren σ)):=λarr=>
   zN9 λx y hy=>Holds.ren h (eC.1 Z y hy)
  constructor
  rintro⟨b,arr,G,H,K,O,T,Y⟩;exact⟨b,arr,G,H,K,O,(this arr).1 T,Y⟩
  rintro⟨b,arr,G,H,K,O,T,Y⟩;exact⟨b,arr,G,H,K,O,(this arr).2 T,Y⟩
theorem HoldsC.agree {ρ k:Nat->Value} {v:Value} {c:Cap} (h:HoldsC w I ρ v c) (z:∀id,c.mentions id=true->k id= ρ id):HoldsC w I k v c:=by
 cases c with
 | top=>trivial
 | d x=>exact h
 | ptr i o=>simpa only[HoldsC,z i (by simp[Cap.mentions])] using h
 | row i=>simpa only[HoldsC,z i (by simp[Cap.mentions])] using h
theorem Holds.agree {ρ Y:Nat->Value} {v:Value}:∀{x:AV},Holds w I ρ v x->(∀id,x.mentions id=true->Y id= ρ id)->Holds w I Y v x:=by
 intro x
 induction x with
 | row i=>intro h z;simpa only[Holds,z i (by simp[AV.mentions])] using h
 | ptr i o=>intro h z;simpa only[Holds,z i (by simp[AV.mentions])] using h
 | rs i o m=>intro h z;simpa only[Holds,z i (by simp[AV.mentions])] using h
 | wp i o=>intro h z;simpa only[Holds,z i (by simp[AV.mentions])] using h
 | ws i o m tt=>intro h z;simpa only[Holds,z i (by simp[AV.mentions])] using h
 | cond g x ih=>intro h z;exact⟨λhg=>ih (h.1 hg) (λid K=>z id (by simpa[AV.mentions] using K)),h.2⟩
 | clo f D=>
  rintro⟨xs,O,G⟩ z
  exact⟨xs,O,G.1,λj x c T H=>(G.2 j x c T H).agree λid K=>z id (by simp only[AV.mentions,fX];exact⟨c,eT H,K⟩)⟩
 | tupc D=>
  rintro⟨xs,O,G⟩ z
  exact⟨xs,O,G.1,λj x c T H=>(G.2 j x c T H).agree λid K=>z id (by simp only[AV.mentions,fX];exact⟨c,eT H,K⟩)⟩
 | aggc D=>
  rintro⟨xs,O,G,Z⟩ z
  exact⟨xs,O,⟨G.1,λj x c T H=>(G.2 j x c T H).agree λid K=>z id (by simp only[AV.mentions,fX];exact⟨c,eT H,K⟩)⟩,Z⟩
 | top=>intro h _;exact h
 | d x=>intro h _;exact h
 | ip c o=>intro h _;exact h
 | tup ds=>intro h _;exact h
 | gh k=>intro h _;exact h
end
def zHI (h:List Nat) (x:AV):AV:=if h.any (λk=>x.mentions k) then .top else x
def zCF (h:List Nat):Blk->Blk
 | .box e cells=> .box e (cells.map (zHI h))
 | b=>b
def AState.killL (S:AState) (h:List Nat):AState:=
 {tmps:=S.tmps.map λp=>(p.1,zHI h p.2),blks:=S.blks.map λp=>(p.1,zCF h p.2)}
theorem zUY (S:AState) (h:List Nat) (t:Nat):(S.killL h).get t=zHI h (S.get t):=zN2 _ _ (by simp[zHI,AV.mentions]) _ _
theorem zUZ (S:AState) (h:List Nat) (i:Nat):(S.killL h).blk i=zCF h (S.blk i):=zN2 _ _ rfl _ _
theorem zMI {w:World} {I:Im} {ρ k:Nat->Value} {D:List Nat} {v:Value} {x:AV} (h:Holds w I ρ v x) (G:∀id,D.contains id=false->k id= ρ id):Holds w I k v (zHI D x):=by
 unfold zHI;split;trivial;rename_i K;refine h.agree λid z=>G id ?_;cases H:D.contains id with
 | false=>rfl
 | true=>
  exfalso;apply K;simp only[fX];exact⟨id,by simpa using H,z⟩
theorem z7Y (z:List Nat) (x:AV):(match zHI z x with | .gh k=>k | _=>0)=(match x with | .gh k=>k | _=>0):=by
 unfold zHI;by_cases h:(z.any λk=>x.mentions k)=true;simp only[h,dH];cases x<;>first | rfl | (simp[AV.mentions] at h)
 simp only[h];rfl
def AState.setL (S:AState) (T:List (Nat×Blk)):AState:={S with blks:=T++S.blks}
theorem zHJ {D:Type} (z: D) (l m:List (Nat×D)) (k:Nat):look z (l++m) k=if l.any (λp=>Nat.beq p.1 k) then look z l k else look z m k:=by
 induction l with
 | nil=>simp[look]
 | cons p l H=>
  obtain⟨i,x⟩:=p;simp only[fR,look,List.any_cons];by_cases h:Nat.beq i k=true;simp[h];have G:Nat.beq i k=false:=Bool.eq_false_iff.2 h;simp only[G,H,fa];simp
def ArgsAs (σ:List (Nat×Nat)):List AV->List Cap->Prop
 | [],[]=>True
 | x::xs,c::cs=>CapOf x (c.ren σ)/\ArgsAs σ xs cs
 | _,_=>False
theorem ArgsAs.holds {w:World} {I:Im} {ρ D:Nat->Value} {σ:List (Nat×Nat)} (H:∀k,xS σ k=true->D (look 0 σ k)= ρ k):∀{vs:List Value} {xs:List AV} {cs:List Cap},ArgsAs σ xs cs->cs.all (Cap.idsLt σ)=true->Pw (Holds w I D) vs xs->Pw (HoldsC w I ρ) vs cs:=by
 intro vs xs
 induction xs generalizing vs with
 | nil=>
  intro cs h _ z;cases cs with
  | nil=>exact⟨z.1,λj x y Y O=>by simp at O⟩
  | cons c cs=>exact h.elim
 | cons x xs T=>
  intro cs h G z;cases cs with
  | nil=>exact h.elim
  | cons c cs=>
   cases vs with
   | nil=>have:=z.1;simp at this
   | cons v vs=>
    simp only[hY,dM] at G;refine Pw.cons ((HoldsC.ren H G.1).2 (h.1.holds (z.2 0 v x rfl rfl))) (T h.2 G.2 ⟨by have:=z.1;simpa using this,λj a b K hb=>z.2 (j+1) a b (by simpa using K) (by simpa using hb)⟩)
def BlksAs (S:AState) (σ:List (Nat×Nat)):List (Nat×Blk)->Prop
 | []=>True
 | (k,x)::T=>S.blk (look 0 σ k)=x.ren σ/\BlksAs S σ T
theorem BlksAs.look {S:AState} {σ:List (Nat×Nat)}:∀{T:List (Nat×Blk)},BlksAs S σ T->∀k,look Blk.none T k≠ .none->S.blk (look 0 σ k)=(look Blk.none T k).ren σ
 | [],_,k,h=>absurd rfl h
 | (i,x)::T,h,k,z=>by
  rw[kB] at z ⊢;by_cases e:i=k;subst e;simp only[dH];exact h.1;simp only[e,cY] at z ⊢;exact BlksAs.look h.2 k z
def zMZ:List Cap->AV
 | [c]=>c.av
 | cs=> .tupc cs
theorem yHM {σ:List (Nat×Nat)} {x:Blk}:x.ren σ≠ .none↔x≠ .none:=by cases x<;>simp[Blk.ren]
def zH8 (σ:List (Nat×Nat)) (keep:List Nat) (h:List (Nat×Blk)):List Nat:=
 σ.filterMap λq=>if keep.contains q.1&&h.any (λp=>Nat.beq p.1 q.1) then none else some q.2
def zL9 (σ:List (Nat×Nat)) (T h:List (Nat×Blk)):List (Nat×Blk):=
 (T.filter λp=>!h.any (λq=>Nat.beq q.1 p.1)).map λp=>(look 0 σ p.1,Blk.none)
theorem BlkOk.agree {w:World} {I:Im} {ρ D:Nat->Value} {M:Nat->Prop} {i:Nat} {x:Blk} {O:List Nat} (h:BlkOk w I ρ M i x) (hi: D i= ρ i) (ha:∀id,O.contains id=false->D id= ρ id):BlkOk w I D M i (zCF O x):=by
 cases x with
 | none=>trivial
 | row e size sh cells=>simpa only[BlkOk,zCF,hi] using h
 | map es=>simpa only[BlkOk,zCF,hi] using h
 | it es q=>simpa only[BlkOk,zCF,hi] using h
 | win e size k cells=>simpa only[BlkOk,zCF,hi] using h
 | box e cells=>
  obtain⟨b,arr,T,Y,Z,h4,K,h6⟩:=h;refine⟨b,arr,by rw[hi];exact T,Y,Z,h4,⟨by simpa using K.1,λj y av hj z=>?_⟩,h6⟩
  rw[dX] at z;cases H:cells[j]? with
  | none=>simp[H] at z
  | some G=>simp[H] at z;subst z;exact zMI (K.2 j y G hj H) ha
theorem yCY {h:List Nat} {x:Blk}:zCF h x≠ .none↔x≠ .none:=by cases x<;>simp[zCF]
structure Ren (σ:List (Nat×Nat)):Prop where
 keys:(σ.map Prod.fst).Nodup
 vals:(σ.map Prod.snd).Nodup
theorem zDS {σ:List (Nat×Nat)} {k:Nat} (h:xS σ k=true):(k,look 0 σ k)∈σ:=by
 induction σ with
 | nil=>simp[xS] at h
 | cons p σ z=>
  obtain⟨i,x⟩:=p;rw[kB];by_cases e:i=k;subst e;simp;simp only[e,cY];have hb:Nat.beq i k=false:=Bool.eq_false_iff.2 λh=>e (io h);simp only[xS,List.any_cons,hb,fa] at h;exact iu _ (z h)
theorem z47 {σ:List (Nat×Nat)} {k x:Nat} (h:(k,x)∈σ):xS σ k=true:=by simp only[xS,fX];exact⟨(k,x),h,by simp[g4]⟩
theorem zYP {σ:List (Nat×Nat)} (z:(σ.map Prod.fst).Nodup) {k x:Nat} (h:(k,x)∈σ):look 0 σ k=x:=by
 induction σ with
 | nil=>simp at h
 | cons p σ D=>
  obtain⟨i,y⟩:=p;rw[kB];simp only[ey,List.nodup_cons] at z;rcases dN.1 h with h | h;cases h;simp;have:i≠k:=λe=>z.1 (eJ.2 ⟨(k,x),h,e.symm⟩);simp only[this,cY];exact D z.2 h
theorem yCZ {σ:List (Nat×Nat)} (z:(σ.map Prod.snd).Nodup) {k G x:Nat} (h:(k,x)∈σ) (H:(G,x)∈σ):k=G:=by
 induction σ with
 | nil=>simp at h
 | cons p σ K=>
  simp only[ey,List.nodup_cons] at z;rcases dN.1 h with D | D<;>rcases dN.1 H with h2 | h2
  rw[<-D] at h2;exact(Prod.mk.inj h2).1.symm;exact absurd (eJ.2 ⟨_,h2,by rw[<-D]⟩) z.1;exact absurd (eJ.2 ⟨_,D,by rw[<-h2]⟩) z.1;exact K z.2 D h2
theorem zYQ {σ:List (Nat×Nat)} (h:Ren σ) {k D:Nat} (G:xS σ k=true) (z:xS σ D=true) (e:look 0 σ k=look 0 σ D):k=D:=
 yCZ h.vals (zDS G) (by rw[e];exact zDS z)
theorem zF6 {σ:List (Nat×Nat)} {k:Nat} (h:xS σ k=true):look 0 σ k∈σ.map Prod.snd:=eJ.2 ⟨_,zDS h,rfl⟩
theorem zYR {σ:List (Nat×Nat)} (z:Ren σ) {i:Nat} (h:i∈σ.map Prod.snd):∃k,xS σ k=true/\look 0 σ k=i:=by obtain⟨⟨k,x⟩,D,rfl⟩:=eJ.1 h;exact⟨k,z47 D,zYP z.keys D⟩
theorem zPK {σ:List (Nat×Nat)} (z:Ren σ):∀{T:List (Nat×Blk)},(∀p∈T,xS σ p.1=true)->∀{k:Nat},xS σ k=true->look Blk.none (renL σ T) (look 0 σ k)=(look Blk.none T k).ren σ
 | [],_,k,_=>rfl
 | (i,x)::T,h,k,D=>by
  show look Blk.none ((look 0 σ i,x.ren σ)::renL σ T) (look 0 σ k)=_;rw[kB,kB];by_cases e:i=k;subst e;simp;have:look 0 σ i≠look 0 σ k:=λG=>e (zYQ z (h (i,x) (by simp)) D G);simp only[this,e,cY];exact zPK z (λp H=>h p (by simp[H])) D
theorem zYS {T:List (Nat×Blk)} (h:∀p∈T,p.2≠ .none) (k:Nat):T.any (λp=>Nat.beq p.1 k)=true↔look Blk.none T k≠ .none:=by
 induction T with
 | nil=>simp[look]
 | cons p T D=>
  obtain⟨i,x⟩:=p;rw[kB,List.any_cons];by_cases e:i=k;subst e;simp[g4,h (i,x) (by simp)];have:Nat.beq i k=false:=Bool.eq_false_iff.2 λh=>e (io h);simp only[this,fa,e,cY];exact D λp z=>h p (by simp[z])
def Blk.isSome:Blk->Bool
 | .none=>false
 | _=>true
def zBI (σ:List (Nat×Nat)) (T:List (Nat×Blk)):Bool:=T.all λp=>xS σ p.1&&p.2.idsLt σ &&p.2.isSome
theorem zQE {σ:List (Nat×Nat)} {T:List (Nat×Blk)} (h:zBI σ T=true):∀p∈T,xS σ p.1=true/\p.2.idsLt σ =true/\p.2≠ .none:=by intro p k;have:=eC.1 h p k;simp only[dM] at this;refine⟨this.1.1,this.1.2,λe=>?_⟩;rw[e] at this;simp[Blk.isSome] at this
theorem zKQ {T:List (Nat×Blk)} {k:Nat} (h:look Blk.none T k≠ .none):(k,look Blk.none T k)∈T:=by
 induction T with
 | nil=>exact absurd rfl h
 | cons p T z=>
  obtain⟨i,x⟩:=p;rw[kB] at h ⊢;by_cases e:i=k;subst e;simp;simp only[e,cY] at h ⊢;exact iu _ (z h)
theorem z48 {σ:List (Nat×Nat)} {T h:List (Nat×Blk)} (i:Nat):look Blk.none (zL9 σ T h) i= .none:=by
 unfold zL9
 induction (T.filter λp=>!h.any (λq=>Nat.beq q.1 p.1)) with
 | nil=>rfl
 | cons p l k=>rw[ey,kB];split;rfl;exact k
def zOA (S:AState) (σ:List (Nat×Nat)) (T:List (Nat×Blk)):Prop:= ∀k,xS σ k=true->look Blk.none T k= .none->S.blk (look 0 σ k)= .none
section
variable {P:Program} {r:Option Nat} {E:Env} {S:AState} {d:Nat} {ty:TypeId} {pos:String} {af:Array Edge} {g:Option (Nat×Bool)}
theorem zU0 {f:FuncId} {xf:Operand} {extra:List AV} {xs:List Operand} {ats:Array TypeId} {args:List Cap} {bt:AV} {T H:List (Nat×Blk)} {keep:List Nat} (σ:List (Nat×Nat)) (hn:d<E.n) (ao:Ren σ)
  (cp:∀A w I ρ C,SatAt E S A w I ρ C->∃aq:List Value,A.eval xf= .func (.func f) #[] aq.toArray/\Pw (Holds w I ρ) aq extra) (bk:ArgsAs σ (xs.map S.ev++extra) args) (ck:args.all (Cap.idsLt σ)=true) (cx:bt.idsLt σ =true) (hT:BlksAs S σ T) (cj:zBI σ T=true) (bv:zBI σ H=true)
  (cq:zOA S σ T) (cv:∀k,xS σ k=true->E.nm (look 0 σ k)=none\/(keep.contains k=true/\look Blk.none T k≠ .none/\look Blk.none H k≠ .none)) (hc:GCA P f args T keep bt H) (hE:E.wrB=true) (hG:E.gdt=zAU P:=by rfl):
  jA P r E ⟨some d,.call {callee:= .value xf,args:=xs.toArray,argTypes:=ats},ty,pos,af,g⟩ S
   (((S.killL (zH8 σ keep H)).setL (renL σ H++zL9 σ T H)).put d (bt.ren σ)):=by
 rintro A w K Q ⟨I,ρ,C,Y⟩ hk
 obtain⟨⟨fn,hf,bp,bl⟩,bm⟩:=hc;have az:=zQE cj;have D:=zQE bv
 let ap:Nat->Value:=λk=>ρ (look 0 σ k)
 have bf:∀k,xS σ k=true->ρ (look 0 σ k)= ap k:=λ_ _=>rfl;have ay:∀k,look Blk.none T k≠ .none->xS σ k=true/\(look Blk.none T k).idsLt σ =true/\S.blk (look 0 σ k)=(look Blk.none T k).ren σ/\S.blk (look 0 σ k)≠ .none:=λk h=>by
  have:=az _ (zKQ h);have h2:=hT.look k h;exact⟨this.1,this.2.1,h2,by rw[h2];exact yHM.2 h⟩
 have bn:Frag w I ap T:=by
  refine⟨λk=>?_,λk k' b h h1 h2 hb=>?_⟩
  ·by_cases h:look Blk.none T k= .none
   ·rw[h];trivial
   ·obtain⟨t1,t2,t3,_⟩:=ay k h
    have:=Y.blks (look 0 σ k);rw[t3] at this;exact((BlkOk.ren bf t1 t2).2 this).mineM λ_ _ _ _=>trivial
  ·obtain⟨t1,_,_,t4⟩:=ay k h1
   obtain⟨u1,_,_,u4⟩:=ay k' h2;exact Y.dist _ _ b (λe=>h (zYQ ao t1 u1 e)) t4 u4 hb
 obtain⟨aq,cy,cn⟩:=cp A w I ρ C Y;have cm:=bm w I ap (xs.map A.eval++aq) (λb j hi=>(Y.old b j hi).1) (hG▸Y.gl) bn (ArgsAs.holds bf bk ck (Pw.append (uB Y xs) cn));refine⟨λf _=>trivial,?_⟩;rw[Oper.semAt_eq _ _ _ (by simp)];have cd:(execOp A.eval ⟨some d,.call {callee:= .value xf,args:=xs.toArray,argTypes:=ats},ty,pos,af,g⟩).run P w= .ok (.enter f (xs.map A.eval++aq).toArray) w:=by
  simp only[execOp,resolve,cy,Deferred.ofValue];have ct:¬fn.name= "runtime.NumGoroutine" :=by simpa using bp
  have cu:¬fn.body=none:=by intro e;simp[e] at bl
  simp[invoke,callFunc,hf,ct,cu,eH]
 rw[cd];refine⟨by simp[fen,Fence.wide],?_⟩;show CallsIn Fence.wide 0 P f _ w _;refine gy.2 (cm.mono ?_)
 rintro e w' ⟨v,I',bh,rfl,ar,al,ax,an,am,cc,ai,aw⟩
 let cz:Nat->Nat:=λi=>look 0 (σ.map λp=>(p.2,p.1)) i
 let ak:Nat->Value:=λi=>if i∈σ.map Prod.snd then bh (cz i) else ρ i
 have Z:∀k,xS σ k=true->ak (look 0 σ k)= bh k:=λk hk=>by
  simp only[ak,zF6 hk,dH];congr 1;refine zYP (σ:=σ.map λp=>(p.2,p.1)) ?_ (eJ.2 ⟨_,zDS hk,rfl⟩);rw[List.map_map];exact ao.vals
 have ag:∀i,i∉σ.map Prod.snd->ak i= ρ i:=λi hi=>by simp only[ak,hi,cY]
 have agree:∀id,(zH8 σ keep H).contains id=false->ak id= ρ id:=by
  intro id hl;by_cases hm:id∈σ.map Prod.snd
  ·obtain⟨k,hk,rfl⟩:=zYR ao hm
   rw[Z k hk];by_cases bc:(keep.contains k&&H.any (λp=>Nat.beq p.1 k))=true
   ·simp only[dM] at bc
    exact aw k bc.1 ((zYS (λp hp=>(D p hp).2.2) k).1 bc.2)
   ·exfalso
    have:(zH8 σ keep H).contains (look 0 σ k)=true:=by
     rw[List.contains_iff_mem];unfold zH8;rw[List.mem_filterMap];exact⟨_,zDS hk,by rw[dQ bc]⟩
    rw[this] at hl;cases hl
  ·exact ag id hm
 have bg:∀b,jQ T ap b->∃k,xS σ k=true/\look Blk.none T k≠ .none/\S.blk (look 0 σ k)≠ .none/\blockOf (ρ (look 0 σ k))=some b:=by
  rintro b ⟨k,h1,h2⟩
  obtain⟨t1,_,_,t4⟩:=ay k h1;exact⟨k,t1,h1,t4,h2⟩
 have z:∀b,jQ T ap b->E.mine b/\b<w.heap.size/\¬C b/\∃o,w.heap[b]? =some o/\isData o=true:=by
  intro b hb;obtain⟨k,_,_,h3,h4⟩:=bg b hb;exact⟨(Y.blt _ b h3 h4).1,(Y.blt _ b h3 h4).2,Y.cB _ b h3 h4,Y.cellBlk h3 h4⟩
 let S1:=(S.killL (zH8 σ keep H)).setL (renL σ H++zL9 σ T H)
 have bj:∀k,look Blk.none H k≠ .none->S1.blk (look 0 σ k)=(look Blk.none H k).ren σ/\xS σ k=true:=by
  intro k h;have hm:=D _ (zKQ h);refine⟨?_,hm.1⟩;show look Blk.none ((renL σ H++zL9 σ T H)++(S.killL (zH8 σ keep H)).blks) (look 0 σ k)=_;have ha:(renL σ H).any (λp=>Nat.beq p.1 (look 0 σ k))=true:=by
   simp only[fX];exact⟨(look 0 σ k,(look Blk.none H k).ren σ),eJ.2 ⟨_,zKQ h,rfl⟩,by simp[g4]⟩
  rw[dB,zHJ,dK ha,zPK ao (λp hp=>(D p hp).1) hm.1]
 have O:∀i,S1.blk i≠ .none->(∃k,xS σ k=true/\look Blk.none H k≠ .none/\i=look 0 σ k)\/(i∉σ.map Prod.snd/\S1.blk i=zCF (zH8 σ keep H) (S.blk i)/\S.blk i≠ .none):=by
  intro i h;by_cases hm:i∈σ.map Prod.snd
  ·obtain⟨k,hk,rfl⟩:=zYR ao hm
   by_cases aa:look Blk.none H k= .none
   ·exfalso
    apply h;show look Blk.none ((renL σ H++zL9 σ T H)++(S.killL (zH8 σ keep H)).blks) (look 0 σ k)=_;rw[dB,zHJ];split
    ·rw[zPK ao (λp hp=>(D p hp).1) hk,aa];rfl
    ·rw[zHJ]
     split
     ·exact z48 _
     ·rename_i hg
      show (S.killL (zH8 σ keep H)).blk (look 0 σ k)=_;rw[zUZ];by_cases cb:look Blk.none T k= .none
      ·rw[cq k hk cb];rfl
      ·exfalso
       apply hg;simp only[fX];refine⟨(look 0 σ k,Blk.none),eJ.2 ⟨(k,look Blk.none T k),fA.2 ⟨zKQ cb,?_⟩,rfl⟩,by simp[g4]⟩;cases hx:H.any (λq=>Nat.beq q.1 k) with
       | false=>simp[hx]
       | true=>exact absurd aa ((zYS (λp hp=>(D p hp).2.2) k).1 hx)
   ·exact .inl ⟨k,hk,aa,rfl⟩
  ·have hb:S1.blk i=zCF (zH8 σ keep H) (S.blk i):=by
    show look Blk.none ((renL σ H++zL9 σ T H)++(S.killL (zH8 σ keep H)).blks) i=_;have h1:(renL σ H++zL9 σ T H).any (λp=>Nat.beq p.1 i)=false:=by
     rw[gI];intro p hp;have:p.1∈σ.map Prod.snd:=by
      rcases eN.1 hp with hp | hp
      ·obtain⟨q,hq,rfl⟩:=eJ.1 hp;exact zF6 (D q hq).1
      ·obtain⟨q,hq,rfl⟩:=eJ.1 hp;exact zF6 (az q (fA.1 hq).1).1
     simp only[g4];intro e;exact hm (e▸this)
    rw[zHJ,h1];exact zUZ _ _ _
   exact .inr ⟨hm,hb,by rw[hb] at h;exact yCY.1 h⟩
 have ac:∀i b,i∉σ.map Prod.snd->S.blk i≠ .none->blockOf (ρ i)=some b->¬jQ T ap b:=by
  intro i b hm h hb ho;obtain⟨k,hk,_,h3,h4⟩:=bg b ho;exact Y.dist i (look 0 σ k) b (λe=>hm (e▸zF6 hk)) h h3 hb h4
 have cf:SatAt E S1 A w' I' ak C:=by
  refine⟨λt=>?_,λi=>?_,λi i' b h hi ca hb=>?_,?_,λb j hi=>ax b j (Y.sub b j hi),λb j hi=>⟨(an b j hi).1,?_⟩,Y.size,Y.defers.keep λq hq=>?_,λb j hi=>?_,λi b hi hb=>?_,λi u hu hi=>?_⟩
  ·show Holds w' I' ak _ ((S.killL (zH8 σ keep H)).get t)
   rw[zUY];exact zMI ((Y.tmps t).mono al ax) agree
  ·by_cases h:S1.blk i= .none
   ·rw[h];trivial
   ·rcases O i h with ⟨k,hk,aa,rfl⟩ | ⟨hm,hb,G⟩
    ·rw[(bj k aa).1]
     have hm:=D _ (zKQ aa);refine((BlkOk.ren (M:=λ_=>True) Z hk hm.2.1).1 (am.ok k)).mineM λb _ aj _=>?_;rw[Z k hk] at aj;rcases (ai b ⟨k,aa,aj⟩).2 with h1 | h1
     ·exact E.mineB b (d7 (E.size _ _ _ Y.frame) h1)
     ·exact(z b h1).1
    ·rw[hb]
     refine BlkOk.agree ?_ (ag i hm) agree;refine((Y.blks i).mono al λb aj=>ar.block b (Y.blt i b G aj).2 (ac i b hm G aj)).widenI ax λb j _ aj hi=>?_;rcases (an b j hi).2 with h1 | h1 | h1
     ·exact h1
     ·have:=(Y.blt i b G aj).2;omega
     ·exact absurd h1 (ac i b hm G aj)
  ·rcases O i hi with ⟨k,hk,aa,rfl⟩ | ⟨hm,bw,G⟩
   ·rw[Z k hk] at hb
    rcases O i' ca with ⟨k2,bo,au,rfl⟩ | ⟨bd,bx,ah⟩
    ·rw[Z k2 bo]
     exact am.dist k k2 b (λe=>h (by rw[e])) aa au hb
    ·rw[ag i' bd]
     intro bb;rcases (ai b ⟨k,aa,hb⟩).2 with h1 | h1
     ·have:=(Y.blt i' b ah bb).2;omega
     ·exact ac i' b bd ah bb h1
   ·rw[ag i hm] at hb
    rcases O i' ca with ⟨k2,bo,au,rfl⟩ | ⟨bd,bx,ah⟩
    ·rw[Z k2 bo]
     intro bb;rcases (ai b ⟨k2,au,bb⟩).2 with h1 | h1
     ·have:=(Y.blt i b G hb).2;omega
     ·exact ac i b hm G hb h1
    ·rw[ag i' bd]
     exact Y.dist i i' b h G ah hb
  ·have cr:S1.ghost=S.ghost:=by
    unfold AState.ghost;show (match (S.killL (zH8 σ keep H)).get GT with | .gh k=>k | _=>0)=_;rw[zUY];exact z7Y _ _
   rw[cr];exact E.wr hE _ _ _ _ _ Y.frame ar (λb hb=>⟨(z b hb).1,(z b hb).2.2⟩) (λb j hi=>al b j (Y.sub b j hi))
  ·rcases (an b j hi).2 with h1 | h1 | h1
   ·exact(Y.old b j h1).2
   ·exact .inr (E.mineB b (d7 (E.size _ _ _ Y.frame) h1))
   ·exact .inr (z b h1).1
  ·refine(ar.block q (cU.1 hq).1 λho=>?_).trans hq
   obtain⟨o,h1,h2⟩:=(z q ho).2.2.2;rw[hq] at h1;cases h1;cases h2
  ·rcases (an b j hi).2 with h1 | h1 | h1
   ·exact Y.cI b j h1
   ·intro hc;have:=E.csize _ _ _ Y.frame _ hc;omega
   ·exact(z b h1).2.2.1
  ·rcases O i hi with ⟨k,hk,aa,rfl⟩ | ⟨hm,bw,G⟩
   ·rw[Z k hk] at hb
    rcases (ai b ⟨k,aa,hb⟩).2 with h1 | h1
    ·intro hc;have:=E.csize _ _ _ Y.frame _ hc;omega
    ·exact(z b h1).2.2.1
   ·rw[ag i hm] at hb;exact Y.cB i b G hb
  ·rcases O i hi with ⟨k,hk,aa,rfl⟩ | ⟨hm,bw,G⟩
   ·rcases cv k hk with h0 | ⟨h1,h2,h3⟩
    ·rw[h0] at hu;cases hu
    ·rw[Z k hk,aw k h1 h3]
     exact Y.nm _ u hu (ay k h2).2.2.2
   ·rw[ag i hm];exact Y.nm i u hu G
 exact hk _ _ ⟨I',ak,C,cf.put hn ((Holds.ren Z cx).1 cc)⟩
theorem zYT {f:FuncId} {xf:Operand} {extra:List AV} {xs:List Operand} {ats:Array TypeId} {args z:List Cap} {T G:List (Nat×Blk)} {keep:List Nat} (σ:List (Nat×Nat)) (hn:d<E.n) (aj:Ren σ)
  (ac:∀A w I ρ C,SatAt E S A w I ρ C->∃H:List Value,A.eval xf= .func (.func f) #[] H.toArray/\Pw (Holds w I ρ) H extra) (D:ArgsAs σ (xs.map S.ev++extra) args) (ab:args.all (Cap.idsLt σ)=true) (ai:z.all (Cap.idsLt σ)=true) (hT:BlksAs S σ T) (aa:zBI σ T=true) (Y:zBI σ G=true)
  (ad:zOA S σ T) (ah:∀k,xS σ k=true->E.nm (look 0 σ k)=none\/(keep.contains k=true/\look Blk.none T k≠ .none/\look Blk.none G k≠ .none)) (hc:GC P f args T keep z G) (hE:E.wrB=true) (hG:E.gdt=zAU P:=by rfl):
  jA P r E ⟨some d,.call {callee:= .value xf,args:=xs.toArray,argTypes:=ats},ty,pos,af,g⟩ S
   (((S.killL (zH8 σ keep G)).setL (renL σ G++zL9 σ T G)).put d ((zMZ z).ren σ)):=zU0 σ hn aj ac D ab (by
  match z,ai with
  | [],_=>rfl
  | [x],hl=>
   have hx:x.idsLt σ =true:=by simpa using hl
   cases x<;>exact hx
  | x::y::zs,hl=>exact hl) hT aa Y ad ah ⟨hc.1,λw I ρ vs K O h3 h4=>(hc.2 w I ρ vs K O h3 h4).mono (by
   rintro e w' ⟨v,I',ak,rfl,a1,a2,a3,a4,a5,Z,a6,a7⟩
   refine⟨v,I',ak,rfl,a1,a2,a3,a4,a5,?_,a6,a7⟩
   match z,Z with
   | [],⟨ys,K,O⟩=>exact⟨ys,K,O⟩
   | [x],h=>exact Cap.holds h
   | x::y::zs,⟨ys,K,O⟩=>exact⟨ys,K,O⟩)⟩ hE hG
theorem z2M {f:FuncId} {xs:List Operand} {ats:Array TypeId} {args h:List Cap} {T D:List (Nat×Blk)} {keep:List Nat} (σ:List (Nat×Nat)) (hn:d<E.n) (aa:Ren σ)
  (z:ArgsAs σ (xs.map S.ev) args) (K:args.all (Cap.idsLt σ)=true) (Z:h.all (Cap.idsLt σ)=true) (hT:BlksAs S σ T) (H:zBI σ T=true) (G:zBI σ D=true)
  (O:zOA S σ T) (Y:∀k,xS σ k=true->E.nm (look 0 σ k)=none\/(keep.contains k=true/\look Blk.none T k≠ .none/\look Blk.none D k≠ .none)) (hc:GC P f args T keep h D) (hE:E.wrB=true) (hG:E.gdt=zAU P:=by rfl):
  jA P r E ⟨some d,.call {callee:= .value (.func f),args:=xs.toArray,argTypes:=ats},ty,pos,af,g⟩ S
   (((S.killL (zH8 σ keep D)).setL (renL σ D++zL9 σ T D)).put d ((zMZ h).ren σ)):=
 zYT σ hn aa (extra:=[]) (λA w I ρ C _=>⟨[],by simp[Act.eval],Pw.nil⟩) (by rw[ez];exact z) K Z hT H G O Y hc hE hG
theorem zYU {f:FuncId} {xf:Operand} {cs:List Cap} {xs:List Operand} {ats:Array TypeId} {args z:List Cap} {T G:List (Nat×Blk)} {keep:List Nat} (σ:List (Nat×Nat)) (hn:d<E.n) (ad:Ren σ) (ac:S.ev xf= .clo f cs)
  (D:ArgsAs σ (xs.map S.ev++cs.map Cap.av) args) (O:args.all (Cap.idsLt σ)=true) (ab:z.all (Cap.idsLt σ)=true) (hT:BlksAs S σ T) (K:zBI σ T=true) (H:zBI σ G=true)
  (Z:zOA S σ T) (aa:∀k,xS σ k=true->E.nm (look 0 σ k)=none\/(keep.contains k=true/\look Blk.none T k≠ .none/\look Blk.none G k≠ .none)) (Y:GC P f args T keep z G) (hE:E.wrB=true) (hG:E.gdt=zAU P:=by rfl):
  jA P r E ⟨some d,.call {callee:= .value xf,args:=xs.toArray,argTypes:=ats},ty,pos,af,g⟩ S
   (((S.killL (zH8 σ keep G)).setL (renL σ G++zL9 σ T G)).put d ((zMZ z).ren σ)):=
 zYT σ hn ad (extra:=cs.map Cap.av) (λA w I ρ C hs=>by
  have h:=hs.ev xf;rw[ac] at h;obtain⟨ys,h1,h2⟩:=h;refine⟨ys,h1,by simpa using h2.1,λj x y hx hy=>?_⟩;rw[dX] at hy;obtain⟨c,Y,rfl⟩:=e9.1 hy;exact Cap.holds (h2.2 j x c hx Y)) D O ab hT K H Z aa Y hE hG
end
open Go.RowKit Go.M
def outK (E:Env) (e:Exit) (S2:AState):Exit->AState->Prop:=λh S'=>h=e/\zES E S' S2
def yHN {X Y:Type} (E:Env) (T:X->AState) (y:Y) (K:Exit->AState->Prop):Stp X Y->Exit->AState->Prop
 | .next x',.normal,S=>zES E S (T x')
 | .next _,_,_=>False
 | .done _,.normal,_=>False
 | .done h,e,S=>h=y->K e S
section
variable {P:Program} {r:Option Nat} {E:Env} {S S2:AState} {K:Exit->AState->Prop}
theorem z06 {e:Exit} (h:zES E S S2):outK E e S2 e S:=⟨rfl,h⟩
theorem zSG {c:Code} {e:Exit} (z:Avc P r E c (outK E e S2) S) (D:K e S2):Avc P r E c K S:=λa w H=>
 gR (z a w H) λT k w' ⟨S',G,h⟩=>by
  obtain⟨rfl,O⟩:=G;exact⟨S2,D,O k w' h⟩
theorem zI {c:Code} {X Y:Type} {body:X->Option (Stp X Y)} {x0:X} {y:Y} (T:X->AState) (h:zB body x0=some y) (D:zES E S (T x0))
  (round:∀x s,body x=some s->Avc P r E c (yHN E T y K s) (T x)):Avc P r E (.loop c) K S:=by
 obtain⟨n,G⟩:=zI9.1 h;refine z7K (ι:=Nat×X) (λq=>T q.2) (λq=>iter body q.1 q.2=some y) (λq=>q.1) (n,x0) G D ?_
 rintro⟨m,x⟩ k
 cases m with
 | zero=>cases k
 | succ m=>
  simp only[iter] at k;cases hb:body x with
  | none=>rw[hb] at k;cases k
  | some s=>
   rw[hb] at k;refine zX0 (round x s hb) λe S' z=>?_;cases s with
   | next x'=>
    cases e with
    | normal=>exact⟨(m,x'),k,Nat.lt_succ_self m,z⟩
    | _=>exact z.elim
   | done O=>
    have H:O=y:=by simpa using k
    cases e with
    | normal=>exact z.elim
    | _=>exact z H
end
def ds (s:Str):DV:= .v (.string ⟨s.toArray⟩)
structure En (α:Type) where
 dv: α->DV
 size:Nat
 ok:∀x,okDV size (dv x)=true
def En.cells {h:Type} (e:En h) (x: h):List DV:=w8 (e.dv x)
theorem z7Z {size:Nat} {d:DV} (h:okDV size d=true):(w8 d).length=size:=by cases d<;>simp_all [okDV,w8]
theorem En.len {h:Type} (e:En h) (x: h):(e.cells x).length=e.size:=z7Z (e.ok x)
def eI:En Int:=⟨di,1,λ_=>rfl⟩
def e8:En Int:=⟨dby,1,λ_=>rfl⟩
def eB:En Bool:=⟨db,1,λ_=>rfl⟩
def eS:En Str:=⟨ds,1,λ_=>rfl⟩
def En.all {h:Type} (e:En h) (l:List h):List DV:=l.flatMap e.cells
def zN {h:Type} (e:En h) (l:List h):DV:= .sl e.size (e.all l)
def eL {h:Type} (e:En h):En (List h):=⟨zN e,1,λ_=>rfl⟩
section
variable {α:Type} (e:En α)
theorem kZ (l:List α):(e.all l).length=l.length*e.size:=by
 induction l with
 | nil=>simp[En.all]
 | cons x l h=>simp only[En.all,ek,cZ,dP] at h ⊢;rw[h,e.len,eG];omega
theorem zJA (l m:List α):e.all (l++m)=e.all l++e.all m:=by simp[En.all]
theorem zD1 (l:List α) (k:Nat):(e.all l).drop (k*e.size)=e.all (l.drop k):=by
 induction k generalizing l with
 | zero=>simp
 | succ k h=>
  cases l with
  | nil=>simp[En.all]
  | cons x l=>
   rw[List.drop_succ_cons,<-h l];show (e.cells x++e.all l).drop ((k+1)*e.size)=_;have:(k+1)*e.size=(e.cells x).length+k*e.size:=by rw[e.len,eG];omega
   rw[this,List.drop_length_add_append]
theorem zBR (l:List α) (k:Nat):(e.all l).take (k*e.size)=e.all (l.take k):=by
 induction k generalizing l with
 | zero=>simp[En.all]
 | succ k h=>
  cases l with
  | nil=>simp[En.all]
  | cons x l=>
   rw[List.take_succ_cons];show (e.cells x++e.all l).take ((k+1)*e.size)=e.cells x++e.all (l.take k);have:(k+1)*e.size=(e.cells x).length+k*e.size:=by rw[e.len,eG];omega
   rw[this,List.take_length_add_append,h]
theorem zRC {l:List α} {k:Nat} {x: α} (h:l[k]? =some x) (off:Nat) (G:off<e.size):(e.all l)[k*e.size+off]? =(e.cells x)[off]?:=by
 have D:(e.all l)[k*e.size+off]? =((e.all l).drop (k*e.size))[off]?:=by rw[eO]
 rw[D,zD1];obtain⟨z,H⟩:=c9.1 h;rw[dA z,H];show (e.cells x++e.all (l.drop (k+1)))[off]? =_;rw[d5 (by rw[e.len];exact G)]
theorem zWB {l:List α} {k:Nat} {x: α} (h:l[k]? =some x) (off n:Nat) (G:off+n<=e.size):((e.all l).drop (k*e.size+off)).take n=((e.cells x).drop off).take n:=by rw[<-List.drop_drop,zD1];obtain⟨z,D⟩:=c9.1 h;rw[dA z,D];show ((e.cells x++e.all (l.drop (k+1))).drop off).take n=_;rw[List.drop_append_of_le_length (by rw[e.len];omega),List.take_append_of_le_length (by simp only[eM,e.len];omega)]
theorem yC0 {l:List α} {k:Nat} {x: α} (h:l[k]? =some x) {y: α} {off:Nat} {d:DV} (D:off<e.size) (G:(e.cells x).set off d=e.cells y):(e.all l).set (k*e.size+off) d=e.all (l.set k y):=by
 induction l generalizing k with
 | nil=>simp at h
 | cons z l H=>
  cases k with
  | zero=>
   simp at h;subst h;show (e.cells z++e.all l).set (0*e.size+off) d=e.cells y++e.all l;rw[gz,eD,List.set_append_left _ _ (by rw[e.len];exact D),G]
  | succ k=>
   simp at h;show (e.cells z++e.all l).set ((k+1)*e.size+off) d=e.cells z++e.all (l.set k y);rw[<-H h];have:(k+1)*e.size+off=(e.cells z).length+(k*e.size+off):=by rw[e.len,eG];omega
   rw[this,List.set_append_right _ _ (by omega)];simp
end
theorem vM {k:Type} {l:List k} {i:Int} {v: k} (h:zV l i=some v):0<=i/\i=(i.toNat:Int)/\i.toNat<l.length/\l[i.toNat]? =some v:=by unfold zV at h;split at h;rename_i hi;exact⟨hi,by omega,(c9.1 h).1,h⟩;cases h
theorem zM0 (s:Str):(⟨s.toArray⟩:ByteArray).toList=s:=by rw[ByteArray.toList_eq]
open Go.RowKit Go.M
section
variable {P:Program} {r:Option Nat} {E:Env} {S:AState} {d:Nat} {ty:TypeId} {pos:String} {af:Array Edge} {g:Option (Nat×Bool)}
section ints
variable {k:IntKind} {x y:Operand} {a b:Int} {tx tz:TypeId} (hn:d<E.n) (hx:S.ev x= .d (.v (.int k a))) (hy:S.ev y= .d (.v (.int k b)))
include hn hx hy
theorem zYV:AOp P r E S ⟨some d,.binOp .add tx x y tz,ty,pos,af,g⟩ d (.d (.v (.int k (k.wrap (a+b))))):=
 ⟨rfl,hn,λS' h=>k9 rfl hn (by simp) λA w I ρ C z=>by
  simp only[execOp,z.val ((h.ev (by simp[Op.operands])).trans hx),z.val ((h.ev (by simp[Op.operands])).trans hy)];simp[binOp,eqGuard,Op.intArith]⟩
theorem zYW:AOp P r E S ⟨some d,.binOp .sub tx x y tz,ty,pos,af,g⟩ d (.d (.v (.int k (k.wrap (a-b))))):=
 ⟨rfl,hn,λS' h=>k9 rfl hn (by simp) λA w I ρ C z=>by
  simp only[execOp,z.val ((h.ev (by simp[Op.operands])).trans hx),z.val ((h.ev (by simp[Op.operands])).trans hy)];simp[binOp,eqGuard,Op.intArith]⟩
theorem z70:AOp P r E S ⟨some d,.binOp .mul tx x y tz,ty,pos,af,g⟩ d (.d (.v (.int k (k.wrap (a*b))))):=
 ⟨rfl,hn,λS' h=>k9 rfl hn (by simp) λA w I ρ C z=>by
  simp only[execOp,z.val ((h.ev (by simp[Op.operands])).trans hx),z.val ((h.ev (by simp[Op.operands])).trans hy)];simp[binOp,eqGuard,Op.intArith]⟩
theorem z2N {c:Int} (z:zKP k.wrap a b=some c):AOp P r E S ⟨some d,.binOp .quo tx x y tz,ty,pos,af,g⟩ d (.d (.v (.int k c))):=
 ⟨rfl,hn,λS' h=>k9 rfl hn (by simp) λA w I ρ C D=>by
  unfold zKP at z;split at z;cases z;rename_i hb;cases z;simp only[execOp,D.val ((h.ev (by simp[Op.operands])).trans hx),D.val ((h.ev (by simp[Op.operands])).trans hy)];simp[binOp,eqGuard,Op.intDiv,hb]⟩
theorem yF6 {c:Int} (z:zHC a b=some c):AOp P r E S ⟨some d,.binOp .rem tx x y tz,ty,pos,af,g⟩ d (.d (.v (.int k c))):=
 ⟨rfl,hn,λS' h=>k9 rfl hn (by simp) λA w I ρ C D=>by
  unfold zHC at z;split at z;cases z;rename_i hb;cases z;simp only[execOp,D.val ((h.ev (by simp[Op.operands])).trans hx),D.val ((h.ev (by simp[Op.operands])).trans hy)];simp[binOp,eqGuard,Op.intDiv,hb]⟩
end ints
theorem yHO {k h:IntKind} {x:Operand} {a:Int} {z td:TypeId} {ds:TypeDesc} (G:d<E.n) (H:P.underlying z=some ds) (D:P.underlying td=some (.int h)) (K:S.ev x= .d (.v (.int k a))):
  AOp P r E S ⟨some d,.convert z td x,ty,pos,af,g⟩ d (.d (.v (.int h (h.wrap a)))):=z0X G H D K
section strs
variable {x y:Operand} {a b:Str} {tx tz:TypeId} (hn:d<E.n) (hx:S.ev x= .d (ds a)) (hy:S.ev y= .d (ds b))
include hn hx hy
theorem z71:AOp P r E S ⟨some d,.binOp .eql tx x y tz,ty,pos,af,g⟩ d (.d (.v (.bool (a==b)))):=by
 have:=yHF (P:=P) (r:=r) (ty:=ty) (pos:=pos) (af:=af) (g:=g) (tx:=tx) (tz:=tz) hn hx hy
 rwa [zM0,zM0] at this
theorem z72:AOp P r E S ⟨some d,.binOp .neq tx x y tz,ty,pos,af,g⟩ d (.d (.v (.bool (!(a==b))))):=by
 have:=yHG (P:=P) (r:=r) (ty:=ty) (pos:=pos) (af:=af) (g:=g) (tx:=tx) (tz:=tz) hn hx hy
 rwa [zM0,zM0] at this
theorem yHP:AOp P r E S ⟨some d,.binOp .lss tx x y tz,ty,pos,af,g⟩ d (.d (.v (.bool (Op.bytesLess a b)))):=by
 have:=yHH (P:=P) (r:=r) (ty:=ty) (pos:=pos) (af:=af) (g:=g) (tx:=tx) (tz:=tz) hn hx hy
 rwa [zM0,zM0] at this
theorem yHQ:AOp P r E S ⟨some d,.binOp .gtr tx x y tz,ty,pos,af,g⟩ d (.d (.v (.bool (!Op.bytesLess a b&& !(a==b))))):=
 ⟨rfl,hn,λS' h=>k9 rfl hn (by simp) λA w I ρ C k=>by
  have z:A.eval x= .string ⟨a.toArray⟩:=k.val ((h.ev (by simp[Op.operands])).trans hx);have D:A.eval y= .string ⟨b.toArray⟩:=k.val ((h.ev (by simp[Op.operands])).trans hy);simp only[execOp,z,D];simp[binOp,eqGuard,Op.stringOp,zM0]⟩
end strs
theorem zSH {t:TypeId} {x:Operand} {s:Str} (h:d<E.n) (k:P.underlying t=some .string) (z:S.ev x= .d (ds s)):
  AOp P r E S ⟨some d,.call {callee:= .builtin .len,args:= #[x],argTypes:= #[t]},ty,pos,af,g⟩ d (.d (.v (.int .i64 s.length))):=by
 have:=z4W (P:=P) (r:=r) (ty:=ty) (pos:=pos) (af:=af) (g:=g) h k z;have e:(⟨s.toArray⟩:ByteArray).size=s.length:=by simp[ByteArray.size]
 rwa [e] at this
theorem zSI {t:TypeId} {x k:Operand} {s:Str} {Y:IntKind} {i c:Int} (K:d<E.n) (O:P.underlying t=some .string) (T:S.ev x= .d (ds s)) (hi:S.ev k= .d (.v (.int Y i))) (h:zYO s i=some c):
  AOp P r E S ⟨some d,.index t x k,ty,pos,af,g⟩ d (.d (.v (.int .u8 c))):=by
 unfold zYO at h;cases hb:zV s i with
 | none=>rw[hb] at h;cases h
 | some b=>
  rw[hb] at h;cases h;obtain⟨Z,D,G,H⟩:=vM hb;have e:(⟨s.toArray⟩:ByteArray).size=s.length:=by simp[ByteArray.size]
  have:=z7R (P:=P) (r:=r) (ty:=ty) (pos:=pos) (af:=af) (g:=g) K O T hi D (by rw[e];exact G)
  have z:(s.toArray.toList.getD i.toNat 0)=b:=by simp[fG,H]
  simp only[z] at this;exact this
section sl
variable {α:Type} {en:En α} {t e bytes:Nat} {z:Value} {l:List α} {x:Operand}
theorem zU1 (k:d<E.n) (h:SlTy P t e en.size bytes z) (D:S.ev x= .d (zN en l)):
  AOp P r E S ⟨some d,.call {callee:= .builtin .len,args:= #[x],argTypes:= #[t]},ty,pos,af,g⟩ d (.d (.v (.int .i64 l.length))):=
 yCS k h D (kZ en l)
theorem yHR {id:Nat} {G:Bool} (k:d<E.n) (h:SlTy P t e en.size bytes z) (D:S.ev x= .row id) (hb:S.blk id= .row e en.size G (en.all l)):
  AOp P r E S ⟨some d,.call {callee:= .builtin .len,args:= #[x],argTypes:= #[t]},ty,pos,af,g⟩ d (.d (.v (.int .i64 l.length))):=
 z4V k h D hb (kZ en l)
theorem zCO {k:Operand} {K:IntKind} {i:Int} {v: α} (G:d<E.n) (D:SlTy P t e en.size bytes z) (H:S.ev x= .d (zN en l)) (hi:S.ev k= .d (.v (.int K i))) (h:zV l i=some v):
  AOp P r E S ⟨some d,.indexAddr t x k,ty,pos,af,g⟩ d (.ip (en.all l) (i.toNat*en.size)):=
 z4X G D H hi (vM h).2.1 (kZ en l) (vM h).2.2.1
theorem zGP {id:Nat} {O:Bool} {k:Operand} {K:IntKind} {i:Int} {v: α} (G:d<E.n) (D:SlTy P t e en.size bytes z) (H:S.ev x= .row id) (hb:S.blk id= .row e en.size O (en.all l)) (hi:S.ev k= .d (.v (.int K i))) (h:zV l i=some v):
  AOp P r E S ⟨some d,.indexAddr t x k,ty,pos,af,g⟩ d (.ptr id (i.toNat*en.size)):=
 zX6 G D H hb hi (vM h).2.1 (kZ en l) (vM h).2.2.1
theorem vJ {tt:TypeId} {i:Int} {v: α} {off:Nat} {y:DV} (D:d<E.n) (k:OneTy P tt) (H:S.ev x= .ip (en.all l) (i.toNat*en.size+off)) (G:zV l i=some v) (h:(en.cells v)[off]? =some y):
  AOp P r E S ⟨some d,.load tt x,ty,pos,af,g⟩ d (.d y):=
 zBY D k H (by rw[zRC en (vM G).2.2.2 off (by rw[<-en.len v];exact(c9.1 h).1)];exact h)
theorem uW {tt:TypeId} {id:Nat} {K:Bool} {i:Int} {v: α} {off:Nat} {y:DV} (D:d<E.n) (k:OneTy P tt) (H:S.ev x= .ptr id (i.toNat*en.size+off)) (hb:S.blk id= .row e en.size K (en.all l)) (G:zV l i=some v) (h:(en.cells v)[off]? =some y):
  AOp P r E S ⟨some d,.load tt x,ty,pos,af,g⟩ d (.d y):=
 z0Y D k H hb (by rw[zRC en (vM G).2.2.2 off (by rw[<-en.len v];exact(c9.1 h).1)];exact h)
theorem wX {tt n:Nat} {i:Int} {v: α} {off:Nat} {es:List DV} (D:d<E.n) (h:AggTy P tt n) (K:S.ev x= .ip (en.all l) (i.toNat*en.size+off)) (H:zV l i=some v) (O:((en.cells v).drop off).take n=es) (k:es.length=n) (G:off+n<=en.size):
  AOp P r E S ⟨some d,.load tt x,ty,pos,af,g⟩ d (.d (.agg es)):=
 zAL D h K (by rw[zWB en (vM H).2.2.2 off n G];exact O) k
theorem w9 {tt n:Nat} {id:Nat} {T:Bool} {i:Int} {v: α} {off:Nat} {es:List DV} (D:d<E.n) (h:AggTy P tt n) (K:S.ev x= .ptr id (i.toNat*en.size+off)) (hb:S.blk id= .row e en.size T (en.all l)) (H:zV l i=some v) (O:((en.cells v).drop off).take n=es) (k:es.length=n) (G:off+n<=en.size):
  AOp P r E S ⟨some d,.load tt x,ty,pos,af,g⟩ d (.d (.agg es)):=
 zX7 D h K hb (by rw[zWB en (vM H).2.2.2 off n G];exact O) k
end sl
theorem z73 {w:World} {I:Im} {ρ:Nat->Value} {v:Value} {cells:List DV} (h:Rep w I v (.pt cells)):Holds w I ρ v (.ip cells 0):=by
 cases h with
 | pt b off xs cells G z k D=>exact⟨b,off,xs,rfl,⟨G,D⟩,k,z⟩
theorem zCP {s k off n:Nat} {t:TypeId} {x:Operand} {cells:List DV} (G:d<E.n) (K:FldTy P s k off n t) (hx:S.ev x= .d (.pt cells)):
  AOp P r E S ⟨some d,.fieldAddr s x k,ty,pos,af,g⟩ d (.ip cells (0+off)):=
 ⟨rfl,G,λS' O=>zQ rfl G (by simp) λA w I ρ C Y=>by
  have h:=Y.ev x;rw[(O.ev (by simp[Op.operands])).trans hx] at h;obtain⟨b,D,xs,Z,T,H,z⟩:=z73 (ρ:=ρ) h;refine⟨.pointer (some ⟨b,D+(0+off),none⟩),?_,b,D,xs,rfl,T,H,z⟩;simp only[execOp,Z,cW,zKO K w b (D+0),gv];rfl⟩
theorem zKR {t n:Nat} {x:Operand} {cells:List DV} (D:d<E.n) (H:AggTy P t n) (hx:S.ev x= .d (.pt cells)) (T:cells.length=n):
  AOp P r E S ⟨some d,.load t x,ty,pos,af,g⟩ d (.d (.agg cells)):=
 ⟨rfl,D,λS' K=>zQ rfl D (by simp) λA w I ρ C Y=>by
  have h:=Y.ev x;rw[(K.ev (by simp[Op.operands])).trans hx] at h;obtain⟨b,o',xs,Z,z,G,k⟩:=z73 (ρ:=ρ) h;refine⟨.agg xs.toArray,?_,.agg _ _ z.1 G z.2⟩;simp only[execOp,Z,cW,fH];rw[zCE w H b o' xs (by rw[z.1];exact T) (λj v O=>(k j v O).1)]
  rfl⟩
theorem zLS {t:TypeId} {x:Operand} {e:DV} (k:d<E.n) (h:OneTy P t) (z:S.ev x= .d (.pt [e])):
  AOp P r E S ⟨some d,.load t x,ty,pos,af,g⟩ d (.d e):=z41 k h z rfl
theorem SatAt.newPt {A:Act} {w:World} {I:Im} {ρ:Nat->Value} {C:Nat->Prop} (G:SatAt E S A w I ρ C) {e:Nat} {xs:List Value} {cells:List DV} (K:Reps w I xs cells) (Y:∀x∈xs,x.oneCell'=true):
  ∃D:Im,SatAt E S A (w.alloc (.cells xs.toArray e)) D ρ C/\Rep (w.alloc (.cells xs.toArray e)) D (.pointer (some ⟨w.heap.size,0,none⟩)) (.pt cells):=by
 have O:∀b j,I b j->b<w.heap.size:=λb j h=>(G.old b j h).1;have Z:Below w.heap.size w (w.alloc (.cells xs.toArray e)):=⟨rfl,rfl,rfl,by simp,λk hk=>_root_.Go.heap_alloc_old w _ hk⟩
 let D:Im:=λb j=>I b j\/b=w.heap.size
 have z:∀b j,I b j->D b j:=λb j h=> .inl h;have H:=G.grow Z;refine⟨D,H.widen (B:=w.heap.size) z (λb j hi=>?_) (λi b hi hb=>(G.blt i b hi hb).2) (E.size _ _ _ G.frame) (λb hc=>E.csize _ _ _ G.frame b hc),?_⟩
 ·rcases hi with hi | rfl
  ·exact⟨by have:=O b j hi;simp;omega,.inl hi⟩
  ·exact⟨by simp,.inr (dF _)⟩
 ·have T:=K.mono (zDN (.cells xs.toArray e) O) z
  refine .pt _ _ xs cells T.1 (λj x hj=>⟨?_,.inr rfl⟩) Y T.2;rw[eD,e7 _ _ j xs.toArray e (0,0) (g8 w _)];simpa using hj
theorem zSJ {k:TypeId} {x:Operand} {u:DV} {size:Nat} (G:d<E.n) (hx:S.ev x= .d u) (z:okDV size u=true):
  AOp P r E S ⟨some d,.box k x,ty,pos,af,g⟩ d (.d (.pt (w8 u))):=
 ⟨rfl,G,λS' Y=>uE (by simp) λA w I ρ C H=>by
  have h:=H.ev x;rw[(Y.ev (by simp[Op.operands])).trans hx] at h;obtain⟨O,T,_⟩:=Rep.flat h z;obtain⟨K,D,Z⟩:=H.newPt (e:=k) O T;refine⟨.pointer (some ⟨w.heap.size,0,none⟩),_,?_,K,ρ,C,D.put G Z⟩;simp[execOp,Instr.box,newVar,newRow]⟩
structure StTy (P:Program) (t:TypeId) (places:List (Nat×Nat)) (zs:List Value):Prop where
 und:∃fields,P.underlying t=some (.struct fields)/\∀w,(fields.mapM λ(f:Field)=>do pure (f.offset,<-sizeOf f.type)).run P w= .ok places.toArray w
 zero:∀w,(zeroValue t).run P w= .ok (.agg zs.toArray) w
 one:∀x∈zs,x.oneCell'=true
def zMJ (places:List (Nat×Nat)):List DV->List (Nat×DV)->Option (List DV)
 | cells,[]=>some cells
 | cells,(i,v)::rest=>match places[i]? with
  | none=>none
  | some (off,size)=>if okDV size v&&Nat.ble (off+size) cells.length then zMJ places (cells.take off++w8 v++cells.drop (off+size)) rest else none
theorem zOB {w:World} {I:Im} {places:List (Nat×Nat)}:∀(ds:List (Nat×DV)) (vs:List (Nat×Value)) (arr:Array Value) (cells h:List DV),Reps w I arr.toList cells->(∀x∈arr.toList,x.oneCell'=true)->
  Pw (λ(v:Nat×Value) (y:Nat×DV)=>v.1=y.1/\Rep w I v.2 y.2) vs ds->zMJ places cells ds=some h->
  ∃k,Instr.fill (λi=>places[i]?) arr vs=some k/\Reps w I k.toList h/\∀x∈k.toList,x.oneCell'=true:=by
 intro ds
 induction ds with
 | nil=>
  intro vs arr cells h K O G z;have:vs= []:=cS G.1;subst this;simp only[zMJ,fD] at z;subst z;exact⟨arr,rfl,K,O⟩
 | cons p ds ih=>
  intro vs arr cells h K O G z;obtain⟨i,y⟩:=p;cases vs with
  | nil=>have:=G.1;simp at this
  | cons q vs=>
   obtain⟨i',v⟩:=q;obtain⟨hi,hv⟩:=G.2 0 (i',v) (i,y) rfl rfl;simp only at hi hv;subst hi;simp only[zMJ] at z;cases D:places[i']? with
   | none=>simp[D] at z
   | some os=>
    obtain⟨off,size⟩:=os;simp only[D] at z;split at z
    ·rename_i hc
     simp only[dM] at hc;obtain⟨H,ab,ac⟩:=Rep.flat hv hc.1;have ad:off+size<=cells.length:=gX hc.2;have ai:v.cells.size=size:=by rw[<-eK,H.1,ac]
     have Z:arr.toList.length=cells.length:=K.1;have ag:Reps w I (arr.toList.take off++v.cells.toList++arr.toList.drop (off+size)) (cells.take off++w8 y++cells.drop (off+size)):=
      Pw.append (Pw.append (K.take off) H) (K.drop (off+size))
     obtain⟨k,Y,ah,T⟩:=ih vs (arr.toList.take off++v.cells.toList++arr.toList.drop (off+size)).toArray _ h (by simpa using ag) (by
      intro x hx;simp only[eN] at hx;rcases hx with (hx | hx) | hx
      ·exact O x (eF hx)
      ·exact ab x hx
      ·exact O x (eU hx)) ⟨by have:=G.1;simpa using this,λj a b Y hb=>G.2 (j+1) a b (by simpa using Y) (by simpa using hb)⟩ z
     refine⟨k,?_,ah,T⟩;rw[zX3 (off:=off) (size:=size) D ai (by rw[<-eK,Z];exact ad)]
     exact Y
    ·cases z
def dvP (S:AState):List (Nat×Operand)->Option (List (Nat×DV))
 | []=>some []
 | (i,x)::r=>match S.ev x,dvP S r with
  | .d y,some ys=>some ((i,y)::ys)
  | _,_=>none
theorem zIL {A:Act} {w:World} {I:Im} {ρ:Nat->Value} {C:Nat->Prop} (z:SatAt E S A w I ρ C):∀{G:List (Nat×Operand)} {ds:List (Nat×DV)},dvP S G=some ds->
  Pw (λ(v:Nat×Value) (y:Nat×DV)=>v.1=y.1/\Rep w I v.2 y.2) (G.map λp=>(p.1,A.eval p.2)) ds
 | [],ds,h=>by simp[dvP] at h;subst h;exact Pw.nil
 | (i,x)::r,ds,h=>by
  simp only[dvP] at h;split at h
  ·rename_i y ys H k
   cases h;have D:=z.ev x;rw[H] at D;exact Pw.cons ⟨rfl,D⟩ (zIL z k)
  ·cases h
theorem zIM {S':AState} {o:Oper} (z:Agree S S' o):∀{k:List (Nat×Operand)},(∀p∈k,p.2∈o.op.operands)->dvP S' k=dvP S k
 | [],_=>rfl
 | (i,x)::r,h=>by
  simp only[dvP];rw[z.ev (h (i,x) (by simp)),zIM z λp D=>h p (by simp[D])]
theorem zHK {t:TypeId} {places:List (Nat×Nat)} {zs:List Value} {D:List (Nat×Operand)} {ds:List (Nat×DV)} {cells:List DV} (T:d<E.n) (G:StTy P t places zs) (H:dvP S D=some ds) (hf:zMJ places (zs.map DV.v) ds=some cells):
  AOp P r E S ⟨some d,.build t D.toArray,ty,pos,af,g⟩ d (.d (.agg cells)):=
 ⟨rfl,T,λS' ha=>zQ rfl T (by simp) λA w I ρ C hs=>by
  obtain⟨z,hu,K⟩:=G.und;have k:dvP S' D=some ds:=(zIM ha (λp K=>by simp only[Op.operands];simp;exact⟨p.1,K⟩)).trans H
  obtain⟨h,Y,O,Z⟩:=zOB (places:=places) ds (D.map λp=>(p.1,A.eval p.2)) zs.toArray (zs.map DV.v) cells (by simpa using zMV w I zs) (by simpa using G.one) (zIL hs k) hf;refine⟨.agg h,?_,by have:=Rep.agg (w:=w) (I:=I) h.toList cells O.1 Z O.2;rw[Array.toArray_toList] at this;exact this⟩
  have hz:=G.zero w;simp only[execOp,Instr.build,eH,cW,hz,cX,dL hu,K w,Value.cells,eW,Y,dU]⟩
end
open Go.RowKit Go.M
section
variable {P:Program} {r:Option Nat} {E:Env} {S:AState} {d:Nat} {ty:TypeId} {pos:String} {af:Array Edge} {g:Option (Nat×Bool)}
variable {α:Type} {en:En α} {t e bytes:Nat} {z:Value} {l m l':List α} {x s:Operand}
theorem zOC (h:app l m=some l'):l'=l++m/\l.length+m.length<=LIM:=by unfold app at h;split at h;rename_i k;exact⟨(gY h).symm,k⟩;cases h
theorem zU2 (hb:bytes<=32768) (h:l.length+m.length<=LIM):(l.length+m.length)*bytes<=140737488355328:=by have k:(l.length+m.length)*bytes<=4294967296*bytes:=dY _ h;have D:4294967296*bytes<=4294967296*32768:=hQ _ hb;omega
theorem z74 {id:Nat} {h:Bool} {cells:List DV} (hb:S.blk id= .row e en.size h cells) (news:List DV):(S.kill id).app id news=(S.kill id).setBlk id (.row e en.size h (cells++news)):=by unfold AState.app;rw[zGK,hb];rfl
theorem xH {id:Nat} {H:Bool} (Y:d<E.n) (O:SlTy P t e en.size bytes z) (Z:S.ev s= .row id) (hb:S.blk id= .row e en.size H (en.all l)) (hx:S.ev x= .d (zN en m)) (T:app l m=some l') (k:0<bytes) (h:bytes<=32768)
  (K:E.wrB=true) (G:E.nm id=none):
  jA P r E ⟨some d,.call {callee:= .builtin .append,args:= #[s,x],argTypes:= #[t,t]},ty,pos,af,g⟩ S (((S.kill id).setBlk id (.row e en.size H (en.all l'))).put d (.row id)):=by
 obtain⟨rfl,D⟩:=zOC T;have:=z0Z (P:=P) (r:=r) (ty:=ty) (pos:=pos) (af:=af) (g:=g) Y O Z hb hx (kZ en l) (kZ en m) k (zU2 h D) K G;rw[z74 hb] at this;rw[zJA];exact this
theorem yHS {n:Int} {zero: α} (hn:d<E.n) (Z:SlTy P t e en.size bytes z) (hx:S.ev x= .d (.v (.int .i64 n))) (hz:z.cells.toList.map DV.v=en.cells zero) (D:mkM zero n=some l) (h:bytes<=32768) (G:E.nm d=none):
  jA P r E ⟨some d,.makeSlice t x x,ty,pos,af,g⟩ S (((S.kill d).setBlk d (.row e en.size false (en.all l))).put d (.row d)):=by
 unfold mkM at D;split at D
 ·rename_i O
  cases D;have H:n=((n.toNat:Nat):Int):=by omega
  have K:n.toNat*bytes<=140737488355328:=by
   have H:n.toNat*bytes<=4294967296*bytes:=dY _ O.2;have K:4294967296*bytes<=4294967296*32768:=hQ _ h;omega
  have:=z4U (P:=P) (r:=r) (ty:=ty) (pos:=pos) (af:=af) (g:=g) hn Z hx H K (by have:=O.2;unfold LIM at this;unfold maxLen;omega) G
  have Y:zLQ z n.toNat=en.all (List.replicate n.toNat zero):=by
   unfold zLQ;rw[hz]
   induction n.toNat with
   | zero=>rfl
   | succ k T=>simp only[List.replicate_succ,gJ,En.all,ek] at T ⊢;rw[T]
  rw[Y] at this;exact this
 ·cases D
theorem zLT {i:Int} {v: α} (h:uV l i v=some l'):l'=l.set i.toNat v/\0<=i/\i.toNat<l.length:=by unfold uV at h;split at h;rename_i k;exact⟨(gY h).symm,k⟩;cases h
theorem zB3 {tt:TypeId} {y:Operand} {id off:Nat} {i:Int} {v k: α} {u:DV} (H:OneTy P tt) (Z:S.ev x= .ptr id (i.toNat*en.size+off)) (hb:S.blk id= .row e en.size false (en.all l)) (hy:S.ev y= .d u) (Y:zV l i=some v)
  (T:(en.cells v).set off u=en.cells k) (K:off<en.size) (O:uV l i k=some l') (D:(AV.d u).one=true) (G:E.wrB=true):
  jA P r E ⟨none,.store tt x y,ty,pos,af,g⟩ S (S.setBlk id (.row e en.size false (en.all l'))):=by
 obtain⟨rfl,h0,h⟩:=zLT O;rw[<-yC0 en (vM Y).2.2.2 K T];refine zR4 H Z hb ?_ hy D G;rw[kZ];have:(i.toNat+1)*en.size<=l.length*en.size:=dY _ h;rw[eG] at this;omega
theorem zAX {lo hi:Int} (h:slc l lo hi=some l'):l'=(l.take hi.toNat).drop lo.toNat/\0<=lo/\lo<=hi/\hi.toNat<=l.length:=by unfold slc at h;split at h;rename_i k;exact⟨(gY h).symm,k⟩;cases h
theorem zRD {lo hi:Operand} {G H:IntKind} {a b:Int} (T:d<E.n) (O:SlTy P t e en.size bytes z) (Y:S.ev x= .d (zN en l)) (D:S.ev lo= .d (.v (.int G a))) (k:S.ev hi= .d (.v (.int H b))) (h:slc l a b=some l'):
  AOp P r E S ⟨some d,.slice t x (some lo) (some hi) none,ty,pos,af,g⟩ d (.d (zN en l')):=by
 obtain⟨rfl,Z,h2,K⟩:=zAX h;exact zPI T O Y (kZ en l) (l:=a.toNat) (h:=b.toNat) ⟨⟨G,a,D,by omega⟩,⟨H,b,k,by omega⟩,by omega,K⟩ (by rw[zBR,zD1])
theorem zOD {lo:Operand} {D:IntKind} {a:Int} (H:d<E.n) (G:SlTy P t e en.size bytes z) (K:S.ev x= .d (zN en l)) (k:S.ev lo= .d (.v (.int D a))) (h:slc l a l.length=some l'):
  AOp P r E S ⟨some d,.slice t x (some lo) none none,ty,pos,af,g⟩ d (.d (zN en l')):=by
 obtain⟨rfl,O,T,Y⟩:=zAX h;exact zPI H G K (kZ en l) (l:=a.toNat) (h:=l.length) ⟨⟨D,a,k,by omega⟩,rfl,by omega,by omega⟩ (by rw[zBR,zD1];simp)
theorem zYX {hi:Operand} {D:IntKind} {b:Int} (K:d<E.n) (H:SlTy P t e en.size bytes z) (O:S.ev x= .d (zN en l)) (k:S.ev hi= .d (.v (.int D b))) (h:slc l 0 b=some l'):
  AOp P r E S ⟨some d,.slice t x none (some hi) none,ty,pos,af,g⟩ d (.d (zN en l')):=by
 obtain⟨rfl,T,Y,G⟩:=zAX h;exact zPI K H O (kZ en l) (l:=0) (h:=b.toNat) ⟨rfl,⟨D,b,k,by omega⟩,by omega,G⟩ (by rw[zBR];simp)
def findAt {h:Type} [DecidableEq h] (a: h):List h->List MapEntry->Nat->Option (Nat×Value)
 | k::D,x::es,i=>if a=k then some (i,x.val) else findAt a D es (i+1)
 | _,_,_=>none
structure KeyTy {κ:Type} [DecidableEq κ] (P:Program) (kt:TypeId) (kv: κ->Value):Prop where
 same:∀a,Instr.sameBits 10000 (kv a) (kv a)=true
 check:∀a b w,(Instr.checkKey b 10000 kt (kv a)).run P w= .ok () w
 find:∀a (ks:List κ) (es:List MapEntry) w,Pw (λ(x:MapEntry) k=>x.key=kv k) es ks->(Instr.findKey kt (kv a) es).run P w= .ok (findAt a ks es 0) w
theorem zF7 {α k:Type} {R: α->k->Prop} {x: α} {y: k} {xs:List α} {ys:List k} (h:Pw R (x::xs) (y::ys)):R x y/\Pw R xs ys:=
 ⟨h.2 0 x y rfl rfl,by have:=h.1;simpa using this,λj a b D hb=>h.2 (j+1) a b (by simpa using D) (by simpa using hb)⟩
theorem zKS {G:Type} [DecidableEq G] {kv: G->Value} {td:TypeDesc} (H:∀a b,Instr.sameNow td (kv a) (kv b)=some (decide (a=b))) (a: G):∀(es:List MapEntry) (D:List G) (i:Nat),Pw (λ(x:MapEntry) k=>x.key=kv k) es D->
  Instr.findNow td (kv a) es i=some (findAt a D es i)
 | [],D,i,h=>by
  cases D with
  | nil=>rfl
  | cons k D=>have:=h.1;simp at this
 | x::es,D,i,h=>by
  cases D with
  | nil=>have:=h.1;simp at this
  | cons k D=>
   obtain⟨K,O⟩:=zF7 h;simp only[Instr.findNow,K,H,findAt];by_cases e:a=k
   ·simp[e]
   ·simp only[e,dI,cY]
    exact zKS H a es D (i+1) O
def kI (n:Int):Value:= .int .i64 n
def kS (s:Str):Value:= .string ⟨s.toArray⟩
theorem z49 {h:TypeId} (k:P.underlying h=some (.int .i64)) (n:Nat) (a:Int) (b:Bool) (w:World):(Instr.checkKey b (n+1) h (kI a)).run P w= .ok () w:=by simp only[kI,Instr.checkKey,cW,dL k,cX];rfl
theorem z5A {h:TypeId} (k:P.underlying h=some .string) (n:Nat) (a:Str) (b:Bool) (w:World):(Instr.checkKey b (n+1) h (kS a)).run P w= .ok () w:=by simp only[kS,Instr.checkKey,cW,dL k,cX];rfl
theorem yHT {D:TypeId} (k:P.underlying D=some (.int .i64)):KeyTy P D kI where
 same:=λa=>by simp[kI,Instr.sameBits]
 check:=λa b w=>z49 k 9999 a b w
 find:=λa G es w h=>by
  have:=zKS (kv:=kI) (td:= .int .i64) (λa b=>by simp only[kI,Instr.sameNow,dH];rfl) a es G 0 h
  simp only[Instr.findKey,cW,dL k,cX];rw[this];rfl
theorem zSK (a b:Str):((⟨a.toArray⟩:ByteArray)==⟨b.toArray⟩)=decide (a=b):=by show (a.toArray==b.toArray)=_;rw[gD];simp
theorem yHU {D:TypeId} (k:P.underlying D=some .string):KeyTy P D kS where
 same:=λa=>by simp only[kS,Instr.sameBits,zSK];simp
 check:=λa b w=>z5A k 9999 a b w
 find:=λa G es w h=>by
  have:=zKS (kv:=kS) (td:= .string) (λa b=>by simp only[kS,Instr.sameNow,zSK]) a es G 0 h;simp only[Instr.findKey,cW,dL k,cX];rw[this];rfl
theorem zYY {w:World} {I:Im} (vs:List Value) (h:vs.all Value.oneCell'=true):Rep w I (.agg vs.toArray) (.agg (vs.map DV.v)):=
 .agg vs _ (by simp) (λx k=>eC.1 h x k) (zMV w I vs).2
def xO {h k:Type} (kv: h->Value) (ev:En k) (m:List (h×k)):List (Value×DV):=m.map λp=>(kv p.1,ev.dv p.2)
structure MapTy (P:Program) (t kt vt:TypeId) (zv:Value):Prop where
 und:P.underlying t=some (.map kt vt)
 zero:∀w,(zeroValue vt).run P w= .ok zv w
section
variable {κ ν:Type} [DecidableEq κ] {kv: κ->Value} {ev:En ν} {mp:List (κ×ν)} {k: κ} {kt vt:TypeId} {zv:Value} {zero: ν} {km kk:Operand} {id:Nat}
theorem zGQ {w:World} {I:Im} {a: κ}:∀{m:List (κ×ν)} {es:List MapEntry} {i:Nat},Pw (λ(x:MapEntry) (y:Value×DV)=>x.key=y.1/\Rep w I x.val y.2) es (xO kv ev m)->
  (mget m a=none/\findAt a (m.map Prod.fst) es i=none)\/∃v j x,mget m a=some v/\findAt a (m.map Prod.fst) es i=some (i+j,x)/\Rep w I x (ev.dv v)/\(∃y,es[j]? =some y/\y.key=kv a/\y.val=x)/\
   ∀(u:Value) (D: ν) (f:MapEntry->MapEntry),(∀y,(f y).key=y.key\/(f y).key=kv a)->(∀y,(f y).val=u)->Rep w I u (ev.dv D)->Pw (λ(x:MapEntry) (y:Value×DV)=>x.key=y.1/\Rep w I x.val y.2) (es.modify j f) (xO kv ev (xY m a D))
 | [],es,i,h=>by left;exact⟨rfl,by cases es<;>rfl⟩
 | (k',D)::m,[],i,h=>by have:=h.1;simp[xO] at this
 | (k',D)::m,x::es,i,h=>by
  obtain⟨H,Z⟩:=zF7 h;simp only[ey,findAt,mget,xY];by_cases e:a=k'
  ·subst e
   right;refine⟨D,0,x.val,by simp,by simp,H.2,⟨x,rfl,H.1,rfl⟩,λu G f hk Y T=>?_⟩;simp only[dH,List.modify_zero_cons];refine Pw.cons ⟨?_,by rw[Y];exact T⟩ Z
   rcases hk x with hk | hk
   ·rw[hk];exact H.1
   ·exact hk
  ·simp only[e,cY]
   rcases zGQ (a:=a) (m:=m) (es:=es) (i:=i+1) Z with ⟨K,O⟩ | ⟨v,j,y,K,O,e3,⟨q,q1,q2,q3⟩,e4⟩
   ·left;exact⟨K,O⟩
   ·right
    refine⟨v,j+1,y,K,by rw[O];congr 2;omega,e3,⟨q,by simpa using q1,q2,q3⟩,λu G f hk Y T=>?_⟩
    simp only[List.modify_succ_cons];exact Pw.cons H (e4 u G f hk Y T)
theorem zSL {m:List (κ×ν)} {a: κ} (h:mget m a=none) (v: ν):xY m a v=m++ [(a,v)]:=by
 induction m with
 | nil=>rfl
 | cons p m D=>
  obtain⟨G,H⟩:=p;simp only[mget,xY] at h ⊢;split at h;cases h;rename_i e;simp only[e,cY,D h,fR]
omit [DecidableEq κ] in
theorem zRE {w:World} {I:Im} {m:List (κ×ν)} {es:List MapEntry} (h:Pw (λ(x:MapEntry) (y:Value×DV)=>x.key=y.1/\Rep w I x.val y.2) es (xO kv ev m)):Pw (λ(x:MapEntry) k=>x.key=kv k) es (m.map Prod.fst):=by
 refine⟨by rw[h.1];simp[xO],λj x k H D=>?_⟩
 rw[dX] at D;cases G:m[j]? with
 | none=>simp[G] at D
 | some p=>
  simp[G] at D;subst D;exact(h.2 j x (kv p.1,ev.dv p.2) H (by simp[xO,G])).1
theorem zGR {w:World} {I:Im} {b h:Nat} {ents:Array MapEntry} (T:MapTy P t kt vt zv) (O:KeyTy P kt kv) (hh:w.heap[b]? =some (.map ents h)) (Y:Pw (λ(x:MapEntry) (y:Value×DV)=>x.key=y.1/\Rep w I x.val y.2) ents.toList (xO kv ev mp)) (hz:Rep w I zv (ev.dv zero)) (ok:Bool):
  ∃v,(Instr.lookup t (.map (some b)) (kv k) ok).run P w= .ok (if ok then .tuple #[v,.bool (zBQ mp k)] else v) w/\Rep w I v (ev.dv (mgetD mp k zero)):=by
 have H:=O.find k _ ents.toList w (zRE Y);have D:(getObj b).run P w= .ok (.map ents h) w:=by simp[getObj,Sem.run,hh]
 rcases zGQ (a:=k) (i:=0) Y with ⟨G,K⟩ | ⟨v,j,x,G,K,Z,_,_⟩
 ·rw[K] at H
  refine⟨zv,?_,by simpa[mgetD,G] using hz⟩;simp only[Instr.lookup,cW,dL T.und,cX,D,dU,O.check,H,T.zero,zBQ,G];rfl
 ·rw[K] at H
  refine⟨x,?_,by simpa[mgetD,G] using Z⟩;simp only[Instr.lookup,cW,dL T.und,cX,D,dU,O.check,H,zBQ,G];rfl
theorem z75 (Z:d<E.n) (hT:MapTy P t kt vt zv) (hK:KeyTy P kt kv) (hm:S.ev km= .row id) (hb:S.blk id= .map (xO kv ev mp)) (hk:S.ev kk= .d (.v (kv k))) (hz:∀w I,Rep w I zv (ev.dv zero)):
  AOp P r E S ⟨some d,.lookup t km kk false,ty,pos,af,g⟩ d (.d (ev.dv (mgetD mp k zero))):=
 ⟨rfl,Z,λS' G=>zQ rfl Z (by simp) λA w I ρ C K=>by
  have h:=K.blks id;rw[(G.blk id).trans hb] at h;obtain⟨b,ents,D,Y,_,hh,hp,_⟩:=h;have hv:=K.ev km;rw[(G.ev (by simp[Op.operands])).trans hm] at hv;have O:A.eval km= .map (some b):=Eq.trans hv Y;have H:=K.val ((G.ev (x:=kk) (by simp[Op.operands])).trans hk);have T:=hz w I;obtain⟨v,h1,h2⟩:=zGR (w:=w) (I:=I) hT hK hh hp T false;refine⟨v,?_,h2⟩;simp only[execOp,O,H,cW,h1];rfl⟩
theorem zU3 (Z:d<E.n) (hT:MapTy P t kt vt zv) (hK:KeyTy P kt kv) (hm:S.ev km= .row id) (hb:S.blk id= .map (xO kv ev mp)) (hk:S.ev kk= .d (.v (kv k))) (hz:∀w I,Rep w I zv (ev.dv zero)):
  AOp P r E S ⟨some d,.lookup t km kk true,ty,pos,af,g⟩ d (.tup [ev.dv (mgetD mp k zero),db (zBQ mp k)]):=
 ⟨rfl,Z,λS' G=>zQ rfl Z (by simp) λA w I ρ C K=>by
  have h:=K.blks id;rw[(G.blk id).trans hb] at h;obtain⟨b,ents,D,Y,_,hh,hp,_⟩:=h;have hv:=K.ev km;rw[(G.ev (by simp[Op.operands])).trans hm] at hv;have O:A.eval km= .map (some b):=Eq.trans hv Y;have H:=K.val ((G.ev (x:=kk) (by simp[Op.operands])).trans hk);have T:=hz w I;obtain⟨v,h1,h2⟩:=zGR (w:=w) (I:=I) hT hK hh hp T true;refine⟨.tuple #[v,.bool (zBQ mp k)],?_,[v,.bool (zBQ mp k)],rfl,Pw.cons h2 (Pw.cons (.v _) Pw.nil)⟩;simp only[execOp,O,H,cW,h1];rfl⟩
theorem z5B (O:d<E.n) (D:E.nm d=none):jA P r E ⟨some d,.makeMap t none,ty,pos,af,g⟩ S (((S.kill d).setBlk d (.map [])).put d (.row d)):=
 uE (by simp) λA w I ρ C G=>by
  have H:∀b j,I b j->b<w.heap.size:=λb j h=>(G.old b j h).1;have hb:=G.update (zGM w (.map #[] 0)) (id:=d) (u:= .map (some w.heap.size)) (x:= .map []) (by simp) (zDN _ H) (λb hb=> .inl (by simp[blockOf] at hb;omega))
   ⟨w.heap.size,#[],0,by simp[upd],E.mineB _ (E.size _ _ _ G.frame),g8 w _,Pw.nil,λj K=>by have:=H _ j K;omega,.nil⟩ (.inl rfl) D
  refine⟨.map (some w.heap.size),w.alloc (.map #[] 0),?_,I,_,C,hb.put O (by simp[Holds,upd])⟩;simp only[execOp,Instr.makeMap,gu,cW,run_newObj_alloc,cX,dU]
theorem zDP {w:World} {b D:Nat} {ents:Array MapEntry} {G:Obj} (h:w.heap[b]? =some (.map ents D)):(setObj b G).run P w= .ok () {w with heap:=w.heap.setIfInBounds b G}:=by simp[setObj,Sem.run,h]
theorem zYZ {x:Operand} {v: ν} {u:DV} (hT:MapTy P t kt vt zv) (hK:KeyTy P kt kv) (hm:S.ev km= .row id) (hb:S.blk id= .map (xO kv ev mp)) (hk:S.ev kk= .d (.v (kv k))) (hx:S.ev x= .d u) (hu:u=ev.dv v) (hE:E.wrB=true):
    jA P r E ⟨none,.mapUpdate t km kk x,ty,pos,af,g⟩ S (S.setBlk id (.map (xO kv ev (xY mp k v)))):=
  zER rfl (by simp) λA w I ρ C hs=>by
    subst hu;have aa:=hs.blks id;rw[hb] at aa;obtain⟨b,ents,H,Y,hM,hh,hp,hI,hN⟩:=aa;have hv:=hs.ev km;rw[hm] at hv;have ag:A.eval km= .map (some b):=Eq.trans hv Y;have ac:=hs.val hk;have T:=hs.ev x;rw[hx] at T;have am:=(cU.1 hh).1;have hf:=hK.find k _ ents.toList w (zRE hp);have O:(getObj b).run P w= .ok (.map ents H) w:=by simp[getObj,Sem.run,hh]
    have Z:∀(G:Array MapEntry) (D:Nat),Pw (λ(x:MapEntry) (y:Value×DV)=>x.key=y.1/\Rep w I x.val y.2) G.toList (xO kv ev (xY mp k v))->Born G D->
        Sat E (S.setBlk id (.map (xO kv ev (xY mp k v)))) A {w with heap:=w.heap.setIfInBounds b (.map G D)}:=by
      intro G D ao al;have hg:w.grownBy {w with heap:=w.heap.setIfInBounds b (.map G D)} (some b):=
        ⟨rfl,rfl,rfl,by simp,λq _ hq=>dZ (λe=>hq (by rw[e]))⟩
      have K:Same I w {w with heap:=w.heap.setIfInBounds b (.map G D)}:=λb' j hi=>by
        have:b'≠b:=λe=>hI j (e▸hi);exact KeepB.of (dZ (λe=>this e.symm))
      refine⟨I,ρ,C,hs.modify hg (by rw[hb];simp) (by rw[Y];rfl) K ⟨b,G,D,Y,hM,by simp[am],ao.imp λ_ _ h=>⟨h.1,h.2.mono K (λ_ _ h=>h)⟩,hI,al⟩ hE⟩
    rcases zGQ (a:=k) (i:=0) hp with ⟨e1,e2⟩ | ⟨v0,j,x0,e1,e2,e3,⟨q,q1,q2,q3⟩,e4⟩
    · rw[e2] at hf
      refine⟨_,?_,Z (ents.push {key:=kv k,val:=A.eval x,born:=H}) (H+1) ?_ hN.push⟩
      · simp only[execOp,ag,ac,Instr.mapUpdate,cW,dL hT.und,cX,O,hK.check,hf,zDP hh,dU]
      · rw[zSL e1]
        simp only[xO,gU,ie,ey,fF];exact Pw.append hp (Pw.cons ⟨rfl,T⟩ Pw.nil)
    · rw[e2] at hf
      have hq:ents[0+j]? =some q:=by rw[eD];simpa using q1
      have ab:(Instr.keyThatStays (((ents[0+j]?).map (·.key)).getD (kv k)) (kv k)).run P w= .ok (kv k) w:=by
        rw[hq];simp only[eX,gO,q2,Instr.keyThatStays,hK.same,dH,dU]
      refine⟨_,?_,Z (ents.modify (0+j) λe=>{e with key:=kv k,val:=A.eval x}) H ?_ (hN.modify λ_=>rfl)⟩
      · simp only[execOp,ag,ac,Instr.mapUpdate,cW,dL hT.und,cX,O,hK.check,hf,ab,zDP hh,dU]
      · rw[eD,gK]
        exact e4 (A.eval x) v _ (λ_=> .inr rfl) (λ_=>rfl) T
end
end
open Go.RowKit Go.M
def FnC (P:Program) (c:DV) (ds k:List DV):Prop:=
 (∃f h,c= .fn f h/\zH P f (ds++h) k)\/(∃f,c= .v (.func (.func f) #[] #[])/\zH P f ds k)
section
variable {P:Program} {r:Option Nat} {E:Env} {S:AState} {d:Nat} {ty:TypeId} {pos:String} {af:Array Edge} {g:Option (Nat×Bool)}
theorem zHL {x:Operand} {xs:List Operand} {ats:Array TypeId} {c:DV} {ds rs:List DV} (hn:d<E.n) (hx:S.ev x= .d c) (H:unD (xs.map S.ev)=some ds) (z:FnC P c ds rs) (hG:E.gdt=zAU P:=by rfl):
  AOp P r E S ⟨some d,.call {callee:= .value x,args:=xs.toArray,argTypes:=ats},ty,pos,af,g⟩ d (zR7 rs):=by
 rcases z with ⟨f,am,rfl,z⟩ | ⟨f,rfl,z⟩
 ·exact yCU hn hx H z hG
 ·refine⟨rfl,hn,λS' ha=>?_⟩
  have al:=(ha.ev (x:=x) (by simp[Op.operands,Call.operands])).trans hx;have O:unD (xs.map S'.ev)=some ds:=by
   have:xs.map S'.ev=xs.map S.ev:=fS λy hy=>ha.ev (by simp[Op.operands,Call.operands,hy]);rw[this];exact H
  obtain⟨ad,ag⟩:=zD0 S' O
  rintro A w K Q ⟨I,ρ,C,hs⟩ hk
  obtain⟨⟨fn,hf,G,k⟩,D⟩:=z;obtain⟨I1,h1,h,h3⟩:=SatAt.dvL _ hs (uB hs xs) ad;rw[ag] at h;have hv:=hs.val al;have ac:=D w I1 (xs.map A.eval) (λb j hi=>(h.old b j hi).1) (hG▸h.gl) h3;refine⟨λf _=>trivial,?_⟩;rw[Oper.semAt_eq _ _ _ (by simp)];have Z:(execOp A.eval ⟨some d,.call {callee:= .value x,args:=xs.toArray,argTypes:=ats},ty,pos,af,g⟩).run P w= .ok (.enter f (xs.map A.eval).toArray) w:=by
   simp only[execOp,resolve,hv,Deferred.ofValue];have ai:¬fn.name= "runtime.NumGoroutine" :=by simpa using G
   have aj:¬fn.body=none:=by intro e;simp[e] at k
   simp[invoke,callFunc,hf,ai,aj,eH]
  rw[Z];refine⟨by simp[fen,Fence.wide],?_⟩;show CallsIn Fence.wide 0 P f _ w _;refine gy.2 (ac.mono ?_)
  rintro e w' ⟨v,I',rfl,hb,aa,T,Y⟩
  refine hk _ _ ⟨I',ρ,C,SatAt.put ?_ hn (zHF Y)⟩;have h4:=h.grow hb;exact h4.widen aa T (λi b hi ab=>(h.blt i b hi ab).2) (E.size _ _ _ h.frame) (λb z=>E.csize _ _ _ h.frame b z)
variable {ops:Array Oper} {o:Oper} {rest:List Oper} {J:AState->Prop} {j t:Nat} {want b c:Bool} {x:AV}
theorem jY (h:AOp P r E S o d x) (k:Sq P r E ops rest (S.put d x) J) (z:o.guard=none:=by rfl):Sq P r E ops (o::rest) S J:=yHI (zYA z h) k
theorem daa (h:AOp P r E S o d x) (k:DA P r E ops rest (S.put d x) J) (z:o.guard=none:=by rfl):DA P r E ops (o::rest) S J:=yKU (zYA z h) k
theorem gF {b:Bool} (h:gd false b=true):b=false:=by cases b;rfl;cases h
theorem zSM {t:Nat} {x:DV} (h:S.dv (S.get t).un=some x):RetS P S [.tmp t] [x]:=⟨_,_,rfl,h,rfl⟩
theorem zCQ {a t id e:Nat} {cells:List AV} {ds:List DV} (h:(S.get a).un= .ptr id 0) (k:S.blk id= .box e cells) (z:AggTy P t cells.length) (D:S.dvL cells=some ds):RetS P S [.cell a t] [.agg ds]:=
 ⟨_,_,id,e,cells,rfl,h,k,.inr ⟨ds,z,D,rfl⟩,rfl⟩
end
open Go.RowKit Go.M
abbrev wi (n:Int):Int:=IntKind.i64.wrap n
abbrev wu (n:Int):Int:=IntKind.u64.wrap n
theorem xV {a b:Bool} (h:(a&&b)=true):a=true/\b=true:=by simpa using h
section
variable {P:Program}
theorem zWC {t n:Nat} (h:(P.info? t).map (·.size)=some n) (w:World):(sizeOf t).run P w= .ok n w:=by
 cases hi:P.info? t with
 | none=>simp[hi] at h
 | some i=>simp[hi] at h;simp[sizeOf,typeInfo,hi,h]
theorem zWD {t:Nat} {z:Value} (h:(P.info? t).bind (·.zero)=some z) (w:World):(zeroValue t).run P w= .ok z w:=by
 cases hi:P.info? t with
 | none=>simp[hi] at h
 | some i=>simp[hi] at h;simp[zeroValue,typeInfo,hi,h]
theorem FldTy.of {s k off n:Nat} {t:TypeId} {z:Array Field} (K:P.underlying s=some (.struct z)) (D:(z[k]?).map (λf=>(f.offset,f.type))=some (off,t)) (H:(P.info? t).map (·.size)=some n) (G:0<n):FldTy P s k off n t:=by
 cases h:z[k]? with
 | none=>simp[h] at D
 | some f=>simp[h] at D;exact⟨⟨z,f,K,h,D.1,D.2⟩,zWC H,G⟩
theorem zQF (w:World):∀(k:List Field) (places:List (Nat×Nat)),k.map (λf=>(f.offset,(P.info? f.type).map (·.size)))=places.map (λp=>(p.1,some p.2))->
    (k.mapM λ(f:Field)=>(do pure (f.offset,<-sizeOf f.type):Sem (Nat×Nat))).run P w= .ok places w
  | [],places,h=>by cases places with
    | nil=>simp
    | cons p z=>simp at h
  | f::k,places,h=>by cases places with
    | nil=>simp at h
    | cons p z=>
      simp only[ey,iB,iz] at h;have D:=zWC h.1.2 w;have G:=zQF w k z h.2;simp only[g9,cW,D,cX,dU,G,h.1.1]
theorem StTy.of {t:TypeId} {places:List (Nat×Nat)} {zs:List Value} {h:Array Field} (D:P.underlying t=some (.struct h)) (z:h.toList.map (λf=>(f.offset,(P.info? f.type).map (·.size)))=places.map (λp=>(p.1,some p.2)))
    (H:((P.info? t).bind (·.zero))=some (.agg zs.toArray)) (k:zs.all Value.oneCell'=true):StTy P t places zs:=by
  refine⟨⟨h,D,λw=>?_⟩,zWD H,λx G=>eC.1 k x G⟩;rw[Array.mapM_eq_mapM_toList];simp only[Sem.run_map,zQF w _ _ z,cX]
theorem MapTy.of {t k h:TypeId} {z:Value} (D:P.underlying t=some (.map k h)) (G:(P.info? h).bind (·.zero)=some z):MapTy P t k h z:=⟨D,zWD G⟩
def NilL:List DV->List DV->Prop
 | [],[]=>True
 | a::as,b::bs=>(a=b\/(a= .v (.slice none 0 0)/\∃s,b= .sl s []))/\NilL as bs
 | _,_=>False
theorem zY0 {w:World} {I:Im}:∀{vs:List Value} {as bs:List DV},NilL as bs->Reps w I vs as->Reps w I vs bs
 | vs,[],[],_,h=>h
 | vs,[],b::bs,h,_=>h.elim
 | vs,a::as,[],h,_=>h.elim
 | [],a::as,b::bs,_,k=>by have:=k.1;simp at this
 | v::vs,a::as,b::bs,h,k=>by
  obtain⟨z,D⟩:=zF7 k;refine Pw.cons ?_ (zY0 h.2 D);rcases h.1 with rfl | ⟨rfl,s,rfl⟩;exact z;cases z;exact .nil _ _ _
end
open Go.RowKit Go.M
section
variable {P:Program}
structure EqFld (P:Program) (f:Field):Prop where
 name:f.name≠ "_"
 agg:∀w,(isAgg f.type).run P w= .ok false w
 und:(∃k,P.underlying f.type=some (.int k))\/P.underlying f.type=some .bool\/P.underlying f.type=some .string
theorem run_equalIn_int {t:TypeId} {k h:IntKind} (z:P.underlying t=some (.int k)) (d:Nat) (a b:Int) (w:World):(Op.equalIn (d+1) t (.int h a) (.int h b)).run P w= .ok (decide (a=b)) w:=by rw[Op.equalIn];simp only[cW,dL z,cX,dH,dU];rfl
theorem zPL {t:TypeId} (h:P.underlying t=some .bool) (d:Nat) (a b:Bool) (w:World):(Op.equalIn (d+1) t (.bool a) (.bool b)).run P w= .ok (decide (a=b)) w:=by rw[Op.equalIn];simp only[cW,dL h,cX,dU];cases a<;>cases b<;>rfl
theorem zQU {t:TypeId} (h:P.underlying t=some .string) (d:Nat) (a b:Str) (w:World):(Op.equalIn (d+1) t (.string ⟨a.toArray⟩) (.string ⟨b.toArray⟩)).run P w= .ok (decide (a=b)) w:=by rw[Op.equalIn];simp only[cW,dL h,cX,dU,zSK]
theorem zGS {t:TypeId} {xs:Array Value} {off:Nat} {a:Value} (h:∀w,(isAgg t).run P w= .ok false w) (k:xs[off]? =some a) (w:World):(part t xs off).run P w= .ok a w:=by simp[part,h,k]
theorem zU4 {w:World} {F:Field->Option Bool×PUnit->Sem (ForInStep (Option Bool×PUnit))}:∀(k:List Field) (cs:List Bool),Pw (λ(f:Field) c=> ∀s,(F f s).run P w= .ok (if c then .yield (none,()) else .done (some false,())) w) k cs->
  (forIn k ((none,()):Option Bool×PUnit) F).run P w= .ok (if cs.all id then (none,()) else (some false,())) w
 | [],cs,h=>by cases cs with
  | nil=>simp
  | cons c cs=>have:=h.1;simp at this
 | f::k,cs,h=>by cases cs with
  | nil=>have:=h.1;simp at this
  | cons c cs=>
   obtain⟨z,D⟩:=zF7 h;have G:=zU4 k cs D;rw[List.forIn_cons];simp only[cW,z,cX];cases c with
   | false=>simp
   | true=>simpa using G
def Eqs (P:Program) (d:Nat) (xs ys:Array Value) (w:World) (h:List Field) (cs:List Bool):Prop:=
 Pw (λ(f:Field) c=>f.name≠ "_" /\(∀w,(isAgg f.type).run P w= .ok false w)/\∃a b,xs[f.offset]? =some a/\ys[f.offset]? =some b/\(Op.equalIn d f.type a b).run P w= .ok c w) h cs
theorem zWE {d:Nat} {xs ys:Array Value} {w:World}:Eqs P d xs ys w [] []:=Pw.nil
section
variable {d:Nat} {xs ys:Array Value} {w:World} {f:Field} {fs:List Field} {cs:List Bool} (hn:(f.name== "_")=false) (ho:OneTy P f.type) (hs:Eqs P (d+1) xs ys w fs cs)
include hn ho hs
theorem zLU {k h:IntKind} {a b:Int} (z:P.underlying f.type=some (.int k)) (D:xs[f.offset]? =some (.int h a)) (G:ys[f.offset]? =some (.int h b)):Eqs P (d+1) xs ys w (f::fs) (decide (a=b)::cs):=
 Pw.cons ⟨by simpa using hn,ho.agg,_,_,D,G,run_equalIn_int z d a b w⟩ hs
theorem z76 {a b:Bool} (h:P.underlying f.type=some .bool) (k:xs[f.offset]? =some (.bool a)) (z:ys[f.offset]? =some (.bool b)):Eqs P (d+1) xs ys w (f::fs) (decide (a=b)::cs):=
 Pw.cons ⟨by simpa using hn,ho.agg,_,_,k,z,zPL h d a b w⟩ hs
theorem yC1 {a b:Str} (h:P.underlying f.type=some .string) (k:xs[f.offset]? =some (.string ⟨a.toArray⟩)) (z:ys[f.offset]? =some (.string ⟨b.toArray⟩)):Eqs P (d+1) xs ys w (f::fs) (decide (a=b)::cs):=
 Pw.cons ⟨by simpa using hn,ho.agg,_,_,k,z,zQU h d a b w⟩ hs
end
structure EqTy {α:Type} [DecidableEq α] (P:Program) (t:TypeId) (en:En α):Prop where
 eq:∀(a b: α) (va vb:Value) w I,Rep w I va (en.dv a)->Rep w I vb (en.dv b)->(∃xs ys,va= .agg xs/\vb= .agg ys)/\(Op.equal t va vb).run P w= .ok (decide (a=b)) w
 guard:∀(op:BinOp) (x y:Operand) xs ys w,(eqGuard op t x y (.agg xs) (.agg ys)).run P w= .ok () w
theorem zOE {w:World} {I:Im} {u v:Value} (h:Rep w I u (.v v)):u=v:=by cases h;rfl
theorem zLV {w:World} {I:Im} {v:Value} {vs:List Value} (h:Rep w I v (.agg (vs.map DV.v))):v= .agg vs.toArray:=by
 cases h with
 | agg xs cells K k H=>
  congr 2;apply fV;intro j;have D:xs.length=vs.length:=by simpa using K
  by_cases G:j<xs.length;have k:xs[j]? =some xs[j]:=cV G;have z:vs[j]? =some (vs[j]'(by omega)):=cV (by omega);have:=H j xs[j] (.v (vs[j]'(by omega))) k (by simp[z]);rw[k,z,zOE this];rw[fT (by omega),fT (by omega)]
theorem EqTy.of {D:Type} [DecidableEq D] {t:TypeId} {en:En D} {k:Array Field} {vals: D->List Value} {cs: D->D->List Bool} (hu:P.underlying t=some (.struct k)) (K:P.stoodInHeld t=false) (hg:P.eqGuardType P.depth t=false)
  (hv:∀a,en.dv a= .agg ((vals a).map DV.v)) (Z:∀a b w,Eqs P (9998+1) (vals a).toArray (vals b).toArray w k.toList (cs a b)) (hc:∀a b,(cs a b).all id=decide (a=b)):EqTy P t en where
 eq:=λa b va vb w I T Y=>by
  rw[hv] at T Y;rw[zLV T,zLV Y];refine⟨⟨_,_,rfl,rfl⟩,?_⟩;show (Op.equalIn (9999+1) t _ _).run P w=_;rw[Op.equalIn];simp only[cW,dL hu,cX];have H:(program).run P w= .ok P w:=by rfl
  simp only[H,K,cX,dR,cY,dU];rw[<-Array.forIn_toList,<-hc a b];have z:=λF h=>zU4 (P:=P) (w:=w) (F:=F) k.toList (cs a b) h;simp only[cW];rw[z _ ⟨(Z a b w).1,λj f c hf G s=>?_⟩]
  ·simp only[cX]
   cases (cs a b).all id<;>simp
  ·obtain⟨q1,q2,x,y,q3,q4,q5⟩:=(Z a b w).2 j f c hf G
   simp only[q1,ne_eq,not_false_eq_true,dH,cW,zGS q2 q3,zGS q2 q4,cX];have O:(Op.equalIn 9999 f.type x y).run P w= .ok c w:=q5;rw[O];cases c<;>simp
 guard:=λop x y xs ys w=>by
  have H:(program).run P w= .ok P w:=by rfl
  cases op<;>simp[eqGuard,H,hg]
variable {r:Option Nat} {E:Env} {S:AState} {d:Nat} {ty:TypeId} {pos:String} {af:Array Edge} {g:Option (Nat×Bool)}
theorem yC2 {k:Type} [DecidableEq k] {en:En k} {x y:Operand} {a b: k} {tx tz:TypeId} (T:d<E.n) (O:EqTy P tx en) (Z:S.ev x= .d (en.dv a)) (hy:S.ev y= .d (en.dv b)):
  AOp P r E S ⟨some d,.binOp .eql tx x y tz,ty,pos,af,g⟩ d (.d (.v (.bool (decide (a=b))))):=
 ⟨rfl,T,λS' h=>k9 rfl T (by simp) λA w I ρ C Y=>by
  have G:=Y.ev x;rw[(h.ev (by simp[Op.operands])).trans Z] at G;have H:=Y.ev y;rw[(h.ev (by simp[Op.operands])).trans hy] at H;obtain⟨⟨xs,ys,z,D⟩,K⟩:=O.eq a b _ _ w I G H;rw[z,D] at K;have hb:binOp .eql tx (.agg xs) (.agg ys)=(do pure (.bool (<-Op.equal tx (.agg xs) (.agg ys)))):=rfl;simp only[execOp,z,D,cW,O.guard,cX,hb,K,dU]⟩
theorem zWF {k:Type} [DecidableEq k] {en:En k} {x y:Operand} {a b: k} {tx tz:TypeId} (T:d<E.n) (O:EqTy P tx en) (Z:S.ev x= .d (en.dv a)) (hy:S.ev y= .d (en.dv b)):
  AOp P r E S ⟨some d,.binOp .neq tx x y tz,ty,pos,af,g⟩ d (.d (.v (.bool (!decide (a=b))))):=
 ⟨rfl,T,λS' h=>k9 rfl T (by simp) λA w I ρ C Y=>by
  have G:=Y.ev x;rw[(h.ev (by simp[Op.operands])).trans Z] at G;have H:=Y.ev y;rw[(h.ev (by simp[Op.operands])).trans hy] at H;obtain⟨⟨xs,ys,z,D⟩,K⟩:=O.eq a b _ _ w I G H;rw[z,D] at K;have hb:binOp .neq tx (.agg xs) (.agg ys)=(do pure (.bool (!(<-Op.equal tx (.agg xs) (.agg ys))))):=rfl;simp only[execOp,z,D,cW,O.guard,cX,hb,K,dU]⟩
theorem zOF {t n:Nat} {x y:Operand} {id eb:Nat} {cells:List AV} {ds:List DV} (hT:AggTy P t n) (hx:S.ev x= .ptr id 0) (hb:S.blk id= .box eb cells) (hy:S.ev y= .d (.agg ds)) (hl:cells.length=n) (ac:ds.length=n) (hE:E.wrB=true):
  jA P r E ⟨none,.store t x y,ty,pos,af,g⟩ S (S.setBlk id (.box eb (ds.map AV.d))):=
 zER rfl (by simp) λA w I ρ C Z=>by
  have h:=Z.ev x;rw[hx] at h;obtain⟨b,D,hv⟩:=h;have H:=Z.blks id;rw[hb] at H;obtain⟨G,arr,z,hB,hh,al,ad,hI⟩:=H;have ab:G=b:=by rw[z] at D;simpa[blockOf] using D
  subst ab;have T:=Z.ev y;rw[hy] at T;have k:Rep w I (A.eval y) (.agg ds):=T;generalize he:A.eval y=vy at k;cases k with
  | agg xs Y K h1 hr=>
   have au:arr.size=n:=by rw[<-eK,ad.1];exact hl
   have ah:xs.length=n:=by rw[K];exact ac
   have O:=zR3 (P:=P) w hT (b:=G) (off:=0) (vs:=xs) hh (by omega) ah h1;have e1:arr.toList.take 0++xs++arr.toList.drop (0+n)=xs:=by
    rw[List.drop_eq_nil_of_le (by simp;omega)];simp
   rw[e1] at O;refine⟨_,?_,I,ρ,C,Z.modify (zAV w G xs.toArray) (by rw[hb];simp) D (wO hI) ⟨G,xs.toArray,z,hB,ic w G arr _ eb _ hh,by simpa using h1,?_,hI⟩ hE⟩
   ·simp only[execOp,hv,he,cW,O]
    rfl
   ·have ag:Reps w I xs ds:=⟨K,hr⟩
    exact yHK (ρ:=ρ) (Reps.mono ag (wO hI) (λ_ _ h=>h))
end
open Go.RowKit Go.M
section
variable {P:Program} {r:Option Nat} {E:Env} {S:AState} {d:Nat} {ty:TypeId} {pos:String} {af:Array Edge} {g:Option (Nat×Bool)}
theorem z77 {a:Act} {w:World} {x y:DV} (z:d<E.n) (k:∀w I v,Rep w I v x->Rep w I v y) (h:Sat E (S.put d (.d x)) a w):Sat E (S.put d (.d y)) a w:=by
 obtain⟨I,ρ,C,h⟩:=h;refine⟨I,ρ,C,⟨λu=>?_,h.blks,h.dist,by have:=h.frame;rw[zBX _ _ z] at this ⊢;exact this,h.sub,h.old,h.size,h.defers,h.cI,h.cB,h.nm⟩⟩
 have:=h.tmps u;rw[zAE] at this ⊢;by_cases e:d=u;simp only[e,dH] at this ⊢;exact k _ _ _ this;simp only[e,cY] at this ⊢;exact this
theorem AOp.conv {o:Oper} {x y:DV} (h:AOp P r E S o d (.d x)) (G:∀w I v,Rep w I v x->Rep w I v y):AOp P r E S o d (.d y):=
 ⟨h.1,h.2.1,λS' D a w K Q O H=>h.2.2 S' D a w K Q O λz w' k=>H z w' (z77 h.2.1 G k)⟩
theorem zY1 {as bs:List DV} (z:NilL as bs) {w:World} {I:Im} {v:Value} (h:Rep w I v (.agg as)):Rep w I v (.agg bs):=by
 cases h with
 | agg xs cells G k D=>
  have:=zY0 z (⟨G,D⟩:Reps w I xs as);exact .agg xs bs this.1 k this.2
theorem AOp.nils {o:Oper} {as bs:List DV} (h:AOp P r E S o d (.d (.agg as))) (k:NilL as bs):AOp P r E S o d (.d (.agg bs)):=h.conv λ_ _ _ z=>zY1 k z
theorem z08 {x:Operand} {i:Nat} {cs:List Cap} {c:Cap} (z:d<E.n) (O:S.ev x= .tupc cs) (hi:cs[i]? =some c):AOp P r E S ⟨some d,.extract x i,ty,pos,af,g⟩ d c.av:=
 ⟨rfl,z,λS' G=>zQ rfl z (by simp) λA w I ρ C H=>by
  have h:=H.ev x;rw[(G.ev (by simp[Op.operands])).trans O] at h;obtain⟨xs,K,D⟩:=h;have k:i<xs.length:=by rw[D.1];exact(c9.1 hi).1
  refine⟨xs[i],?_,Cap.holds (D.2 i _ c (cV k) hi)⟩;simp only[execOp,K];simp[Instr.extract,cV k]⟩
theorem zKT {x:Operand} {c:List Cap} (h:d<E.n) (k:S.ev x= .tupc c):AOp P r E S ⟨some d,.move x,ty,pos,af,g⟩ d (.tupc c):=zDR h k
theorem zWG {x:Operand} (h:d<E.n):AOp P r E S ⟨some d,.assign x,ty,pos,af,g⟩ d .top:=
 ⟨rfl,h,λS' k=>zQ rfl h (by simp) λA w I ρ C z=>⟨A.eval x,by simp[execOp],trivial⟩⟩
theorem zOG {id e size:Nat} {cells:List DV} (hb:S.blk id= .row e size false cells):zES E S (S.setBlk id (.win e size 0 cells)):=by
 rintro a w ⟨I,ρ,C,h⟩
 have hk:=h.blks id;rw[hb] at hk;obtain⟨hp,n,xs,hl,k,h1,hr,hI⟩:=hk;have aa:S.blk id≠ .none:=by rw[hb];simp
 have key:∀i,(S.setBlk id (.win e size 0 cells)).blk i≠ .none->S.blk i≠ .none:=by
  intro i hi;rw[yB] at hi;by_cases G:id=i;subst G;exact aa;simpa[G] using hi
 refine⟨I,ρ,C,⟨h.tmps,λi=>?_,λi i' b hn hi Y=>h.dist i i' b hn (key i hi) (key i' Y),h.frame,h.sub,h.old,h.size,h.defers,h.cI,λi b hi=>h.cB i b (key i hi),λi v z hi=>h.nm i v z (key i hi)⟩⟩;rw[yB];by_cases G:id=i;subst G;simp only[dH];rcases k.2 with ⟨z,Z⟩ | ⟨H,O,D,z,hB,hh,K,am,T,ao⟩
 subst Z;exact⟨none,0,0,xs,z,dF _,hp.1,hl,hr,h1,.inl ⟨rfl,rfl⟩⟩;refine⟨_,n,O,xs,z,K,hp.1,hl,hr,h1,.inr ⟨H,0,D,rfl,hp.2 H (by rw[z];rfl),hh,?_,λj x hj=>?_,λj _ hj hi=>?_⟩⟩
 rw[eD,T];exact dY _ K;have:=k.cells (g:=H) (by rw[z];rfl) j x hj
 rw[vU,e7 w H (0+j) D e (0,0) hh] at this;exact this;have:=(hI H j (by rw[z];rfl) hi).1;cases this;simp only[G,cY];exact h.blks i
end
open Go.RowKit Go.M
def zPM (S:AState) (σ:List (Nat×Nat)) (T:List (Nat×Blk)):Bool:=σ.all λp=>match look Blk.none T p.1,S.blk p.2 with
 | .none,.none=>true
 | .none,_=>false
 | _,_=>true
theorem zKU {S:AState} {σ:List (Nat×Nat)} {T:List (Nat×Blk)} (h:zPM S σ T=true):zOA S σ T:=by
 intro k D z;have:=eC.1 h _ (zDS D);simp only[z] at this;cases hb:S.blk (look 0 σ k) with
 | none=>rfl
 | _=>rw[hb] at this;simp at this
theorem zSN {σ:List (Nat×Nat)} (h:((σ.map Prod.fst).Nodup/\(σ.map Prod.snd).Nodup)):Ren σ:=⟨h.1,h.2⟩
section
variable {P:Program} {r:Option Nat} {E:Env} {S:AState} {d:Nat} {ty:TypeId} {pos:String} {af:Array Edge} {g:Option (Nat×Bool)}
theorem zCY {f:FuncId} {xs:List Operand} {ats:Array TypeId} {args h:List Cap} {T D:List (Nat×Blk)} {keep:List Nat} (σ:List (Nat×Nat)) (hc:GC P f args T keep h D) (hn:d<E.n) (aa:(σ.map Prod.fst).Nodup/\(σ.map Prod.snd).Nodup)
  (z:ArgsAs σ (xs.map S.ev) args) (K:args.all (Cap.idsLt σ)=true) (Z:h.all (Cap.idsLt σ)=true) (hT:BlksAs S σ T) (H:zBI σ T=true) (G:zBI σ D=true)
  (O:zPM S σ T=true) (Y:∀k,E.nm k=none) (hE:E.wrB=true) (hG:E.gdt=zAU P:=by rfl):
  jA P r E ⟨some d,.call {callee:= .value (.func f),args:=xs.toArray,argTypes:=ats},ty,pos,af,g⟩ S
   (((S.killL (zH8 σ keep D)).setL (renL σ D++zL9 σ T D)).put d ((zMZ h).ren σ)):=
 z2M σ hn (zSN aa) z K Z hT H G (zKU O) (λk _=> .inl (Y _)) hc hE hG
end
theorem nl0:NilL [] []:=trivial
theorem nlE {a:DV} {as bs:List DV} (h:NilL as bs):NilL (a::as) (a::bs):=⟨.inl rfl,h⟩
theorem nlN {s:Nat} {as bs:List DV} (h:NilL as bs):NilL (.v (.slice none 0 0)::as) (.sl s []::bs):=⟨.inr ⟨rfl,_,rfl⟩,h⟩
open Go.RowKit Go.M
structure ArTy (P:Program) (t:TypeId) (n es:Nat) (e:TypeId) (zs:List Value):Prop where
 und:P.underlying t=some (.array n e)
 size:∀w,(sizeOf e).run P w= .ok es w
 pos:0<es
 zero:∀w,(zeroValue t).run P w= .ok (.agg zs.toArray) w
 one:∀x∈zs,x.oneCell'=true
def arP (n es:Nat):List (Nat×Nat):=(List.range n).map λi=>(i*es,es)
theorem yC3 {n es i:Nat} {q:Nat×Nat} (h:(arP n es)[i]? =some q):i<n/\q=(i*es,es):=by unfold arP at h;rw[dX] at h;by_cases hi:i<n;simp[hi] at h;exact⟨hi,h.symm⟩;simp[hi] at h
theorem ArTy.of {P:Program} {t e:TypeId} {n es:Nat} {zs:List Value} (D:P.underlying t=some (.array n e)) (z:(P.info? e).map (·.size)=some es) (k:0<es) (H:((P.info? t).bind (·.zero))=some (.agg zs.toArray)) (h:zs.all Value.oneCell'=true):ArTy P t n es e zs:=
 ⟨D,zWC z,k,zWD H,λx G=>eC.1 h x G⟩
theorem zSO {f g:Nat->Option (Nat×Nat)}:∀(vs:List (Nat×Value)) (arr:Array Value),(∀p∈vs,f p.1=g p.1)->Instr.fill f arr vs=Instr.fill g arr vs
 | [],_,_=>rfl
 | (i,v)::vs,arr,h=>by
  simp only[Instr.fill];rw[h (i,v) (by simp)];cases g i with
  | none=>rfl
  | some q=>
   obtain⟨off,size⟩:=q;simp only;split;rfl;exact zSO vs _ (λp k=>h p (by simp[k]))
theorem zY2 {places:List (Nat×Nat)}:∀{ds:List (Nat×DV)} {cells k:List DV},zMJ places cells ds=some k->∀p∈ds,∃q,places[p.1]? =some q
 | [],_,_,_,p,hp=>by cases hp
 | (i,v)::ds,cells,k,h,p,hp=>by
  simp only[zMJ] at h;cases z:places[i]? with
  | none=>rw[z] at h;cases h
  | some q=>
   rw[z] at h;obtain⟨off,size⟩:=q;simp only at h;split at h;rcases dN.1 hp with e | hp
   rw[e];exact⟨_,z⟩;exact zY2 h p hp;cases h
theorem zSP {P:Program} {z:Type} {w:World} {F: z->Option Bool×PUnit->Sem (ForInStep (Option Bool×PUnit))}:∀(k:List z) (cs:List Bool),Pw (λ(f: z) c=> ∀s,(F f s).run P w= .ok (if c then .yield (none,()) else .done (some false,())) w) k cs->
  (forIn k ((none,()):Option Bool×PUnit) F).run P w= .ok (if cs.all id then (none,()) else (some false,())) w
 | [],cs,h=>by cases cs with
  | nil=>simp
  | cons c cs=>have:=h.1;simp at this
 | f::k,cs,h=>by cases cs with
  | nil=>have:=h.1;simp at this
  | cons c cs=>
   obtain⟨D,G⟩:=zF7 h;have H:=zSP k cs G;rw[List.forIn_cons];simp only[cW,D,cX];cases c with
   | false=>simp
   | true=>simpa using H
section
variable {P:Program} {r:Option Nat} {E:Env} {S:AState} {d:Nat} {ty:TypeId} {pos:String} {af:Array Edge} {g:Option (Nat×Bool)}
theorem z79 {t e:TypeId} {n es:Nat} {zs:List Value} {G:List (Nat×Operand)} {ds:List (Nat×DV)} {cells:List DV} (hn:d<E.n) (H:ArTy P t n es e zs) (K:dvP S G=some ds) (Z:zMJ (arP n es) (zs.map DV.v) ds=some cells):
  AOp P r E S ⟨some d,.build t G.toArray,ty,pos,af,g⟩ d (.d (.agg cells)):=
 ⟨rfl,hn,λS' ha=>zQ rfl hn (by simp) λA w I ρ C hs=>by
  have z:dvP S' G=some ds:=(zIM ha (λp O=>by simp only[Op.operands];simp;exact⟨p.1,O⟩)).trans K
  have k:=zIL hs z;obtain⟨h,h1,T,h3⟩:=zOB (places:=arP n es) ds (G.map λp=>(p.1,A.eval p.2)) zs.toArray (zs.map DV.v) cells (by simpa using zMV w I zs) (by simpa using H.one) k Z;refine⟨.agg h,?_,by have:=Rep.agg (w:=w) (I:=I) h.toList cells T.1 h3 T.2;rw[Array.toArray_toList] at this;exact this⟩
  have hz:=H.zero w;have hc:Instr.fill (λi=>some (i*es,es)) zs.toArray (G.map λp=>(p.1,A.eval p.2))=some h:=by
   rw[<-h1];apply zSO;intro p O;obtain⟨j,hj,e1⟩:=fB O;have D:j<ds.length:=by rw[<-k.1];exact hj
   have Y:=k.2 j _ _ (cV hj) (cV D);obtain⟨q,hq⟩:=zY2 Z ds[j] (eE D);rw[e1] at Y;rw[Y.1,hq,(yC3 hq).2]
  simp only[execOp,Instr.build,eH,cW,hz,cX,dL H.und,H.size w,Value.cells,hc,dU]⟩
theorem zKV {Y:Type} {en:En Y} {l:List Y} {t e:TypeId} {n:Nat} {zs:List Value} {x T:Operand} {kk:IntKind} {i:Int} {v: Y} (hn:d<E.n) (hT:ArTy P t n 1 e zs) (ho:OneTy P e) (hc:∀v,en.cells v= [en.dv v]) (hx:S.ev x= .d (.agg (en.all l))) (hl:l.length=n) (hi:S.ev T= .d (.v (.int kk i))) (hv:zV l i=some v):
  AOp P r E S ⟨some d,.index t x T,ty,pos,af,g⟩ d (.d (en.dv v)):=
 ⟨rfl,hn,λS' ha=>zQ rfl hn (by simp) λA w I ρ C hs=>by
  have D:=hs.ev x;rw[(ha.ev (by simp[Op.operands])).trans hx] at D;have Z:=hs.ev T;rw[(ha.ev (by simp[Op.operands])).trans hi] at Z;have G:=zOE Z;obtain⟨q0,q1,q2,q3⟩:=vM hv;have z:en.size=1:=by rw[<-en.len v,hc];rfl
  generalize hX:A.eval x=vx at D;cases D with
  | agg xs cells O ah hr=>
   have k:(en.all l).length=l.length:=by rw[kZ,z,gC]
   have hg:(en.all l)[i.toNat]? =some (en.dv v):=by
    have:=zRC (e:=en) q3 0 (by omega);rw[z,gC,fH,hc] at this;simpa using this
   have K:i.toNat<xs.length:=by rw[O,k];exact q2
   have h:xs[i.toNat]? =some xs[i.toNat]:=cV K;refine⟨xs[i.toNat],?_,hr i.toNat _ _ h hg⟩;have H:0<=i/\i<(n:Int):=⟨q0,by omega⟩;simp only[execOp,hX,G,Instr.index,cW,asIntOf,dU,cX,dL hT.und,H,iv,dH,hT.size w,gC];rw[zGS ho.agg (a:=xs[i.toNat]) (by simp[h])];rfl⟩
theorem z8A {G H:Type} {R: G->H->Prop} {xs:List G} {ys:List H} (h:Pw R xs ys) (a n:Nat):Pw R ((xs.drop a).take n) ((ys.drop a).take n):=by refine⟨by simp[h.1],λj x y k z=>?_⟩;rw[d8] at k z;by_cases D:j<n;simp only[D,dH,eO] at k z;exact h.2 (a+j) x y k z;simp[D] at k
theorem z5C {Y:Type} {en:En Y} {l:List Y} {t e:TypeId} {n:Nat} {zs:List Value} {x T:Operand} {kk:IntKind} {i:Int} {v: Y} (hn:d<E.n) (hT:ArTy P t n en.size e zs) (ho:AggTy P e en.size) (hc:∀v,en.dv v= .agg (en.cells v)) (hx:S.ev x= .d (.agg (en.all l))) (hl:l.length=n) (hi:S.ev T= .d (.v (.int kk i))) (hv:zV l i=some v):
  AOp P r E S ⟨some d,.index t x T,ty,pos,af,g⟩ d (.d (en.dv v)):=
 ⟨rfl,hn,λS' ha=>zQ rfl hn (by simp) λA w I ρ C hs=>by
  have z:=hs.ev x;rw[(ha.ev (by simp[Op.operands])).trans hx] at z;have Z:=hs.ev T;rw[(ha.ev (by simp[Op.operands])).trans hi] at Z;have G:=zOE Z;obtain⟨q0,q1,q2,q3⟩:=vM hv;generalize hX:A.eval x=vx at z;cases z with
  | agg xs cells O D hr=>
   have k:((en.all l).drop (i.toNat*en.size)).take en.size=en.cells v:=by
    have:=zWB (e:=en) q3 0 en.size (by omega);rw[fH,et,<-en.len v,List.take_length] at this;rw[<-en.len v];exact this
   have h:=z8A (R:=Rep w I) ⟨O,hr⟩ (i.toNat*en.size) en.size;rw[k] at h;have H:(xs.toArray.extract (i.toNat*en.size) (i.toNat*en.size+en.size))=((xs.drop (i.toNat*en.size)).take en.size).toArray:=by
    rw[List.extract_toArray,List.extract_eq_take_drop];congr 2;omega
   refine⟨.agg ((xs.drop (i.toNat*en.size)).take en.size).toArray,?_,?_⟩
   ·have K:0<=i/\i<(n:Int):=⟨q0,by omega⟩
    simp only[execOp,hX,G,Instr.index,cW,asIntOf,dU,cX,dL hT.und,K,iv,dH,hT.size w,part,ho.agg w,H]
   ·rw[hc]
    exact .agg _ _ h.1 (λy hy=>D y (eU (eF hy))) h.2⟩
theorem yC4 {t n h:Nat} {zs:List Value} (D:d<E.n) (H:AggTy P t n) (K:E.gdt h=some zs) (T:zs.length=n) (G:zs.all Value.oneCell'=true):
  AOp P r E S ⟨some d,.load t (.global h),ty,pos,af,g⟩ d (.d (.agg (zs.map DV.v))):=
 ⟨rfl,D,λS' ha=>zQ rfl D (by simp) λA w I ρ C Y=>by
  have z:=Y.gl h zs K;refine⟨.agg zs.toArray,?_,.agg _ _ (by simp) (λx Z=>eC.1 G x Z) (zMV w I zs).2⟩;have k:A.eval (.global h)= .pointer (some ⟨h,0,none⟩):=rfl;simp only[execOp,k,cW];rw[zCE w H h 0 zs T (λj v O=>by rw[eD];exact(z j).1.trans O)]
  rfl⟩
theorem zOH {t e:TypeId} {n es:Nat} {zs:List Value} (h:ArTy P t n es e zs) {k:Nat} (H:k<n) (G:IntKind) (w:World) (b o:Nat):
  (Instr.indexAt t (.pointer (some ⟨b,o,none⟩)) (.int G (k:Int))).run P w= .ok (.pointer (some ⟨b,o+k*es,none⟩)) w:=by
 have z:(⟨b,o,none⟩:Addr).add (k*es)=⟨b,o+k*es,none⟩:=by
  unfold Addr.add;split
  ·rename_i e;rw[e];rfl
  ·rfl
 have D:0<=(k:Int)/\(k:Int)<(n:Int):=⟨by omega,by omega⟩;simp only[Instr.indexAt,cW,asIntOf,dU,cX,dL h.und,Instr.sureAddr,D,iv,dH,h.size w,Int.toNat_natCast,z]
theorem zQV {t e:TypeId} {n es id o:Nat} {zs:List Value} {x G:Operand} {Y:IntKind} {k:Nat} (O:d<E.n) (Z:ArTy P t n es e zs) (hx:S.ev x= .ptr id o) (hi:S.ev G= .d (.v (.int Y (k:Int)))) (hk:k<n):
  AOp P r E S ⟨some d,.indexAddr t x G,ty,pos,af,g⟩ d (.ptr id (o+k*es)):=
 ⟨rfl,O,λS' K=>zQ rfl O (by simp) λA w I ρ C T=>by
  have h:=T.ev x;rw[(K.ev (by simp[Op.operands])).trans hx] at h;have H:=T.ev G;rw[(K.ev (by simp[Op.operands])).trans hi] at H;have z:=zOE H;obtain⟨b,D,hv⟩:=h;refine⟨.pointer (some ⟨b,o+k*es,none⟩),?_,b,D,rfl⟩;simp only[execOp,hv,z,cW,zOH Z hk Y w b o];rfl⟩
theorem z5D {t e:TypeId} {n es:Nat} {zs:List Value} {cells:List DV} {x G:Operand} {Z:IntKind} {k:Nat} (T:d<E.n) (hT:ArTy P t n es e zs) (hx:S.ev x= .d (.pt cells)) (hi:S.ev G= .d (.v (.int Z (k:Int)))) (hk:k<n):
  AOp P r E S ⟨some d,.indexAddr t x G,ty,pos,af,g⟩ d (.ip cells (0+k*es)):=
 ⟨rfl,T,λS' O=>zQ rfl T (by simp) λA w I ρ C Y=>by
  have h:=Y.ev x;rw[(O.ev (by simp[Op.operands])).trans hx] at h;have K:=Y.ev G;rw[(O.ev (by simp[Op.operands])).trans hi] at K;have z:=zOE K;obtain⟨b,H,xs,hv,hr,h1,D⟩:=z73 (ρ:=ρ) h;refine⟨.pointer (some ⟨b,H+(0+k*es),none⟩),?_,b,H,xs,rfl,hr,h1,D⟩;simp only[execOp,hv,z,cW,zOH hT hk Z w b (H+0),gv];rfl⟩
end
theorem EqTy.ofA {P:Program} {h:Type} [DecidableEq h] {t e:TypeId} {n:Nat} {zs:List Value} {en:En h} {vals: h->List Value} {cs: h->h->List Bool} (K:ArTy P t n 1 e zs) (T:OneTy P e) (hg:P.eqGuardType P.depth t=false)
  (hv:∀a,en.dv a= .agg ((vals a).map DV.v)) (O:∀a b w,Pw (λ(i:Nat) c=> ∃x y,(vals a)[i]? =some x/\(vals b)[i]? =some y/\(Op.equalIn (9998+1) e x y).run P w= .ok c w) (List.range n) (cs a b)) (Y:∀a b,(cs a b).all id=decide (a=b)):EqTy P t en where
 eq:=λa b va vb w I G H=>by
  rw[hv] at G H;rw[zLV G,zLV H];refine⟨⟨_,_,rfl,rfl⟩,?_⟩;show (Op.equalIn (9999+1) t _ _).run P w=_;rw[Op.equalIn];simp only[cW,dL K.und,cX,K.size w];rw[Std.Legacy.Range.forIn_eq_forIn_range'];have ac:List.range' 0 ((n-0+1-1)/1) 1=List.range n:=by simp[gE]
  have z:(Std.Legacy.Range.size [0:n])=n:=by simp[Std.Legacy.Range.size]
  simp only[z];rw[<-gE,<-Y a b];rw[zSP (P:=P) (w:=w) (List.range n) (cs a b) ⟨(O a b w).1,λj f c Z k s=>?_⟩]
  ·simp only[cX]
   cases (cs a b).all id<;>simp
  ·obtain⟨x,y,q3,q4,q5⟩:=(O a b w).2 j f c Z k
   simp only[cW,gC,zGS T.agg (xs:=(vals a).toArray) (a:=x) (by simpa using q3),zGS T.agg (xs:=(vals b).toArray) (a:=y) (by simpa using q4),cX];have D:(Op.equalIn 9999 e x y).run P w= .ok c w:=q5;rw[D];cases c<;>simp
 guard:=λop x y xs ys w=>by
  have hp:(program).run P w= .ok P w:=by rfl
  cases op<;>simp[eqGuard,hp,hg]
open Go.RowKit Go.M
theorem zQG {P:Program} {D:Type} [DecidableEq D] {H:TypeId} {kv: D->Value} {w:World} (G:∀a b,(Op.equal H (kv a) (kv b)).run P w= .ok (decide (a=b)) w) (a: D):∀(es:List MapEntry) (z:List D) (i:Nat),Pw (λ(x:MapEntry) k=>x.key=kv k) es z->
  (Instr.findAsking H (kv a) es i).run P w= .ok (findAt a z es i) w
 | [],z,i,h=>by
  cases z with
  | nil=>simp[Instr.findAsking,findAt]
  | cons k z=>have:=h.1;simp at this
 | x::es,z,i,h=>by
  cases z with
  | nil=>have:=h.1;simp at this
  | cons k z=>
   obtain⟨K,O⟩:=zF7 h;have T:=zQG G a es z (i+1) O;simp only[Instr.findAsking,cW,K,G,cX,findAt];by_cases e:a=k
   ·simp[e]
   ·simp[e,T]
theorem zY3 {td:TypeDesc} {k:Value} {es:List MapEntry} (h:∀x∈es,Instr.sameNow td k x.key=none) (i:Nat):Instr.findNow td k es i=if es= [] then some none else none:=by
 cases es with
 | nil=>rfl
 | cons x es=>simp[Instr.findNow,h x (by simp)]
theorem z8B {P:Program} {G:Type} [DecidableEq G] {z:TypeId} {en:En G} {kv: G->Value} {vals: G->List Value} {td:TypeDesc} (hu:P.underlying z=some td) (Z:EqTy P z en) (Y:∀a,en.dv a= .agg ((vals a).map DV.v)) (D:∀a,kv a= .agg (vals a).toArray) (O:∀a,(vals a).all Value.oneCell'=true)
  (hs:∀a,(vals a).all (λx=>Instr.sameBits 9999 x x)=true) (hc:∀a b w,(Instr.checkKey b 10000 z (kv a)).run P w= .ok () w):KeyTy P z kv where
 same:=λa=>by
  rw[D];have:∀(l:List Value),l.all (λx=>Instr.sameBits 9999 x x)=true->(l.zip l).all (λ(x,y)=>Instr.sameBits 9999 x y)=true:=by
   intro l
   induction l with
   | nil=>intro _;rfl
   | cons x l ih=>intro h;simp only[hY,dM] at h;simp only[List.zip_cons_cons,hY,dM];exact⟨h.1,ih h.2⟩
  show Instr.sameBits (9999+1) _ _=true;rw[Instr.sameBits];simp[this _ (hs a)]
 check:=hc
 find:=λa K es w h=>by
  have H:∀a b,(Op.equal z (kv a) (kv b)).run P w= .ok (decide (a=b)) w:=by
   intro a b;have ra:Rep w (λ_ _=>False) (kv a) (en.dv a):=by rw[D,Y];exact zYY _ (O a)
   have rb:Rep w (λ_ _=>False) (kv b) (en.dv b):=by rw[D,Y];exact zYY _ (O b)
   exact(Z.eq a b _ _ w _ ra rb).2
  have hn:=zY3 (td:=td) (k:=kv a) (es:=es) (λx _=>by rw[D];cases td<;>rfl) 0
  simp only[Instr.findKey,cW,dL hu,cX,hn];by_cases T:es= []
  ·subst T
   cases K with
   | nil=>simp[findAt]
   | cons k K=>have:=h.1;simp at this
  ·simp only[T,cY]
   exact zQG H a es K 0 h
open Go.RowKit Go.M
def DV.pure:DV->Bool
 | .v _=>true
 | .agg cs=>cs.all DV.isV
 | _=>false
theorem z8C {w w':World} {I D:Im} {v:Value} {d:DV} (h:Rep w I v d) (k:d.pure=true):Rep w' D v d:=by
 cases h with
 | v=>exact .v v
 | agg xs cells z G H=>exact .agg xs cells z G (z7T (w:=w) (I:=I) ⟨z,H⟩ k).2
 | _=>simp[DV.pure] at k
def pc (y:DV):Cap:=if y.pure then .d y else .top
theorem zY4 {w w':World} {I z:Im} {ρ:Nat->Value} {v:Value} {y:DV} (h:Rep w I v y):HoldsC w' z ρ v (pc y):=by unfold pc;by_cases k:y.pure=true;simp only[k,dH];exact z8C h k;simp only[k,cY];trivial
def yF7:List DV->AV
 | [y]=>(pc y).av
 | ys=> .tupc (ys.map pc)
theorem zY5 {w w':World} {I K:Im} {ρ:Nat->Value} {v:Value}:∀{H:List DV},zXZ w I v H->Holds w' K ρ v (yF7 H)
 | [],h=>by
  obtain⟨xs,D,z⟩:=h;exact⟨xs,D,by have:=z.1;simp at this;subst this;exact Pw.nil⟩
 | [y],h=>Cap.holds (zY4 h)
 | x::y::zs,h=>by
  obtain⟨xs,D,z⟩:=h;refine⟨xs,D,by simpa using z.1,λj u c O k=>?_⟩;rw[dX] at k;cases G:(x::y::zs)[j]? with
  | none=>rw[G] at k;cases k
  | some q=>rw[G] at k;cases k;exact zY4 (z.2 j u q O G)
section
variable {P:Program} {r:Option Nat} {E:Env} {S:AState} {d:Nat} {ty:TypeId} {pos:String} {af:Array Edge} {g:Option (Nat×Bool)}
theorem zHM {w:World} {I:Im} {ρ:Nat->Value} {M:Nat->Prop} {id e size k n:Nat} {cells:List DV} (h:BlkOk w I ρ M id (.win e size k cells)) (O:cells.length=n*size):
  0<size/\∃A c xs,ρ id= .slice A n c/\n<=c/\Reps w I xs cells/\(∀x∈xs,x.oneCell'=true)/\(0<n->∃b off arr,A=some ⟨b,off,none⟩/\M b/\w.heap[b]? =some (.cells arr e (0,0))/\off+n*size<=arr.size/\(∀(j:Nat) x,xs[j]? =some x->arr[off+j]? =some x)/\(∀j,off<=j->j<off+n*size->I b j->j<off+k*size)):=by
 obtain⟨A,n',c,xs,Y,D,G,z,T,H,K⟩:=h;obtain rfl:=zFW z O G;refine⟨G,A,c,xs,Y,D,T,H,λZ=>?_⟩;rcases K with ⟨_,h⟩ | h
 ·omega
 ·exact h
section win
variable {t e size bytes k n:Nat} {z:Value} {x:Operand} {id:Nat} {cells:List DV}
theorem z5E (K:d<E.n) (T:SlTy P t e size bytes z) (hx:S.ev x= .row id) (hb:S.blk id= .win e size k cells) (Y:cells.length=n*size):
  AOp P r E S ⟨some d,.call {callee:= .builtin .len,args:= #[x],argTypes:= #[t]},ty,pos,af,g⟩ d (.d (.v (.int .i64 n))):=
 ⟨rfl,K,λS' G=>k9 rfl K (by simp) λA w I ρ C O=>by
  have h:=O.ev x;rw[(G.ev (by simp[Op.operands,Call.operands])).trans hx] at h;have Z:A.eval x= ρ id:=h;have H:=O.blks id;rw[(G.blk id).trans hb] at H;obtain⟨_,A',c,xs,D,_⟩:=zHM H Y;exact zRB w T.und _ _ _ x A (Z.trans D) _ rfl⟩
theorem zQH {lo hi:Option Operand} {l h:Nat} (hn:d<E.n) (hT:SlTy P t e size bytes z) (hx:S.ev x= .row id) (T:S.blk id= .win e size k cells) (hl:cells.length=n*size) (hb:Bd S n lo hi l h):
    AOp P r E S ⟨some d,.slice t x lo hi none,ty,pos,af,g⟩ d (.ws id (l*size) (h-l) false):=
  ⟨rfl,hn,λS' O=>zQ rfl hn (by simp) λA w I ρ C hs=>by
    have h1:=hs.ev x;rw[(O.ev (x:=x) (by simp[Op.operands])).trans hx] at h1;have hv:A.eval x= ρ id:=h1;have hk:=hs.blks id;rw[(O.blk id).trans T] at hk;obtain⟨_,K,c,xs,H,G,_,_,D⟩:=zHM hk hl;obtain⟨Z,Y⟩:=(hb.agree O).vals hs;have ag:=hb.len;have aj:=hb.le;refine⟨_,?_,(if c=l then K else K.map (·.add (l*size))),c-l,rfl,by omega,(by simp),λh0=>?_⟩
    · simp only[execOp,hv,H,cW,gu,zLR w hT.und (hT.size w) K n c l h _ _ Z Y hb.le hb.len G]
      rfl
    · obtain⟨b,off,arr,rfl,_⟩:=D (by omega)
      refine⟨b,off,n,c,H,?_⟩;rw[dQ (by omega)];simp[vU]⟩
theorem z09 (w:World) (T:P.underlying t=some (.slice e)) (O:(sizeOf e).run P w= .ok size w) (A:Option Addr) (n c l h m:Nat) (lo:Option Value) (D G:IntKind) (K:lo=none/\l=0\/∃k,lo=some (.int k l))
    (H:l<=h) (Z:h<=m) (Y:m<=c):(Instr.sliceAt t (.slice A n c) lo (some (.int D h)) (some (.int G m))).run P w= .ok (.slice (if m=l then A else A.map (·.add (l*size))) (h-l) (m-l)) w:=by
  have hb:(Instr.sliceBounds true n c lo (some (.int D h)) (some (.int G m))).run P w= .ok (l,h,m) w:=by
    rcases K with ⟨rfl,rfl⟩ | ⟨k,rfl⟩
    · simp[Instr.sliceBounds,xF (P:=P) w G m c _ (by omega),xF (P:=P) w D h m _ (by omega)]
    · simp[Instr.sliceBounds,xF (P:=P) w G m c _ (by omega),xF (P:=P) w D h m _ (by omega),xF (P:=P) w k l h _ H]
  simp[Instr.sliceAt,Instr.slice,dL T,hb,O]
end win
end
open Go.RowKit Go.M
def mpD {h k:Type} (kv: h->Value) (ev:En k) (m:List (h×k)):DV:= .mp (m.map λp=>kv p.1) (m.map λp=>ev.dv p.2)
theorem z8D {w:World} {I:Im} {v:Value} {O T:Type} {kv: O->Value} {ev:En T} {m:List (O×T)} (h:Rep w I v (mpD kv ev m)):
  ∃b ents k,v= .map (some b)/\w.heap[b]? =some (.map ents k)/\Pw (λ(x:MapEntry) (y:Value×DV)=>x.key=y.1/\Rep w I x.val y.2) ents.toList (xO kv ev m):=by
 unfold mpD at h;generalize K:(m.map λp=>kv p.1)=ks at h;generalize G:(m.map λp=>ev.dv p.2)=vs at h;cases h with
 | mp b k ents vs Y hI hx Z hN=>
  refine⟨b,ents,k,rfl,Y,?_,λj x y H z=>?_⟩
  ·have:=congrArg List.length K;simp at this;simp[xO,this]
  ·simp only[xO,dX] at z
   cases D:m[j]? with
   | none=>rw[D] at z;cases z
   | some p=>
    rw[D] at z;cases z;refine⟨?_,Z j x _ H (by rw[<-G];simp[D])⟩
    have:=congrArg (λl=>l[j]?) K;simp only[dX,D,H,eX,fD] at this;exact this.symm
theorem yK5 {w:World} {I:Im} {b h:Nat} {ents:Array MapEntry} {K O:Type} {kv: K->Value} {ev:En O} {m:List (K×O)} (hh:w.heap[b]? =some (.map ents h)) (Z:I b 0)
    (D:Pw (λ(x:MapEntry) (y:Value×DV)=>x.key=y.1/\Rep w I x.val y.2) ents.toList (xO kv ev m)) (hN:Born ents h):Rep w I (.map (some b)) (mpD kv ev m):=by
  have hk:ents.toList.map (·.key)=m.map λp=>kv p.1:=by
    apply fV;intro j;simp only[dX];cases G:ents.toList[j]? with
    | none=>
      have H:ents.toList.length<=j:=g5.1 G;have T:m.length<=j:=by have:=D.1;simp only[xO,eY] at this;omega
      simp[g5.2 T]
    | some x=>
      have H:j<m.length:=by have:=(c9.1 G).1;have Y:=D.1;simp only[xO,eY] at Y;omega
      have k:m[j]? =some m[j]:=cV H;have:=(D.2 j x (kv m[j].1,ev.dv m[j].2) G (by simp[xO,k])).1;simp[k,this]
  unfold mpD;rw[<-hk];refine .mp b h ents _ hh Z (by have:=D.1;simpa[xO] using this) (λj x dd hj z=>?_) hN
  rw[dX] at z;cases k:m[j]? with
  | none=>rw[k] at z;cases z
  | some p=>rw[k] at z;cases z;exact(D.2 j x (kv p.1,ev.dv p.2) hj (by simp[xO,k])).2
theorem yC5 {vals:List Value} {u:DV} (h:u= .agg (vals.map DV.v)):∀(w:World) (I:Im) v,Rep w I v u->v= .agg vals.toArray:=by
 subst h;intro w I v h;cases h with
 | agg xs cells G z H=>
  congr 2;apply fV;intro j;cases k:xs[j]? with
  | none=>
   have z:xs.length<=j:=g5.1 k;rw[eY] at G;exact(g5.2 (by omega)).symm
  | some x=>
   have z:j<vals.length:=by have:=(c9.1 k).1;rw[eY] at G;omega
   have D:vals[j]? =some vals[j]:=cV z;rw[D,zOE (H j x (.v vals[j]) k (by simp[D]))]
theorem yK6 {x:Value}:∀(w:World) (I:Im) v,Rep w I v (.v x)->v=x:=λ_ _ _ h=>zOE h
section
variable {P:Program} {r:Option Nat} {E:Env} {S:AState} {d:Nat} {ty:TypeId} {pos:String} {af:Array Edge} {g:Option (Nat×Bool)}
theorem zGH {x:Operand} {id off:Nat} (k:d<E.n) (K:S.ev x= .ptr id off):AOp P r E S ⟨some d,.nilCheck x,ty,pos,af,g⟩ d (.ptr id off):=
 ⟨rfl,k,λS' G=>zQ rfl k (by simp) λA w I ρ C H=>by
  have h:=H.ev x;rw[(G.ev (by simp[Op.operands])).trans K] at h;obtain⟨b,z,D⟩:=h;exact⟨_,by simp[execOp,D],b,z,rfl⟩⟩
theorem zFH {x:Operand} {cells:List DV} (D:d<E.n) (k:S.ev x= .d (.pt cells)):AOp P r E S ⟨some d,.nilCheck x,ty,pos,af,g⟩ d (.d (.pt cells)):=
 ⟨rfl,D,λS' H=>zQ rfl D (by simp) λA w I ρ C T=>by
  have h:=T.ev x;rw[(H.ev (by simp[Op.operands])).trans k] at h;have z:Rep w I (A.eval x) (.pt cells):=h;generalize Y:A.eval x=v at z;cases z with
  | pt b off xs cells k K G O=>exact⟨_,by simp[execOp,Y],.pt b off xs cells k K G O⟩⟩
theorem zLW {f:Nat->Option (Nat×Nat)}:∀(vs:List (Nat×Value)) (arr k:Array Value) (i:Nat) (v:Value) (off:Nat),Instr.fill f arr vs=some k->f i=some (off,1)->v.oneCell'=true->off<k.size->Instr.fill f arr (vs++ [(i,v)])=some (k.setIfInBounds off v)
 | [],arr,k,i,v,off,h,hi,D,z=>by
  simp only[Instr.fill,fD] at h;subst h;simp only[dS,Instr.fill,hi,zIK D];have:¬(off+1 > arr.size):=by omega
  simp[this]
 | (j,u)::vs,arr,k,i,v,off,h,hi,D,z=>by
  simp only[Instr.fill,fR] at h ⊢;cases G:f j with
  | none=>rw[G] at h;cases h
  | some q=>
   obtain⟨o,s⟩:=q;rw[G] at h;simp only at h ⊢;split at h;cases h;rename_i H;rw[dQ H];exact zLW vs _ _ i v off h hi D z
theorem z8E {t:TypeId} {places:List (Nat×Nat)} {zs:List Value} (O:List (Nat×Operand)) (i:Nat) (x:Operand) {ds:List (Nat×DV)} {cells:List DV} {id off:Nat} (hn:d<E.n) (Z:StTy P t places zs) (ab:dvP S O=some ds) (hf:zMJ places (zs.map DV.v) ds=some cells)
  (hx:S.ev x= .row id) (hr:zQA S (.row id)=true) (hi:places[i]? =some (off,1)) (ad:Nat.ble (off+1) cells.length=true):
  AOp P r E S ⟨some d,.build t (O++ [(i,x)]).toArray,ty,pos,af,g⟩ d (.aggc ((cells.map Cap.d).set off (.row id))):=
 ⟨rfl,hn,λS' ha=>zQ rfl hn (by simp) λA w I ρ C hs=>by
  obtain⟨T,hu,hp⟩:=Z.und;have K:off<cells.length:=gX ad;have H:dvP S' O=some ds:=(zIM ha (λp hp=>by simp only[Op.operands];simp;exact .inl ⟨p.1,hp⟩)).trans ab
  obtain⟨k,h1,Y,h3⟩:=zOB (places:=places) ds (O.map λp=>(p.1,A.eval p.2)) zs.toArray (zs.map DV.v) cells (by simpa using zMV w I zs) (by simpa using Z.one) (zIL hs H) hf;have hv:=hs.ev x;rw[(ha.ev (x:=x) (by simp[Op.operands])).trans hx] at hv;have z:(A.eval x).oneCell'=true:=zMU hs.blks hv rfl (λi' e=>by
   cases e;have:=zI3 hr id rfl
   rwa [ha.blk])
  have aj:off<k.size:=by rw[<-eK,Y.1];exact K
  have ac:=zLW (f:=λi=>places[i]?) (O.map λp=>(p.1,A.eval p.2)) zs.toArray k i (A.eval x) off h1 hi z aj;refine⟨.agg (k.toList.set off (A.eval x)).toArray,?_,_,rfl,?_,?_⟩
  ·have hz:=Z.zero w
   simp only[execOp,Instr.build,eH,cW,hz,cX,dL hu,hp w,Value.cells,eW,gU,ey,fF,ac,dU];congr 2;congr 1;rw[<-Array.toList_inj];simp
  ·have ah:Pw (HoldsC w I ρ) k.toList (cells.map Cap.d):=by
    refine⟨by rw[Y.1,eY],λj u c hu G=>?_⟩;rw[dX] at G;cases D:cells[j]? with
    | none=>rw[D] at G;cases G
    | some q=>rw[D] at G;cases G;exact Y.2 j u q hu D
   exact ah.set (y:=Cap.row id) hv off
  ·intro y hy
   rcases gt hy with h | h
   ·exact h3 y h
   ·rw[h];exact z⟩
theorem zSQ {k:TypeId} {x:Operand} {cs:List Cap} (Y:d<E.n) (hx:S.ev x= .aggc cs) (G:E.nm d=none):
  jA P r E ⟨some d,.box k x,ty,pos,af,g⟩ S (((S.kill d).setBlk d (.box k ((cs.map Cap.av).map (zDM d)))).put d (.ptr d 0)):=
 uE (by simp) λA w I ρ C O=>by
  have h:=O.ev x;rw[hx] at h;obtain⟨xs,hv,K,T⟩:=h;have H:Pw (Holds w I ρ) xs (cs.map Cap.av):=by
   refine⟨by rw[K.1,eY],λj u c Z D=>?_⟩;rw[dX] at D;cases z:cs[j]? with
   | none=>rw[z] at D;cases D
   | some q=>rw[z] at D;cases D;exact Cap.holds (K.2 j u q Z z)
  have hb:=O.newBox (id:=d) (e:=k) (arr:=xs.toArray) (cells:=cs.map Cap.av) (by simpa using H) (by simpa using T) G;refine⟨.pointer (some ⟨w.heap.size,0,none⟩),w.alloc (.cells xs.toArray k),?_,I,_,C,hb.put Y (show Holds _ _ _ (.pointer (some ⟨w.heap.size,0,none⟩)) (AV.ptr d 0) from ⟨w.heap.size,by simp[upd,blockOf],rfl⟩)⟩;simp only[execOp,hv,Instr.box,newVar,Value.cells];simp[newRow]
section
variable {t:TypeId} {κ ν:Type} [DecidableEq κ] {kv: κ->Value} {ev:En ν} {mp:List (κ×ν)} {k: κ} {kt vt:TypeId} {zv:Value} {zero: ν} {km kk:Operand} {id:Nat} {uk:DV}
theorem z5F (Z:d<E.n) (hT:MapTy P t kt vt zv) (hK:KeyTy P kt kv) (hm:S.ev km= .row id) (hb:S.blk id= .map (xO kv ev mp)) (hk:S.ev kk= .d uk) (hu:∀(w:World) (I:Im) v,Rep w I v uk->v=kv k) (hz:∀w I,Rep w I zv (ev.dv zero)):
  AOp P r E S ⟨some d,.lookup t km kk false,ty,pos,af,g⟩ d (.d (ev.dv (mgetD mp k zero))):=
 ⟨rfl,Z,λS' G=>zQ rfl Z (by simp) λA w I ρ C K=>by
  have h:=K.blks id;rw[(G.blk id).trans hb] at h;obtain⟨b,ents,D,Y,_,hh,hp,_⟩:=h;have hv:=K.ev km;rw[(G.ev (by simp[Op.operands])).trans hm] at hv;have O:A.eval km= .map (some b):=Eq.trans hv Y;have z:=K.ev kk;rw[(G.ev (x:=kk) (by simp[Op.operands])).trans hk] at z;have H:=hu _ _ _ z;have T:=hz w I;obtain⟨v,h1,h2⟩:=zGR (w:=w) (I:=I) hT hK hh hp T false;refine⟨v,?_,h2⟩;simp only[execOp,O,H,cW,h1];rfl⟩
theorem zU5 (O:d<E.n) (hT:MapTy P t kt vt zv) (hK:KeyTy P kt kv) (hm:S.ev km= .d (mpD kv ev mp)) (hk:S.ev kk= .d uk) (hu:∀(w:World) (I:Im) v,Rep w I v uk->v=kv k) (hz:∀w I,Rep w I zv (ev.dv zero)):
  AOp P r E S ⟨some d,.lookup t km kk false,ty,pos,af,g⟩ d (.d (ev.dv (mgetD mp k zero))):=
 ⟨rfl,O,λS' K=>zQ rfl O (by simp) λA w I ρ C T=>by
  have Y:=T.ev km;rw[(K.ev (by simp[Op.operands])).trans hm] at Y;obtain⟨b,ents,z,G,hh,hp⟩:=z8D Y;have h:=T.ev kk;rw[(K.ev (x:=kk) (by simp[Op.operands])).trans hk] at h;have D:=hu _ _ _ h;have H:=hz w I;obtain⟨v,Z,h2⟩:=zGR (w:=w) (I:=I) hT hK hh hp H false;refine⟨v,?_,h2⟩;simp only[execOp,G,D,cW,Z];rfl⟩
theorem z1A (O:d<E.n) (hT:MapTy P t kt vt zv) (hK:KeyTy P kt kv) (hm:S.ev km= .d (mpD kv ev mp)) (hk:S.ev kk= .d uk) (hu:∀(w:World) (I:Im) v,Rep w I v uk->v=kv k) (hz:∀w I,Rep w I zv (ev.dv zero)):
  AOp P r E S ⟨some d,.lookup t km kk true,ty,pos,af,g⟩ d (.tup [ev.dv (mgetD mp k zero),db (zBQ mp k)]):=
 ⟨rfl,O,λS' K=>zQ rfl O (by simp) λA w I ρ C T=>by
  have Y:=T.ev km;rw[(K.ev (by simp[Op.operands])).trans hm] at Y;obtain⟨b,ents,z,G,hh,hp⟩:=z8D Y;have h:=T.ev kk;rw[(K.ev (x:=kk) (by simp[Op.operands])).trans hk] at h;have D:=hu _ _ _ h;have H:=hz w I;obtain⟨v,Z,h2⟩:=zGR (w:=w) (I:=I) hT hK hh hp H true;refine⟨.tuple #[v,.bool (zBQ mp k)],?_,[v,.bool (zBQ mp k)],rfl,Pw.cons h2 (Pw.cons (.v _) Pw.nil)⟩;simp only[execOp,G,D,cW,Z];rfl⟩
theorem zOI {x:Operand} {v: ν} {u:DV} (hT:MapTy P t kt vt zv) (hK:KeyTy P kt kv) (hm:S.ev km= .row id) (hb:S.blk id= .map (xO kv ev mp)) (hk:S.ev kk= .d uk) (am:∀(w:World) (I:Im) v,Rep w I v uk->v=kv k) (hx:S.ev x= .d u) (hu:u=ev.dv v) (hE:E.wrB=true):
    jA P r E ⟨none,.mapUpdate t km kk x,ty,pos,af,g⟩ S (S.setBlk id (.map (xO kv ev (xY mp k v)))):=
  zER rfl (by simp) λA w I ρ C hs=>by
    subst hu;have Z:=hs.blks id;rw[hb] at Z;obtain⟨b,ents,G,T,hM,hh,hp,hI,hN⟩:=Z;have hv:=hs.ev km;rw[hm] at hv;have ag:A.eval km= .map (some b):=Eq.trans hv T;have ab:=hs.ev kk;rw[hk] at ab;have ac:=am _ _ _ ab;have O:=hs.ev x;rw[hx] at O;have an:=(cU.1 hh).1;have hf:=hK.find k _ ents.toList w (zRE hp);have K:(getObj b).run P w= .ok (.map ents G) w:=by simp[getObj,Sem.run,hh]
    have Y:∀(D:Array MapEntry) (z:Nat),Pw (λ(x:MapEntry) (y:Value×DV)=>x.key=y.1/\Rep w I x.val y.2) D.toList (xO kv ev (xY mp k v))->Born D z->
        Sat E (S.setBlk id (.map (xO kv ev (xY mp k v)))) A {w with heap:=w.heap.setIfInBounds b (.map D z)}:=by
      intro D z ap al;have hg:w.grownBy {w with heap:=w.heap.setIfInBounds b (.map D z)} (some b):=
        ⟨rfl,rfl,rfl,by simp,λq _ hq=>dZ (λe=>hq (by rw[e]))⟩
      have H:Same I w {w with heap:=w.heap.setIfInBounds b (.map D z)}:=λb' j hi=>by
        have:b'≠b:=λe=>hI j (e▸hi);exact KeepB.of (dZ (λe=>this e.symm))
      refine⟨I,ρ,C,hs.modify hg (by rw[hb];simp) (by rw[T];rfl) H ⟨b,D,z,T,hM,by simp[an],ap.imp λ_ _ h=>⟨h.1,h.2.mono H (λ_ _ h=>h)⟩,hI,al⟩ hE⟩
    rcases zGQ (a:=k) (i:=0) hp with ⟨e1,e2⟩ | ⟨v0,j,x0,e1,e2,e3,⟨q,q1,q2,q3⟩,e4⟩
    · rw[e2] at hf
      refine⟨_,?_,Y (ents.push {key:=kv k,val:=A.eval x,born:=G}) (G+1) ?_ hN.push⟩
      · simp only[execOp,ag,ac,Instr.mapUpdate,cW,dL hT.und,cX,K,hK.check,hf,zDP hh,dU]
      · rw[zSL e1]
        simp only[xO,gU,ie,ey,fF];exact Pw.append hp (Pw.cons ⟨rfl,O⟩ Pw.nil)
    · rw[e2] at hf
      have hq:ents[0+j]? =some q:=by rw[eD];simpa using q1
      have aa:(Instr.keyThatStays (((ents[0+j]?).map (·.key)).getD (kv k)) (kv k)).run P w= .ok (kv k) w:=by
        rw[hq];simp only[eX,gO,q2,Instr.keyThatStays,hK.same,dH,dU]
      refine⟨_,?_,Y (ents.modify (0+j) λe=>{e with key:=kv k,val:=A.eval x}) G ?_ (hN.modify λ_=>rfl)⟩
      · simp only[execOp,ag,ac,Instr.mapUpdate,cW,dL hT.und,cX,K,hK.check,hf,aa,zDP hh,dU]
      · rw[eD,gK]
        exact e4 (A.eval x) v _ (λ_=> .inr rfl) (λ_=>rfl) O
end
theorem SatAt.giveUp {a:Act} {w:World} {I:Im} {ρ:Nat->Value} {C:Nat->Prop} (h:SatAt E S a w I ρ C) {id b:Nat} (G:S.blk id≠ .none) (D:blockOf (ρ id)=some b):
  SatAt E (S.setBlk id .none) a w (λk j=>I k j\/k=b) ρ C:=by
 have K:=h.blt id b G D;have z:∀k j,I k j->(λk (j:Nat)=>I k j\/k=b) k j:=λ_ _ h=> .inl h;have key:∀i,(S.setBlk id .none).blk i≠ .none->S.blk i≠ .none/\i≠id:=by
  intro i hi;rw[yB] at hi;by_cases e:id=i
  ·subst e;simp at hi
  ·simp only[e,cY] at hi;exact⟨hi,λe'=>e e'.symm⟩
 refine⟨λu=>(h.tmps u).mono (kM I w) z,λi=>?_,λi Z k Y hi T=>h.dist i Z k Y (key i hi).1 (key Z T).1,h.frame,λb j hi=>z b j (h.sub b j hi),λk j hi=>?_,h.size,h.defers,λk j hi=>?_,λi k hi O=>h.cB i k (key i hi).1 O,λi v hv hi=>h.nm i v hv (key i hi).1⟩
 ·by_cases e:id=i
  ·subst e;rw[yB];simp only[dH];trivial
  ·rw[yB,dQ e]
   refine(h.blks i).widenI z λb2 j hx H hi=>?_;rcases hi with hi | hi
   ·exact hi
   ·subst hi;exact absurd H (h.dist id i b2 e G hx D)
 ·rcases hi with hi | hi
  ·exact h.old k j hi
  ·subst hi;exact⟨K.2,.inr K.1⟩
 ·rcases hi with hi | hi
  ·exact h.cI k j hi
  ·subst hi;exact h.cB id k G D
theorem zJB {Y Z:Type} {kv: Y->Value} {ev:En Z} {m:List (Y×Z)} {bid eb off k:Nat} {cells:List AV} (hb:S.blk bid= .box eb cells) (hc:cells[off]? =some (.row k)) (D:S.blk k= .map (xO kv ev m)):
  zES E S ((S.setBlk k .none).setBlk bid (.box eb (cells.set off (.d (mpD kv ev m))))):=by
 rintro a w ⟨I,ρ,C,h⟩
 have H:k≠bid:=by rintro rfl;rw[hb] at D;cases D
 have T:=h.blks k;rw[D] at T;obtain⟨b,ents,G,z,hM,hh,hp,hI,hN⟩:=T;have h2:=h.giveUp (id:=k) (b:=b) (by rw[D];simp) (by rw[z];rfl)
 refine⟨_,ρ,C,h2.rebox (eb:=eb) (cells:=cells) (by rw[yB,dQ H];exact hb) λxs hx=>hx.set_right hc λx K=>?_⟩
 have O:x= ρ k:=K;rw[O,z];exact yK5 hh (.inr rfl) (hp.imp λ_ _ q=>⟨q.1,q.2.mono (kM I w) λ_ _ h=> .inl h⟩) hN
end
end Go.AV


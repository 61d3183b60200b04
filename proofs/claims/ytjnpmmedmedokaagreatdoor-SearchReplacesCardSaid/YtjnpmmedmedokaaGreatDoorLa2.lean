/- The layer of abstract values: what a temporary holds, said once; every rule of it is proved from the model. Conditions: none. -/
import Derived.Test.YtjnpmmedmedokaaGreatDoorLa1
set_option linter.unusedSimpArgs false
set_option linter.unusedVariables false
set_option linter.unnecessarySimpa false
namespace Go.AV
open Go.RowKit
structure Kept (C:Nat->Prop) (w w':World):Prop where
 size:w.heap.size<=w'.heap.size
 blk:∀b,b<w.heap.size->¬C b->w'.heap[b]? =w.heap[b]?
def z3F (P:Program) (l:Nat) (ys:List Value) (w:World) (b:Bool) (R:World->Prop):Prop:=
 ∃k tmps h body,(Instr.yield l ys.toArray).run P w= .ok (.round l k tmps h body) w/\
  RoundIn Fence.wide 0 P l k tmps h body w λe w'=>e= .returned (.bool b)/\R w'
def z6N (P:Program) (E:Env) (l:Nat) (xs:List (List DV)) (D:Nat->Bool:=λ_=>true):Prop:=
 ∀k C w (I:Im) ys x,xs[k]? =some x->E.fr k C w->(∀b j,I b j->b<w.heap.size/\¬C b/\(E.I0 b j\/E.mine b))->Reps w I ys x->
  z3F P l ys w (D k) λw2=> ∃h,E.fr (k+1) h w2/\Kept C w w2/\∀b,h b->C b\/w.heap.size<=b
section
variable {P:Program} {r:Option Nat} {E:Env} {S:AState} {d:Nat} {ty:TypeId} {pos:String} {af:Array Edge} {g:Option (Nat×Bool)}
theorem SatAt.kept {a:Act} {w w':World} {I:Im} {ρ:Nat->Value} {C K:Nat->Prop} {k:Nat} (h:SatAt E S a w I ρ C) (T:Kept C w w') (hC:∀b,K b->C b\/w.heap.size<=b) (Z:E.fr k K w'):
  SatAt E (S.put GT (.gh k)) a w' I ρ K:=by
 have hs:Same I w w':=λb j hi=>KeepB.of (T.blk b (h.old b j hi).1 (h.cI b j hi));have D:∀b,b<w.heap.size->¬C b->¬K b:=λb hb hc Y=>by rcases hC b Y with O | O;exact hc O;omega
 have aa:(S.put GT (.gh k)).ghost=k:=by unfold AState.ghost;rw[uJ];simp
 refine⟨λt=>?_,λi=>?_,h.dist,by rw[aa];exact Z,h.sub,λb j hi=>⟨eU (h.old b j hi).1 T.size,(h.old b j hi).2⟩,h.size,?_,λb j hi=>D b (h.old b j hi).1 (h.cI b j hi),λi b hi hb=>D b (h.blt i b hi hb).2 (h.cB i b hi hb),h.nm⟩
 ·rw[uJ]
  by_cases e:GT=t
  ·simp only[e,dG];trivial
  ·simp only[e,cV];exact(h.tmps t).mono hs (λ_ _ h=>h)
 ·show BlkOk w' I ρ E.mine i (S.blk i)
  cases hx:S.blk i with
  | none=>trivial
  | _=>
   rw[<-hx];have H:S.blk i≠ .none:=by rw[hx];simp
   exact(h.blks i).mono hs (λb hb=>T.blk b (h.blt i b H hb).2 (h.cB i b H hb))
 ·refine⟨λdd hd=>?_,h.defers.dist,h.defers.wr⟩
  obtain⟨q,O,h2,h3,h4⟩:=h.defers.each dd hd;have G:=(cQ.1 h4).1;exact⟨q,O,h2,D q G h3,(T.blk q G h3).trans h4⟩
theorem z0H {go:Nat->Bool} {l k:Nat} {x:Operand} {args:List Operand} {ats:Array TypeId} {xs:List (List DV)} {it:List DV} (hn:d<E.n) (hE:z6N P E l xs go) (hx:S.ev x= .d (.v (.func (.yield l) #[] #[]))) (ad:unD (args.map S.ev)=some it)
  (hk:S.ghost=k) (ag:xs[k]? =some it):
  jJ P r E ⟨some d,.call {callee:= .value x,args:=args.toArray,argTypes:=ats},ty,pos,af,g⟩ S ((S.put GT (.gh (k+1))).put d (.d (.v (.bool (go k))))):=by
 rintro A w K Q ⟨I,ρ,C,hs⟩ ah
 obtain⟨ab,ac⟩:=zJE S ad;obtain⟨I1,h1,H,h3⟩:=SatAt.dvL _ hs (zB9 hs args) ab;rw[ac] at H;have O:=H.frame;rw[hk] at O;obtain⟨fn,tmps,h,body,Z,D⟩:=hE k C w I1 (args.map A.eval) it ag O (λb j hi=>⟨(H.old b j hi).1,H.cI b j hi,(H.old b j hi).2⟩) h3;refine⟨λf _=>trivial,?_⟩;rw[Oper.semAt_eq _ _ _ (by simp)];have ai:(execOp A.eval ⟨some d,.call {callee:= .value x,args:=args.toArray,argTypes:=ats},ty,pos,af,g⟩).run P w= .ok (.round l fn tmps h body) w:=by
  have ak:=hs.val hx;have Y:args.toArray.map A.eval=(args.map A.eval).toArray:=by simp
  simp only[execOp,resolve,ak,Y,Deferred.ofValue,cS,dV,cW,invoke];simpa using Z
 rw[ai];refine⟨by simp[fen,Fence.wide],?_⟩;show RoundIn Fence.wide 0 P l fn tmps h body w _;refine D.mono ?_
 rintro e w' ⟨rfl,C',T,G,aa⟩
 exact ah _ _ ⟨I1,ρ,C',(H.kept G aa T).put hn (.v _)⟩
def zVN (P:Program) (f:FuncId) (h:List DV) (xs:List (List DV)) (K:Nat->Bool:=λ_=>true):Prop:=
 (∃G,P.funcs[f]? =some G/\(G.name== "runtime.NumGoroutine")=false/\G.body.isNone=false)/\
 ∀(w:World) (I:Im) (vs:List Value) (C:Nat->Prop) (l:Nat) (J:Nat->(Nat->Prop)->World->Prop),
  (∀b j,I b j->b<w.heap.size/\¬C b)->Reps w I vs h->(∀k C w,J k C w->∀b,C b->b<w.heap.size)->(∀k C w w',J k C w->Below w.heap.size w w'->J k C w')->(∀k C w,J k C w->GlI (zAS P) w I)->J 0 C w->
  (∀k C w' (H:Im) ys x,xs[k]? =some x->J k C w'->(∀b j,H b j->b<w'.heap.size/\¬C b/\(I b j\/w.heap.size<=b))->Reps w' H ys x->z3F P l ys w' (K k) λw2=> ∃D,J (k+1) D w2/\Kept C w' w2/\∀b,D b->C b\/w'.heap.size<=b)->
  Calls P f (.func (.yield l) #[] #[]::vs).toArray w λe w'=>e= .returned (.tuple #[])/\∃D,J xs.length D w'
def Env.iter (gdt:Nat->Option (List Value)) (w0:World) (I0:Im) (J:Nat->(Nat->Prop)->World->Prop) (n:Nat) (H:n<=1000000) (D:∀k C w,J k C w->∀b,C b->b<w.heap.size) (G:∀k C w w',J k C w->Below w.heap.size w w'->J k C w') (hG:∀k C w,J k C w->GlI gdt w I0):Env where
 B:=w0.heap.size
 I0:=I0
 n:=n
 fr:=λk C w=>J k C w/\w0.heap.size<=w.heap.size
 wrB:=false
 nle:=H
 mine:=λb=>w0.heap.size<=b
 mineB:=λ_ h=>h
 nm:=λ_=>none
 size:=λ_ _ _ h=>h.2
 csize:=λk C w h=>D k C w h.1
 grow:=λk C w w' h hb=>⟨G k C w w' h.1 hb,d8 h.2 hb.size⟩
 wr:=λh=>by cases h
 turn:=λh=>by cases h
 gdt:=gdt
 gl:=λk C w h=>hG k C w h.1
def yQ5 (h:Func) (n:Nat):Exit->AState->Prop
 | .ret,S | .normal,S=>h.results= #[]/\S.ghost=n
 | _,_=>False
theorem z9D {go:Nat->Bool} {f:FuncId} {G:Func} {c:Code} {D:List DV} {xs:List (List DV)} (hf:P.funcs[f]? =some G) (Y:(G.name== "runtime.NumGoroutine")=false) (hb:G.body=some c) (hn:D.length+1<=G.ntmps) (O:G.ntmps<=1000000)
  (h:∀w0 I0 J Z hg hG l,z6N P (Env.iter (zAS P) w0 I0 J G.ntmps O Z hg hG) l xs go->Avc P none (Env.iter (zAS P) w0 I0 J G.ntmps O Z hg hG) c (yQ5 G xs.length) ⟨(GT,.gh 0)::(0,.d (.v (.func (.yield l) #[] #[])))::zNM D 1,[]⟩):zVN P f D xs go:=by
 refine⟨⟨G,hf,Y,by simp[hb]⟩,λw I vs C l J hI aj Z hg hG h0 hy=>?_⟩;have ar:z6N P (Env.iter (zAS P) w I J G.ntmps O Z hg hG) l xs go:=by
  intro k C w2 I2 ys x hx H ao hr;obtain⟨am,tmps,K,body,ah,T⟩:=hy k C w2 I2 ys x hx H.1 ao hr;refine⟨am,tmps,K,body,ah,T.mono ?_⟩
  rintro e w3 ⟨rfl,C',h1,h2,h3⟩
  exact⟨rfl,C',⟨h1,d8 H.2 h2.size⟩,h2,h3⟩
 refine gJ (n:=0) |>.1 (callsIn_of_wp_marks hf hb trivial ?_)
 have ac:vs.length=D.length:=aj.1;have ai:Sat (Env.iter (zAS P) w I J G.ntmps O Z hg hG) ⟨(GT,.gh 0)::(0,.d (.v (.func (.yield l) #[] #[])))::zNM D 1,[]⟩ {tmps:=(.func (.yield l) #[] #[]::vs).toArray++Array.replicate (G.ntmps-(Value.func (.yield l) #[] #[]::vs).toArray.size) undef,defers:=[]} w:=by
  refine⟨I,λ_=>undef,C,⟨λt=>?_,λ_=>trivial,λ_ _ _ _ h=>absurd rfl h,⟨h0,dA _⟩,λ_ _ h=>h,λb j h=>⟨(hI b j h).1,.inl h⟩,by simp[Env.iter];omega,DefOk.nil,λb j h=>(hI b j h).2,λ_ _ h=>absurd rfl h,λ_ _ h=>by cases h⟩⟩
  show Holds _ _ _ _ (look AV.top ((GT,.gh 0)::(0,.d (.v (.func (.yield l) #[] #[])))::zNM D 1) t);rw[kK];by_cases eg:GT=t
  ·simp only[eg,dG];trivial
  ·simp only[eg,cV]
   rw[kK];by_cases e0:0=t
   ·subst e0
    simp only[dG];have:((Value.func (.yield l) #[] #[]::vs).toArray++Array.replicate (G.ntmps-(Value.func (.yield l) #[] #[]::vs).toArray.size) undef).getD 0 undef= .func (.yield l) #[] #[]:=by
     simp[dF,Array.getElem?_append]
    rw[this];exact .v _
   ·simp only[e0,cV]
    rcases zYR D 1 t with ⟨bh,x,hx,hlk⟩ | hlk
    ·rw[hlk]
     have ht:t-1<vs.length:=by rw[ac];exact(cX.1 hx).1
     refine aj.2 (t-1) _ x ?_ hx;have e1:t=(t-1)+1:=by omega
     have:((Value.func (.yield l) #[] #[]::vs).toArray++Array.replicate (G.ntmps-(Value.func (.yield l) #[] #[]::vs).toArray.size) undef)[t]? =vs[t-1]?:=by
      rw[Array.getElem?_append_left (by simp;omega)]
      simp only[eX]
      conv=>lhs;rw[e1]
      simp
     simp only[dF,this];simp[ht]
    ·rw[hlk];trivial
 refine g7 (h w I J Z hg hG l ar _ w ai) ?_
 rintro en a w' ⟨S,hK,I1,ρ,C1,hs⟩
 have ab:(G.results= #[]/\S.ghost=xs.length)->LeavesInM (fen none) 0 P G a.tmps (λe w'=>e= .returned (.tuple #[])/\∃C',J xs.length C' w') a.defers .returning w':=by
  rintro⟨ag,aq⟩
  have H:=hs.frame;rw[aq] at H;have ad:a.defers= []:=by
   cases hd:a.defers with
   | nil=>rfl
   | cons q qs=>have:=hs.defers.wr (by rw[hd];simp);cases this
  rw[ad];exact⟨_,results_none ag _ _ _,rfl,C1,H.1⟩
 cases en with
 | normal=>exact ab hK
 | ret=>exact ab hK
 | _=>exact hK.elim
end
open Go.RowKit
theorem SatAt.weak {E:Env} {S S':AState} {a:Act} {w:World} {I:Im} {ρ:Nat->Value} {C:Nat->Prop} (h:SatAt E S a w I ρ C) (D:∀t,S'.get t= .top\/S.get t=S'.get t) (k:∀t,S'.blk t= .none\/S.blk t=S'.blk t) (H:E.fr S'.ghost C w):SatAt E S' a w I ρ C:=by
 have hb:∀i,S'.blk i≠ .none->S.blk i≠ .none:=λi hi=>by
  rcases k i with e | e;exact absurd e hi;rw[e];exact hi
 refine⟨λt=>?_,λi=>?_,λi O b T hi K=>h.dist i O b T (hb i hi) (hb O K),H,h.sub,h.old,h.size,h.defers,h.cI,λi b hi G=>h.cB i b (hb i hi) G,λi v Y hi=>h.nm i v Y (hb i hi)⟩;rcases D t with e | e
 rw[e];trivial;rw[<-e];exact h.tmps t;rcases k i with e | e
 rw[e];trivial;rw[<-e];exact h.blks i
theorem z9E {S:AState}:∀{l:List (Nat×AV)},Cov S l->∀t,look AV.top l t= .top\/S.get t=look AV.top l t
 | [],_,_=> .inl rfl
 | (i,x)::l,h,t=>by
  rw[kK];by_cases e:i=t;simp only[e,dG];exact .inr (e▸h.1);simp only[e,cV];exact z9E h.2 t
theorem zNQ {S:AState}:∀{l:List (Nat×Blk)},zPW S l->∀t,look Blk.none l t= .none\/S.blk t=look Blk.none l t
 | [],_,_=> .inl rfl
 | (i,x)::l,h,t=>by
  rw[kK];by_cases e:i=t;simp only[e,dG];exact .inr (e▸h.1);simp only[e,cV];exact zNQ h.2 t
def xM (T:List (Nat×Blk)) (ρ:Nat->Value) (b:Nat):Prop:= ∃id,look Blk.none T id≠ .none/\blockOf (ρ id)=some b
structure RndOk (E:Env) (w1:World) (Iall:Im) (C0:Nat->Prop):Prop where
 lt:∀b j,Iall b j->b<w1.heap.size
 sub:∀b j,E.I0 b j->Iall b j
 size:E.B<=w1.heap.size
def Env.rnd (E:Env) (w1:World) (Iall:Im) (X C0:Nat->Prop) (aa:List Nat) (aw:Nat->Value) (T:List Deferred) (l D:Nat) (lp:Loop) (G:RndOk E w1 Iall C0):Env where
 B:=w1.heap.size
 I0:=Iall
 n:=E.n
 fr:=λ_ C w=>E.fr 0 C0 w/\Same Iall w1 w/\Kept (λb=>X b\/b=l) w1 w/\(∀b,C b↔C0 b)/\w.heap[l]? =some (.loop lp)/\(l<w1.heap.size/\D<w1.heap.size/\l≠D)/\w.heap[D]? =some (.deferred (some []))/\DefOk E.B E.wrB C0 w T/\(∀d∈T,∀q,d.target= .collected q->q<w1.heap.size)
 wrB:=E.wrB
 nle:=E.nle
 mine:=λb=>(X b/\E.mine b)\/w1.heap.size<=b
 mineB:=λ_ h=> .inr h
 nm:=λid=>if aa.contains id then some (aw id) else E.nm id
 size:=λ_ _ _ h=>h.2.2.1.size
 csize:=λ_ C w h b hb=>E.csize _ _ _ h.1 b ((h.2.2.2.1 b).1 hb)
 grow:=λ_ C w w' h hb=>by
  obtain⟨h1,h2,H,h4,Y,h8,Z,h7,h9⟩:=h;refine⟨E.grow _ _ _ _ h1 hb,λb j hi=>?_,⟨d8 H.size hb.size,λb k hn=>(hb.block b (eU k H.size)).trans (H.blk b k hn)⟩,h4,(hb.block l (cQ.1 Y).1).trans Y,h8,(hb.block D (cQ.1 Z).1).trans Z,h7.keep λq O=>(hb.block q (cQ.1 O).1).trans O,h9⟩;exact(KeepB.of (hb.block b (eU (G.lt b j hi) H.size))).trans (h2 b j hi)
 wr:=λhE _ C w w' row h hg hr hs=>by
  obtain⟨h1,h2,H,h4,Y,h8,Z,h7,h9⟩:=h;have hm:∀b,row b->E.mine b/\¬C0 b/\∃o,w.heap[b]? =some o/\isData o=true:=λb hb=>by
   obtain⟨m1,m2,m3⟩:=hr b hb;refine⟨?_,λhc=>m2 ((h4 b).2 hc),m3⟩;rcases m1 with m1 | m1;exact m1.2;exact E.mineB b (d8 G.size m1)
  have K:∀q o,w.heap[q]? =some o->isData o=false->¬row q:=λq o O ho e=>by
   obtain⟨_,_,o',hc,hd⟩:=hr q e;rw[O] at hc;cases hc;rw[ho] at hd;cases hd
  refine⟨E.wr hE _ _ _ _ _ h1 hg hm (λb j hi=>hs b j (G.sub b j hi)),λb j hi=>(hs b j hi).trans (h2 b j hi),⟨d8 H.size hg.size,λb k hn=>?_⟩,h4,(hg.block l (cQ.1 Y).1 (K l _ Y rfl)).trans Y,h8,(hg.block D (cQ.1 Z).1 (K D _ Z rfl)).trans Z,?_,h9⟩;refine(hg.block b (eU k H.size) (λe=>?_)).trans (H.blk b k hn);rcases (hr b e).1 with m | m
  exact hn (.inl m.1);omega;exact h7.keep λq O=>(hg.block q (cQ.1 O).1 (K q _ O rfl)).trans O
 turn:=λhE _ C w w' q h O ht hs=>by
  obtain⟨h1,h2,H,h4,Y,h8,Z,h7,h9⟩:=h;refine⟨E.turn hE _ _ _ _ _ h1 (d8 G.size O) ht (λb j hi=>hs b j (G.sub b j hi)),λb j hi=>(hs b j hi).trans (h2 b j hi),⟨by rw[ht.size];exact H.size,λb k hn=>(ht.blk b (by omega)).trans (H.blk b k hn)⟩,h4,(ht.blk l (by omega)).trans Y,h8,(ht.blk D (by omega)).trans Z,?_,h9⟩
  refine⟨λdd hd=>?_,h7.dist,h7.wr⟩;obtain⟨u,e1,e2,e3,e4⟩:=h7.each dd hd;have:=h9 dd hd u e1;exact⟨u,e1,e2,e3,(ht.blk u (by omega)).trans e4⟩
 gdt:=E.gdt
 gl:=λ_ _ _ h=>(E.gl _ _ _ h.1).sub G.sub
theorem yE2 {w:World} {b j:Nat} (h:∀o,w.heap[b]? =some o->isData o=false):w.cell? ⟨b,j,none⟩=none:=by
 unfold World.cell?;cases hb:w.heap[b]? with
 | none=>rfl
 | some o=>
  cases o with
  | cells c e f=>have:=h _ hb;cases this
  | _=>rfl
theorem Turned.same {l:Nat} {w w':World} (h:Turned l w w') (I:Im):Same I w w':=by
 intro b j _;by_cases e:b=l;subst e;exact⟨by rw[yE2 h.no',yE2 h.no],λ_ _ q=>by have:=h.no _ q;cases this⟩
 exact KeepB.of (h.blk b e)
theorem SatAt.turn {E:Env} {S:AState} {a:Act} {w w':World} {I:Im} {ρ:Nat->Value} {C:Nat->Prop} (h:SatAt E S a w I ρ C) {l:Nat} (D:Turned l w w') (G:∀d∈a.defers,d.target≠ .collected l) (K:E.fr S.ghost C w'):SatAt E S a w' I ρ C:=by
 have T:=D.same I;refine⟨λt=>(h.tmps t).mono T (λ_ _ h=>h),λi=>?_,h.dist,K,h.sub,λb j hi=>⟨by rw[D.size];exact(h.old b j hi).1,(h.old b j hi).2⟩,h.size,⟨λdd k=>?_,h.defers.dist,h.defers.wr⟩,h.cI,h.cB,h.nm⟩
 cases Y:S.blk i with
 | none=>trivial
 | _=>
  rw[<-Y];refine(h.blks i).mono T (λb H=>D.blk b ?_)
  rintro rfl
  obtain⟨o,hc,G⟩:=h.cellBlk (by rw[Y];simp) H
  rw[D.no o hc] at G;cases G
 obtain⟨q,O,Z,e3,e4⟩:=h.defers.each dd k;exact⟨q,O,Z,e3,(D.blk q (λe=>G dd k (e▸O))).trans e4⟩
theorem SatAt.turn2 {E E':Env} {S:AState} {a:Act} {w w':World} {I:Im} {ρ:Nat->Value} {C:Nat->Prop} (h:SatAt E S a w I ρ C) (eB:E'.B=E.B) (eI:E'.I0=E.I0) (en:E'.n=E.n) (Y:E'.mine=E.mine) (H:E'.nm=E.nm) (ew:E'.wrB=E.wrB)
  {l:Nat} (D:Turned l w w') (G:∀d∈a.defers,d.target≠ .collected l) (O:E'.fr S.ghost C w'):SatAt E' S a w' I ρ C:=by
 have Z:=D.same I;refine⟨λt=>(h.tmps t).mono Z (λ_ _ h=>h),λi=>?_,h.dist,O,by rw[eI];exact h.sub,λb j hi=>⟨by rw[D.size];exact(h.old b j hi).1,by rw[eI,Y];exact(h.old b j hi).2⟩,by rw[en];exact h.size,⟨λdd k=>?_,h.defers.dist,by rw[ew];exact h.defers.wr⟩,h.cI,h.cB,by rw[H];exact h.nm⟩
 ·rw[Y]
  cases hx:S.blk i with
  | none=>trivial
  | _=>
   rw[<-hx];refine(h.blks i).mono Z (λb K=>D.blk b ?_)
   rintro rfl
   obtain⟨o,hc,G⟩:=h.cellBlk (by rw[hx];simp) K
   rw[D.no o hc] at G;cases G
 ·obtain⟨q,T,e2,e3,e4⟩:=h.defers.each dd k
  exact⟨q,T,by rw[eB];exact e2,e3,(D.blk q (λe=>G dd k (e▸T))).trans e4⟩
def zY3 (T:List (Nat×Blk)):Bool:=T.all λp=>match p.2 with
 | .row _ _ h _=>!h
 | .win _ _ _ _=>false
 | _=>true
theorem yBT {T:List (Nat×Blk)} (h:zY3 T=true) {id e size k:Nat} {cells:List DV} (hb:look Blk.none T id= .win e size k cells):False:=by
 induction T with
 | nil=>cases hb
 | cons p T G=>
  obtain⟨i,x⟩:=p;simp only[zY3,iq,dE] at h;rw[kK] at hb;by_cases D:i=id;simp only[D,dG] at hb;subst hb;simp at h;simp only[D,cV] at hb;exact G h.2 hb
theorem z6O {T:List (Nat×Blk)} (h:zY3 T=true) {id e size:Nat} {D:Bool} {cells:List DV} (hb:look Blk.none T id= .row e size D cells):D=false:=by
 induction T with
 | nil=>cases hb
 | cons p T G=>
  obtain⟨i,x⟩:=p;simp only[zY3,iq,dE] at h;rw[kK] at hb;by_cases k:i=id;simp only[k,dG] at hb;subst hb;simpa using h.1;simp only[k,cV] at hb;exact G h.2 hb
def zK6 (h:List Nat):List (Nat×AV)->Bool
 | []=>true
 | (_,.d _)::r=>zK6 h r
 | (_,.ptr id _)::r=>h.contains id&&zK6 h r
 | _=>false
theorem zNR {k:List Nat}:∀{l:List (Nat×AV)},zK6 k l=true->∀t,look AV.top l t= .top\/(∃y,look AV.top l t= .d y)\/∃id off,look AV.top l t= .ptr id off/\k.contains id=true
 | [],_,_=> .inl rfl
 | (i,x)::l,h,t=>by
  rw[kK];by_cases e:i=t;simp only[e,dG];cases x with
  | d y=>exact .inr (.inl ⟨y,rfl⟩)
  | ptr id off=>simp only[zK6,dE] at h;exact .inr (.inr ⟨id,off,rfl,h.1⟩)
  | _=>simp[zK6] at h
  simp only[e,cV];cases x with
  | d y=>exact zNR (l:=l) (by simpa[zK6] using h) t
  | ptr id off=>simp only[zK6,dE] at h;exact zNR h.2 t
  | _=>simp[zK6] at h
def yBU:List Tmp->List DV->List (Nat×AV)
 | p::h,x::xs=>yBU h xs++ [(p,.d x)]
 | _,_=>[]
theorem z3G {w:World} {I:Im} {ρ:Nat->Value} {n:Nat}:∀(H:List Tmp) (ys:List Value) (xs:List DV) (tm:Array Value) (l:List (Nat×AV)),H.length=xs.length->Reps w I ys xs->(∀p∈H,p<n)->tm.size=n->
  (∀t,Holds w I ρ (tm.getD t undef) (look AV.top l t))->
  ((H.zip ys).foldl (λ(tmps:Array Value) (q:Tmp×Value)=>tmps.setIfInBounds q.1 q.2) tm).size=n/\
  ∀t,Holds w I ρ (((H.zip ys).foldl (λ(tmps:Array Value) (q:Tmp×Value)=>tmps.setIfInBounds q.1 q.2) tm).getD t undef) (look AV.top (yBU H xs++l) t)
 | [],ys,xs,tm,l,G,k,K,D,h=>by
  have hx:xs= []:=cP (by simpa using G.symm);subst hx;have:ys= []:=cP k.1;subst this;exact⟨D,h⟩
 | p::H,ys,xs,tm,l,G,k,K,D,h=>by
  match xs,ys,G,k with
  | x::xs,y::ys,G,k=>
   have T:Reps w I ys xs:=⟨by have:=k.1;simpa using this,λj u z Z hz=>k.2 (j+1) u z (by simpa using Z) (by simpa using hz)⟩
   have:=z3G H ys xs (tm.setIfInBounds p y) ((p,.d x)::l) (by simpa using G) T (λq Y=>K q (by simp[Y])) (by simp[D]) (λt=>by
    rw[kK];have O:p<tm.size:=by rw[D];exact K p (by simp)
    by_cases e:p=t
    ·subst e
     simp only[dG];have:(tm.setIfInBounds p y).getD p undef=y:=by simp[dF,O]
     rw[this];exact k.2 0 y x rfl rfl
    ·simp only[e,cV]
     have:(tm.setIfInBounds p y).getD t undef=tm.getD t undef:=by
      rw[dF,dF,dU e]
     rw[this];exact h t)
   simp only[List.zip_cons_cons,iv,yBU,c8,iD];exact this
  | [],_,G,_=>simp at G
  | _::_,[],_,k=>have:=k.1;simp at this
def yQ6 (P:Program) (l:Nat) (h:Env) (body:Code) (k:Exit->AState->Prop):Exit->AState->Prop
 | .normal,S=>Avc P (some l) h body k S
 | _,_=>False
def yQ7 (h:List (Nat×Blk)):Exit->AState->Prop
 | .normal,S=>zPW S h
 | _,_=>False
def zPG:Exit->Nat->Nat->Bool
 | .normal,_,_=>false
 | _,n,k=>Nat.beq k n
def goF (h:Exit) (n k:Nat):Bool:=!zPG h n (k+1)
theorem yJV {D:Exit} {n k:Nat} (h:k<n):zPG D n k=false:=by
 have:Nat.beq k n=false:=by
  cases G:Nat.beq k n with
  | false=>rfl
  | true=>have:=iE G;omega
 cases D<;>first | rfl | exact this
def yBV:Exit->Option Code
 | .ret=>some .ret
 | .exit id=>some (.exit id)
 | _=>none
def z6P (h:Exit) (n k:Nat) (D:List (Nat×Blk)) (e:Exit) (S:AState):Prop:=cond (goF h n k) (yQ7 D e S) (e=h/\zPW S D)
theorem zPY (ac:Exit) {P:Program} {E:Env} {S:AState} {g:Operand} {ps:List Tmp} {assign body:Code} {f:FuncId} {an:List DV} {xs:List (List DV)} {K:Exit->AState->Prop}
    (keep:List (Nat×AV)) (Y:List Nat) (T:Nat->List (Nat×Blk)) (hg:S.ev g= .d (.fn f an)) (bl:ac= .normal\/((yBV ac).isSome=true/\xs.isEmpty=false)) (fw:zVN P f an xs (goF ac xs.length)) (hE:E.wrB=true) (cq:∀k k' C w,E.fr k C w->E.fr k' C w)
    (ct:Cov S keep) (fl:zPW S (T 0)) (gc:zK6 Y keep=true) (ef:∀k,zY3 (T k)=true) (dn:∀k id,Y.contains id=true->look Blk.none (T k) id≠ .none) (gj:∀id,Y.contains id=true->E.nm id=none)
    (gn:∀x∈xs,ps.length=x.length) (gm:∀p∈ps,p<E.n)
    (round:∀w1 Iall X C0 ej ch l D gt gu be k x,xs[k]? =some x->
      Avc P (some l) (Env.rnd E w1 Iall X C0 Y ej ch l D gt be) assign (yQ6 P l (Env.rnd E w1 Iall X C0 Y ej ch l D gu be) body (z6P ac xs.length k (T (k+1)))) ⟨yBU ps x++keep,T k⟩)
    (hK:K ac ⟨keep,T xs.length⟩) (hG:E.gdt=zAS P:=by rfl):Avc P none E (.rangeFunc g ps.toArray assign body) K S:=by
  rintro a w ⟨I,ρ,C0,hs⟩
  obtain⟨⟨dh,fv,cb,bz⟩,cr⟩:=fw;have dx:=hs.ev g;rw[hg] at dx;have ck:Rep w I (a.eval g) (.fn f an):=dx;generalize gs:a.eval g=vg at ck;cases ck with
  | fn f bx an fq fp=>
  refine wpIn_rangeFunc λfn _=>?_
  let D:=w.heap.size
  let l:=w.heap.size+1
  let G:Loop:={state:= .ready,pending:=none,fn,tmps:=a.tmps,params:=ps.toArray,assign,body,defers:=D}
  let w1:=(w.alloc (.deferred (some []))).alloc (.loop G)
  let ap:Loop:={G with state:= .done,pending:=yBV ac}
  let Z:Nat->Loop:=λk=>cond (zPG ac xs.length k) ap G
  have dz:∀k,k<xs.length->Z k=G:=λk hk=>by
    simp only[Z,yJV hk,cM]
  have fy:Z 0=G:=by
    rcases bl with e | ⟨_,e⟩
    · simp only[Z,e,zPG,cM]
    · exact dz 0 (e9.2 λh=>by rw[h] at e;cases e)
  refine⟨l,[{target:= .collected D,args:= #[]}],w1,{target:= .fn (.func f) bx.toArray,args:= #[.func (.yield l) #[] #[]]},w1,f,(.func (.yield l) #[] #[]::bx).toArray,w1,?_,?_,λ_ _=>trivial,?_,by simp[fen,Fence.wide],?_⟩
  · simp[Instr.enterLoop,w1,l,D,G,fen]
  · have:(resolve a.eval (rangeCall g l) 0)=Deferred.ofValue (a.eval g) #[.func (.yield l) #[] #[]]:=by
      simp[resolve,rangeCall,Act.eval]
    rw[this,gs];simp[Deferred.ofValue]
  · have gh:¬dh.name= "runtime.NumGoroutine" :=by simpa using cb
    have gi:¬dh.body=none:=by intro e;simp[e] at bz
    simp[invoke,callFunc,fv,gh,gi]
  show CallsIn Fence.wide 0 P f _ w1 _;have hj:w1.heap.size=w.heap.size+2:=by simp[w1]
  have dj:Below w.heap.size w w1:=((Below.refl _ _).alloc (dA _) _).alloc (by simp) _;have ge:w1.heap[l]? =some (.loop G):=by
    have:=gV (w.alloc (.deferred (some []))) (.loop G);simpa[w1,l] using this
  have fe:w1.heap[D]? =some (.deferred (some [])):=by
    have h1:w1.heap[D]? =(w.alloc (.deferred (some []))).heap[D]?:=Below.heap_alloc _ _ _ (by simp[D]);rw[h1];exact gV w _
  let S0:Nat->AState:=λk=>⟨keep,T k⟩
  have dq:Reps w I bx an:=⟨fq,fp⟩;have bj:∀dd∈a.defers,∀q,dd.target= .collected q->q<w.heap.size:=λdd hd q hq=>by
    obtain⟨u,e1,_,_,e4⟩:=hs.defers.each dd hd;rw[hq] at e1;cases e1;exact(cQ.1 e4).1
  let J:Nat->(Nat->Prop)->World->Prop:=λk C w'=> ∃I' H,SatAt E (S0 k) a w' I' H C0/\(∀b j,I b j->I' b j)/\w1.heap.size<=w'.heap.size/\w'.heap[l]? =some (.loop (Z k))/\w'.heap[D]? =some (.deferred (some []))/\∀b,C b↔((C0 b\/xM (T k) H b)\/b=l)
  have fj:∀k C w',J k C w'->∀b,C b->b<w'.heap.size:=by
    rintro k C w' ⟨I',H,h1,_,_,h4,_,h6⟩ b hb
    rcases (h6 b).1 hb with (hc | ⟨id,h7,h8⟩) | rfl
    · exact E.csize _ _ _ h1.frame b hc
    · exact(h1.blt id b h7 h8).2
    · exact(cQ.1 h4).1
  have fk:∀k C w' cz,J k C w'->Below w'.heap.size w' cz->J k C cz:=by
    rintro k C w' cz ⟨I',H,h1,h2,h3,h4,h5,h6⟩ hb
    exact⟨I',H,h1.grow hb,h2,d8 h3 hb.size,(hb.block l (cQ.1 h4).1).trans h4,(hb.block D (cQ.1 h5).1).trans h5,h6⟩
  have bp:SatAt E (S0 0) a w1 I ρ C0:=(hs.weak (S':=S0 0) (z9E ct) (zNQ fl) (cq _ _ _ _ hs.frame)).grow dj;have cn:∀k w' (I':Im) H,SatAt E (S0 k) a w' I' H C0->∀b j,I' b j->¬xM (T k) H b:=by
    rintro k w' I' H h b j hi ⟨id,h1,h2⟩
    have hk:=h.blks id;have bh:(S0 k).blk id=look Blk.none (T k) id:=rfl;cases hx:look Blk.none (T k) id with
    | none=>exact h1 hx
    | row e size sh cells=>
      rw[bh,hx] at hk;obtain⟨hp,n,ys,hl,ed,_,_,fh⟩:=hk;have gr:=z6O (ef k) hx;subst gr;have gk:(H id).ownBlock=some b:=by
        rcases ed.2 with ⟨cx,_⟩ | ⟨gb,hw,hy,cx,_⟩
        · rw[cx] at h2;cases h2
        · rw[cx] at h2 ⊢;exact h2
      have:=(fh b j gk hi).1;cases this
    | box e cells=>
      rw[bh,hx] at hk;obtain⟨b',arr,bt,_,_,_,_,bk⟩:=hk;rw[bt] at h2;cases h2;exact bk j hi
    | map es=>
      rw[bh,hx] at hk;obtain⟨b',ents,cp,bt,_,_,_,bk,_⟩:=hk;rw[bt] at h2;cases h2;exact bk j hi
    | it es q=>
      rw[bh,hx] at hk;obtain⟨b',bm,ents,cp,hu,bt,_,_,bk,_⟩:=hk;rw[bt] at h2;cases h2;exact bk j hi
    | win e size k' cells=>exact yBT (ef k) hx
  refine gJ.2 ((cr w1 I bx (λb=>(C0 b\/xM (T 0) ρ b)\/b=l) l J (λb j hi=>⟨by have:=(hs.old b j hi).1;omega,λhc=>?_⟩) (dq.mono (λb j hi=>KeepB.of (dj.block b (hs.old b j hi).1)) (λ_ _ h=>h)) fj fk (λk C w' ⟨I',H,h1,h2,_⟩ g' zs dw j=>⟨((hG▸h1.gl) g' zs dw j).1,((hG▸hs.gl) g' zs dw j).2⟩) ⟨I,ρ,bp,λ_ _ h=>h,dA _,(by rw[fy];exact ge),fe,λ_=>Iff.rfl⟩ ?_).mono ?_)
  · rcases hc with (hc | hc) | hc
    · exact hs.cI b j hi hc
    · exact cn 0 w1 I ρ bp b j hi hc
    · have:=(hs.old b j hi).1
      omega
  · -- a round
    rintro k C w' I1 ys x hx ⟨I',H,h1,h2,h3,h4,h5,h6⟩ fg bo
    have cm:ps.length=x.length:=gn x (eN hx);rw[dz k (cX.1 hx).1] at h4;have eh:ys.length=ps.length:=by rw[bo.1,cm]
    refine⟨fn,(ps.toArray.zip ys.toArray).foldl (λtmps (q:Tmp×Value)=>tmps.setIfInBounds q.1 q.2) a.tmps,assign,body,?_,?_⟩
    · have ik:¬ys.toArray.size≠ps.toArray.size:=by simpa using eh
      simp[Instr.yield,Instr.getLoop,getObj,Sem.run,h4,G,eh]
    let Iall:Im:=λb j=>I' b j\/I1 b j
    let X:Nat->Prop:=xM (T k) H
    have ah:∀b j,Iall b j->b<w'.heap.size/\¬C0 b/\¬X b/\(E.I0 b j\/E.mine b):=by
      rintro b j (hi | hi)
      · exact⟨(h1.old b j hi).1,h1.cI b j hi,cn k w' I' H h1 b j hi,(h1.old b j hi).2⟩
      · obtain⟨e1,e2,e3⟩:=fg b j hi
        refine⟨e1,λhc=>e2 ((h6 b).2 (.inl (.inl hc))),λhc=>e2 ((h6 b).2 (.inl (.inr hc))),?_⟩;rcases e3 with e3 | e3
        · exact(hs.old b j e3).2
        · exact .inr (E.mineB b (by have:=E.size _ _ _ hs.frame;omega))
    have be:RndOk E w' Iall C0:=⟨λb j hi=>(ah b j hi).1,λb j hi=> .inl (h1.sub b j hi),E.size _ _ _ h1.frame⟩;have gf:l<w'.heap.size/\D<w'.heap.size/\l≠D:=⟨by omega,by omega,by simp[l,D]⟩;have dr:∀dd∈a.defers,∀q,dd.target= .collected q->q<w'.heap.size:=λdd hd q hq=>by have:=bj dd hd q hq;omega
    let ax:Loop:={G with state:= .busy}
    let E1:=Env.rnd E w' Iall X C0 Y H a.defers l D G be
    let E2:=Env.rnd E w' Iall X C0 Y H a.defers l D ax be
    have bq:∀b j,I' b j->Iall b j:=λ_ _ h=> .inl h;have ee:=z3G (w:=w') (I:=Iall) (ρ:=H) (n:=E.n) ps ys x a.tmps keep cm (bo.mono (k7 I1 w') (λ_ _ h=> .inr h)) gm h1.size (λt=>(h1.tmps t).mono (k7 I' w') bq);have ei:(ps.toArray.zip ys.toArray).foldl (λtmps (q:Tmp×Value)=>tmps.setIfInBounds q.1 q.2) a.tmps=(ps.zip ys).foldl (λtmps (q:Tmp×Value)=>tmps.setIfInBounds q.1 q.2) a.tmps:=by
      rw[<-Array.foldl_toList];simp
    have cd:Sat E1 ⟨yBU ps x++keep,T k⟩ {tmps:=(ps.toArray.zip ys.toArray).foldl (λtmps (q:Tmp×Value)=>tmps.setIfInBounds q.1 q.2) a.tmps,defers:=[]} w':=by
      rw[ei];refine⟨Iall,H,C0,⟨ee.2,λi=>?_,h1.dist,⟨cq _ _ _ _ h1.frame,k7 _ _,⟨dA _,λ_ _ _=>rfl⟩,λ_=>Iff.rfl,h4,gf,h5,h1.defers,dr⟩,λ_ _ h=>h,λb j hi=>⟨(ah b j hi).1,.inl hi⟩,ee.1,DefOk.nil,λb j hi=>(ah b j hi).2.1,h1.cB,λid v hv hi=>?_⟩⟩
      · have ga:=h1.blks i
        have bh:(S0 k).blk i=look Blk.none (T k) i:=rfl;show BlkOk w' Iall H E1.mine i (look Blk.none (T k) i);have dg:∀b j,look Blk.none (T k) i≠ .none->blockOf (H i)=some b->¬Iall b j:=λb j ak bd hi=>(ah b j hi).2.2.1 ⟨i,ak,bd⟩;have cv:∀b,look Blk.none (T k) i≠ .none->blockOf (H i)=some b->E.mine b->E1.mine b:=λb ak bd _=> .inl ⟨⟨i,ak,bd⟩,(h1.blt i b ak bd).1⟩;have ea:BlkOk w' I' H E.mine i (look Blk.none (T k) i):=ga;exact(ea.mineM cv).widenI bq λb j ak bd hi=>absurd hi (dg b j ak bd)
      · simp only[E1,Env.rnd] at hv
        by_cases e:Y.contains id=true
        · rw[dI e] at hv;cases hv;rfl
        · rw[dK e] at hv;exact h1.nm id v hv hi
    refine roundIn_of_wpIn trivial ?_;have dl:=round w' Iall X C0 H a.defers l D G ax be k x hx _ w' cd;refine g7 dl ?_
    rintro e a2 w2 ⟨S2,dk,I2,ek,C2,cy⟩
    cases e with
    | normal=>
      have fs:=cy.frame;obtain⟨f1,f2,f3,f4,f5,f6,f7,f8,f9⟩:=fs
      let w3:World:={w2 with heap:=w2.heap.setIfInBounds l (.loop ax)}
      have ca:l<w2.heap.size:=(cQ.1 f5).1;have ag:Turned l w2 w3:=⟨rfl,rfl,rfl,by simp[w3],λq hq=>dU (λe=>hq e.symm),λo hc=>(by rw[f5] at hc;cases hc;rfl),λo hc=>(by simp[w3,ca] at hc;subst hc;rfl)⟩
      refine⟨w3,?_,?_⟩
      · simp[Instr.beginRound,Instr.getLoop,getObj,setObj,Sem.run,f5,G,w3,ax]
      · have ft:E2.fr S2.ghost C2 w3:=by
          refine⟨E.turn hE _ _ _ _ _ f1 (by have:=E.size _ _ _ hs.frame;omega) ag (ag.same _),λb j hi=>(ag.same Iall b j hi).trans (f2 b j hi),⟨by rw[ag.size];exact f3.size,λb cu hn=>(ag.blk b (λe=>hn (.inr e))).trans (f3.blk b cu hn)⟩,f4,by simp[w3,ca],f6,(ag.blk D (λe=>f6.2.2 e.symm)).trans f7,?_,f9⟩
          refine⟨λdd hd=>?_,f8.dist,f8.wr⟩;obtain⟨u,e1,e2,e3,e4⟩:=f8.each dd hd;have:=bj dd hd u e1;exact⟨u,e1,e2,e3,(ag.blk u (by omega)).trans e4⟩
        have gp:SatAt E2 S2 a2 w3 I2 ek C2:=by
          have fr:∀d∈a2.defers,d.target≠ .collected l:=λdd hd e=>by
            obtain⟨u,e1,e2,_,_⟩:=cy.defers.each dd hd;rw[e] at e1;cases e1;have:w'.heap.size<=l:=e2;omega
          exact cy.turn2 (E':=E2) rfl rfl rfl rfl rfl rfl ag fr ft
        refine g7 (dk a2 w3 ⟨I2,ek,C2,gp⟩) ?_
        rintro e a4 w4 ⟨S4,ai,I4,bv,C4,O⟩
        have dp:zPW S4 (T (k+1)):=by
          unfold z6P at ai;cases aj:goF ac xs.length k with
          | true=>
            rw[aj] at ai;cases e with
            | normal=>exact ai
            | _=>exact ai.elim
          | false=>rw[aj] at ai;exact ai.2
        obtain⟨p1,p2,p3,p4,p5,p6,p7,p8,p9⟩:=O.frame
        let w5:World:={w4 with heap:=w4.heap.setIfInBounds l (.loop (Z (k+1)))}
        have ec:l<w4.heap.size:=(cQ.1 p5).1;have ab:Turned l w4 w5:=⟨rfl,rfl,rfl,by simp[w5],λq hq=>dU (λe=>hq e.symm),λo hc=>(by rw[p5] at hc;cases hc;rfl),λo hc=>(by simp[w5,ec] at hc;subst hc;rfl)⟩
        have du:E.fr 0 C0 w5:=E.turn hE _ _ _ _ _ p1 (by have:=E.size _ _ _ hs.frame;omega) ab (ab.same _)
        have cc:Same Iall w' w5:=λb j hi=>(ab.same Iall b j hi).trans (p2 b j hi);have aw:∀b j,Iall b j->I4 b j:=O.sub;have aa:∀i,look Blk.none (T (k+1)) i≠ .none->S4.blk i=look Blk.none (T (k+1)) i:=λi hi=>by
          rcases zNQ dp i with e | e
          · exact absurd e hi
          · exact e
        have gq:SatAt E (S0 (k+1)) a w5 I4 bv C0:=by
          refine⟨λt=>?_,λi=>?_,λi i' b hn hi dy=>O.dist i i' b hn (by rw[aa i hi];exact hi) (by rw[aa i' dy];exact dy),cq _ _ _ _ du,λb j hi=>aw b j (.inl (h1.sub b j hi)),λb j hi=>⟨by rw[ab.size];exact(O.old b j hi).1,?_⟩,h1.size,?_,λb j hi hc=>O.cI b j hi ((p4 b).2 hc),λi b hi hb hc=>O.cB i b (by rw[aa i hi];exact hi) hb ((p4 b).2 hc),λi v hv hi=>?_⟩
          · have ba:Holds w' I' H (a.tmps.getD t undef) (look AV.top keep t):=h1.tmps t
            show Holds w5 I4 bv (a.tmps.getD t undef) (look AV.top keep t);rcases zNR gc t with e | ⟨y,e⟩ | ⟨id,off,e,bi⟩
            · rw[e];trivial
            · rw[e] at ba ⊢
              exact Rep.mono ba (λb j hi=>cc b j (.inl hi)) (λb j hi=>aw b j (.inl hi))
            · rw[e] at ba ⊢
              obtain⟨b,fm,fo⟩:=ba;refine⟨b,?_,fo⟩;have:=O.nm id (H id) (by show (if Y.contains id then some (H id) else E.nm id)=_;rw[dI bi]) (by rw[aa id (dn (k+1) id bi)];exact dn (k+1) id bi)
              rw[this];exact fm
          · show BlkOk w5 I4 bv E.mine i (look Blk.none (T (k+1)) i)
            cases eg:look Blk.none (T (k+1)) i with
            | none=>trivial
            | _=>
              have ak:look Blk.none (T (k+1)) i≠ .none:=by rw[eg];simp
              rw[<-eg];have dm:=O.blks i;rw[aa i ak] at dm;have gg:=dm.mono (ab.same I4) (λb hb=>ab.blk b (λe=>by
                obtain⟨o,hc,hd⟩:=O.cellBlk (id:=i) (by rw[aa i ak];exact ak) hb
                rw[e,p5] at hc;cases hc;cases hd))
              refine gg.mineM λb _ _ m=>?_;rcases m with m | m
              · exact m.2
              · exact E.mineB b (by have:=E.size _ _ _ h1.frame;omega)
          · rcases (O.old b j hi).2 with m | m | m
            · exact(ah b j m).2.2.2
            · exact .inr m.2
            · exact .inr (E.mineB b (by have:=E.size _ _ _ h1.frame;omega))
          · refine⟨λdd hd=>?_,p8.dist,p8.wr⟩
            obtain⟨u,e1,e2,e3,e4⟩:=p8.each dd hd;have:=bj dd hd u e1;exact⟨u,e1,e2,e3,(ab.blk u (by omega)).trans e4⟩
          · by_cases e:Y.contains i=true
            · rw[gj i e] at hv;cases hv
            · exact O.nm i v (by show (if Y.contains i then some (H i) else E.nm i)=_;rw[dK e];exact hv) (by rw[aa i hi];exact hi)
        have bg:∃C',J (k+1) C' w5/\Kept C w' w5/\∀b,C' b->C b\/w'.heap.size<=b:=by
         refine⟨(λb=>(C0 b\/xM (T (k+1)) bv b)\/b=l),⟨I4,bv,gq,λb j hi=>aw b j (.inl (h2 b j hi)),?_,by simp[w5,ec],(ab.blk D (by simp[D,l])).trans p7,λ_=>Iff.rfl⟩,⟨?_,λb cu hn=>?_⟩,?_⟩
         · rw[ab.size];exact d8 h3 p3.size
         · rw[ab.size];exact p3.size
         · by_cases e:b=l
           · exact absurd ((h6 b).2 (.inr e)) hn
           · refine(ab.blk b e).trans (p3.blk b cu ?_)
             rintro (hc | hc)
             · exact hn ((h6 b).2 (.inl (.inr hc)))
             · exact e hc
         · rintro b ((hc | ⟨id,hi,hb⟩) | rfl)
           · exact .inl ((h6 b).2 (.inl (.inl hc)))
           · rcases (O.blt id b (by rw[aa id hi];exact hi) hb).1 with m | m
             · exact .inl ((h6 b).2 (.inl (.inr m.1)))
             · exact .inr m
           · exact .inl ((h6 _).2 (.inr rfl))
        unfold z6P at ai;cases aj:goF ac xs.length k with
        | true=>
          rw[aj] at ai;have ao:zPG ac xs.length (k+1)=false:=by unfold goF at aj;cases h:zPG ac xs.length (k+1) with | false=>rfl | true=>rw[h] at aj;cases aj
          cases e with
          | normal=>exact⟨.bool true,w5,by simp[Instr.endRound,Instr.getLoop,getObj,setObj,Sem.run,p5,ax,G,w5,Z,ao],rfl,bg⟩
          | _=>exact ai.elim
        | false=>
          rw[aj] at ai;have ao:zPG ac xs.length (k+1)=true:=by unfold goF at aj;cases h:zPG ac xs.length (k+1) with | true=>rfl | false=>rw[h] at aj;cases aj
          obtain⟨rfl,_⟩:=ai;rcases bl with h0 | ⟨h0,_⟩
          · subst h0;cases ao
          · cases e with
            | ret=>exact⟨.bool false,w5,by simp[Instr.endRound,Instr.getLoop,getObj,setObj,Sem.run,p5,ax,G,w5,Z,ao,ap,yBV],rfl,bg⟩
            | exit id=>exact⟨.bool false,w5,by simp[Instr.endRound,Instr.getLoop,getObj,setObj,Sem.run,p5,ax,G,w5,Z,ao,ap,yBV],rfl,bg⟩
            | _=>cases h0
    | _=>exact dk.elim
  · -- behind the loop
    rintro e w' ⟨rfl,C',I',H,h1,h2,h3,h4,h5,h6⟩
    let w4:World:={w' with heap:=w'.heap.setIfInBounds l (.loop {Z xs.length with state:= .exhausted})}
    have ca:l<w'.heap.size:=(cQ.1 h4).1;have ht:Turned l w' w4:=⟨rfl,rfl,rfl,by simp[w4],λq hq=>dU (λe=>hq e.symm),λo hc=>(by rw[h4] at hc;cases hc;rfl),λo hc=>(by simp[w4,ca] at hc;subst hc;rfl)⟩
    have bu:yN9 E K ac {a with defers:={target:= .collected D,args:= #[]}::a.defers} w4:=by
      have dt:=E.turn hE _ _ _ _ _ h1.frame (by have:=E.size _ _ _ hs.frame;omega) ht (ht.same _)
      have O:=h1.turn ht (λdd hd e=>by have:=bj dd hd l e;omega) dt
      refine⟨S0 xs.length,hK,I',H,C0,⟨O.tmps,O.blks,O.dist,O.frame,O.sub,O.old,O.size,⟨?_,?_,λ_=>hE⟩,O.cI,O.cB,O.nm⟩⟩
      · intro dd hd
        rcases dL.1 hd with rfl | hd
        · refine⟨D,rfl,by have:=E.size _ _ _ hs.frame;omega,λhc=>?_,(ht.blk D (by simp[D,l])).trans h5⟩
          have:=E.csize _ _ _ hs.frame D hc;omega
        · exact O.defers.each dd hd
      · refine fE.2 ⟨λdd hd q hq go=>?_,O.defers.dist⟩
        cases hq;have:=bj dd hd D go;omega
    rcases bl with h0 | ⟨h0,_⟩
    · subst h0
      exact⟨none,w4,by simp[Instr.endLoop,Instr.getLoop,getObj,setObj,Sem.run,h4,G,w4,Z,zPG],bu⟩
    · have ao:zPG ac xs.length xs.length=true:=by
        cases ac with
        | normal=>cases h0
        | _=>exact Nat.beq_refl _
      cases ac with
      | ret=>exact⟨some .ret,w4,by simp[Instr.endLoop,Instr.getLoop,getObj,setObj,Sem.run,h4,G,w4,Z,ao,ap,yBV],wpIn_ret bu⟩
      | exit id=>exact⟨some (.exit id),w4,by simp[Instr.endLoop,Instr.getLoop,getObj,setObj,Sem.run,h4,G,w4,Z,ao,ap,yBV],wpIn_exit bu⟩
      | _=>cases h0
theorem zY4 {P:Program} {E:Env} {S:AState} {g:Operand} {ps:List Tmp} {G body:Code} {f:FuncId} {H:List DV} {xs:List (List DV)} {K:Exit->AState->Prop}
  (keep:List (Nat×AV)) (h:List Nat) (T:Nat->List (Nat×Blk)) (hg:S.ev g= .d (.fn f H)) (ah:zVN P f H xs) (hE:E.wrB=true) (ag:∀k k' C w,E.fr k C w->E.fr k' C w)
  (Y:Cov S keep) (ac:zPW S (T 0)) (ai:zK6 h keep=true) (am:∀k,zY3 (T k)=true) (ad:∀k id,h.contains id=true->look Blk.none (T k) id≠ .none) (aj:∀id,h.contains id=true->E.nm id=none)
  (al:∀x∈xs,ps.length=x.length) (ak:∀p∈ps,p<E.n)
  (round:∀w1 Iall X C0 aa O l D an ao Z k x,xs[k]? =some x->
   Avc P (some l) (Env.rnd E w1 Iall X C0 h aa O l D an Z) G (yQ6 P l (Env.rnd E w1 Iall X C0 h aa O l D ao Z) body (yQ7 (T (k+1)))) ⟨yBU ps x++keep,T k⟩)
  (hK:K .normal ⟨keep,T xs.length⟩) (hG:E.gdt=zAS P:=by rfl):Avc P none E (.rangeFunc g ps.toArray G body) K S:=
 zPY .normal keep h T hg (.inl rfl) ah hE ag Y ac ai am ad aj al ak round hK hG
open Go.RowKit
section
variable {P:Program} {r:Option Nat} {E:Env} {S:AState} {d:Nat} {ty:TypeId} {pos:String} {af:Array Edge} {g:Option (Nat×Bool)}
theorem SatAt.rebox {a:Act} {w:World} {I:Im} {ρ:Nat->Value} {C:Nat->Prop} (h:SatAt E S a w I ρ C) {bid eb:Nat} {cells k:List AV} (hb:S.blk bid= .box eb cells) (hc:∀xs:List Value,Pw (Holds w I ρ) xs cells->Pw (Holds w I ρ) xs k):
  SatAt E (S.setBlk bid (.box eb k)) a w I ρ C:=by
 have H:S.blk bid≠ .none:=by rw[hb];simp
 have key:∀i,(S.setBlk bid (.box eb k)).blk i≠ .none->S.blk i≠ .none:=by
  intro i hi;rw[yO] at hi;by_cases e:bid=i
  ·subst e;exact H
  ·simpa[e] using hi
 refine⟨h.tmps,λi=>?_,λi Y b hn hi G=>h.dist i Y b hn (key i hi) (key Y G),h.frame,h.sub,h.old,h.size,h.defers,h.cI,λi b hi D=>h.cB i b (key i hi) D,λi v hv hi=>h.nm i v hv (key i hi)⟩;rw[yO];by_cases e:bid=i
 ·subst e
  simp only[dG];have T:=h.blks bid;rw[hb] at T;obtain⟨b,arr,O,hM,hh,Z,K,hI⟩:=T;exact⟨b,arr,O,hM,hh,Z,hc _ K,hI⟩
 ·simp only[e,cV];exact h.blks i
theorem Pw.set_right {O D:Type} {R: O->D->Prop} {xs:List O} {ys:List D} (h:Pw R xs ys) {off:Nat} {y K: D} (Y:ys[off]? =some y) (T:∀x,R x y->R x K):Pw R xs (ys.set off K):=by refine⟨by simp[h.1],λj u v H k=>?_⟩;rw[iB] at k;by_cases e:off=j;subst e;by_cases G:off<ys.length;simp[G] at k;subst k;exact T u (h.2 off u y H Y);simp[G] at k;simp[e] at k;exact h.2 j u v H k
theorem zDD {bid eb off:Nat} {cells:List AV} (k e size:Nat) (Y:0<size) (D:k≠bid) (G:E.nm k=none) (hb:S.blk bid= .box eb cells) (T:(cells.map (zFJ k))[off]? =some (.d (.v (.slice none 0 0)))):
  zGM E S (((S.kill k).setBlk k (.row e size false [])).setBlk bid (.box eb ((cells.map (zFJ k)).set off (.row k)))):=by
 rintro a w ⟨I,ρ,C,h⟩
 have O:=h.update (iu w none) (id:=k) (u:= .slice none 0 0) (x:= .row e size false []) (by simp) (k7 I w) (by simp[blockOf])
  ⟨⟨Y,by simp[upd,Value.ownBlock]⟩,0,[],by simp,by simp only[upd,dG];exact ia w _ e size,by simp,Pw.nil,by simp[upd,Value.ownBlock]⟩ (.inl rfl) G
 refine⟨I,_,C,O.rebox (eb:=eb) (cells:=cells.map (zFJ k)) ?_ λxs Z=>Z.set_right T λx H=>?_⟩
 ·rw[yO,dK D,zJB,hb];rfl
 ·have K:Rep w I x (.v (.slice none 0 0)):=H
  cases K;simp[Holds,upd]
theorem zF5 {bid eb off k e size:Nat} {sh:Bool} {cells:List AV} {O:List DV} (hb:S.blk bid= .box eb cells) (hc:cells[off]? =some (.row k)) (G:S.blk k= .row e size sh O):
  zGM E S ((S.setBlk k (.row e size true O)).setBlk bid (.box eb (cells.set off (.d (.sl size O))))):=by
 rintro a w ⟨I,ρ,C,h⟩
 have D:k≠bid:=by rintro rfl;rw[hb] at G;cases G
 obtain⟨T,h1,Y,Z⟩:=h.shareRow G;refine⟨T,ρ,C,Y.rebox (eb:=eb) (cells:=cells) (by rw[yO,dK D];exact hb) λxs hx=>hx.set_right hc λx H=>?_⟩
 have K:x= ρ k:=H;rw[K];exact Z
theorem zBC {t D e size:Nat} {sh:Bool} {G:List DV} (O:t<E.n) (Y:S.get t= .row D) (T:S.blk D= .row e size sh G):zGM E S ((S.setBlk D (.row e size true G)).put t (.d (.sl size G))):=by
 rintro a w ⟨I,ρ,C,h⟩
 obtain⟨H,h1,k,K⟩:=h.shareRow T;refine⟨H,ρ,C,⟨λu=>?_,k.blks,k.dist,by rw[zA0 _ _ O];exact k.frame,k.sub,k.old,k.size,k.defers,k.cI,k.cB,k.nm⟩⟩
 rw[uJ];by_cases e:t=u;subst e;simp only[dG];have:=h.tmps t;rw[Y] at this;have Z:a.tmps.getD t undef= ρ D:=this;rw[Z];exact K;simp only[e,cV];exact k.tmps u
theorem zGV {t:Nat} (size:Nat) (D:t<E.n) (G:S.get t= .d (.v (.slice none 0 0))):zGM E S (S.put t (.d (.sl size []))):=by
 rintro a w ⟨I,ρ,C,h⟩
 refine⟨I,ρ,C,⟨λu=>?_,h.blks,h.dist,by rw[zA0 _ _ D];exact h.frame,h.sub,h.old,h.size,h.defers,h.cI,h.cB,h.nm⟩⟩
 rw[uJ];by_cases e:t=u;subst e;simp only[dG];have:=h.tmps t;rw[G] at this;generalize a.tmps.getD t undef=v at this ⊢;have k:Rep w I v (.v (.slice none 0 0)):=this;cases k;exact .nil _ _ _;simp only[e,cV];exact h.tmps u
theorem AOp.int {o:Oper} {k:IntKind} {a b:Int} (h:AOp P r E S o d (.d (.v (.int k a)))) (e:a=b):AOp P r E S o d (.d (.v (.int k b))):=e▸h
theorem AOp.data {o:Oper} {a b:DV} (h:AOp P r E S o d (.d a)) (e:a=b):AOp P r E S o d (.d b):=e▸h
theorem AOp.bool {o:Oper} {a b:Bool} (h:AOp P r E S o d (.d (.v (.bool a)))) (e:a=b):AOp P r E S o d (.d (.v (.bool b))):=e▸h
theorem zHG {t u:Nat} {x y:DV} (h:S.dv (S.get t).un=some x) (k:S.dv (S.get u).un=some y):RetS P S [.tmp t,.tmp u] [x,y]:=⟨_,_,rfl,h,_,_,rfl,k,rfl⟩
theorem zY5 {t u v:Nat} {x y z:DV} (h:S.dv (S.get t).un=some x) (k:S.dv (S.get u).un=some y) (D:S.dv (S.get v).un=some z):RetS P S [.tmp t,.tmp u,.tmp v] [x,y,z]:=⟨_,_,rfl,h,_,_,rfl,k,_,_,rfl,D,rfl⟩
end
open Go.RowKit
structure DrawOkF (l:List Oper) (N:Nat):Prop where
 pos:1<=N
 lt:N<l.length
 aft:∀i o,l[i]? =some o->∀j∈aft o,j<i
 looks:∀i o,i<N->i≠0->l[i]? =some o->∀t∈o.looksAt l.toArray,∀j,j<N->j≠0->j≠i->dstAt l j=some t->if j<i then Reach l i j else Reach l j i
 free:∀i o,i<N->l[i]? =some o->∀t∈o.looksAt l.toArray,∀j,j<N->i=0\/j=0->dstAt l j≠some t
 dist:∀i o,i<N->l[i]? =some o->∀j,j<N->j≠i->dstAt l j≠o.dst
 tail:∀i o,N<=i->l[i]? =some o->∀j,j<i->¬(i=N/\j=0)->Reach l i j
open Go.RowKit
open Go.RowKit
structure FldTy (P:Program) (s k off n:Nat) (t:TypeId):Prop where
 fld:∃fields f,P.underlying s=some (.struct fields)/\fields[k]? =some f/\f.offset=off/\f.type=t
 size:∀w,(sizeOf t).run P w= .ok n w
 pos:0<n
theorem zKM {P:Program} {s k off n:Nat} {t:TypeId} (h:FldTy P s k off n t) (w:World) (b o:Nat):
  (Instr.fieldAt s (.pointer (some ⟨b,o,none⟩)) k).run P w= .ok (.pointer (some ⟨b,o+off,none⟩)) w:=by
 obtain⟨G,f,T,K,rfl,rfl⟩:=h.fld;have Y:=h.pos;have O:=h.size w;have H:¬n=0:=by omega
 have D:(⟨b,o,none⟩:Addr).add f.offset=⟨b,o+f.offset,none⟩:=by
  unfold Addr.add;split
  ·rename_i e;rw[e];rfl
  ·rfl
 simp[Instr.fieldAt,dJ T,K,Instr.sureAddr,fieldPlace,O,H,D]
theorem z3H {w:World} {I:Im} {ρ:Nat->Value} {cells:List AV} {ds:List DV} {xs:List Value} (h:Pw (Holds w I ρ) xs cells) (k:unD cells=some ds):Reps w I xs ds:=by
 induction cells generalizing xs ds with
 | nil=>simp[unD] at k;subst k;have:xs= []:=cP h.1;subst this;exact Pw.nil
 | cons c cells H=>
  cases xs with
  | nil=>have:=h.1;simp at this
  | cons x xs=>
   cases c with
   | d y=>
    simp only[unD] at k;cases D:unD cells with
    | none=>simp[D] at k
    | some ys=>
     simp[D] at k;subst k;exact Pw.cons (h.2 0 x (.d y) rfl rfl) (H ⟨by have:=h.1;simpa using this,λj u z D G=>h.2 (j+1) u z (by simpa using D) (by simpa using G)⟩ D)
   | _=>simp[unD] at k
theorem yOH {w:World} {I:Im} {ρ:Nat->Value} {ds:List DV} {xs:List Value} (h:Reps w I xs ds):Pw (Holds w I ρ) xs (ds.map AV.d):=by refine⟨by rw[h.1,e7],λj x c D k=>?_⟩;simp only[dX,fc] at k;obtain⟨y,G,rfl⟩:=k;exact h.2 j x y D G
section
variable {P:Program} {r:Option Nat} {E:Env} {S:AState} {d:Nat} {ty:TypeId} {pos:String} {af:Array Edge} {g:Option (Nat×Bool)}
theorem zAH {s k off n id o:Nat} {t:TypeId} {x:Operand} (G:d<E.n) (H:FldTy P s k off n t) (Y:S.ev x= .ptr id o):
  AOp P r E S ⟨some d,.fieldAddr s x k,ty,pos,af,g⟩ d (.ptr id (o+off)):=
 ⟨rfl,G,λS' K=>zY rfl G (by simp) λA w I ρ C O=>by
  have h:=O.ev x;rw[(K.ev (by simp[Op.operands])).trans Y] at h;obtain⟨b,D,T⟩:=h;refine⟨.pointer (some ⟨b,o+off,none⟩),?_,b,D,rfl⟩;simp only[execOp,T,cS,zKM H w b o];rfl⟩
theorem wS {s k off n o:Nat} {t:TypeId} {x:Operand} {cells:List DV} (H:d<E.n) (O:FldTy P s k off n t) (hx:S.ev x= .ip cells o):
  AOp P r E S ⟨some d,.fieldAddr s x k,ty,pos,af,g⟩ d (.ip cells (o+off)):=
 ⟨rfl,H,λS' T=>zY rfl H (by simp) λA w I ρ C Z=>by
  have h:=Z.ev x;rw[(T.ev (by simp[Op.operands])).trans hx] at h;obtain⟨b,G,xs,hv,Y,K,D⟩:=h;refine⟨.pointer (some ⟨b,G+(o+off),none⟩),?_,b,G,xs,rfl,Y,K,D⟩;simp only[execOp,hv,cS,zKM O w b (G+o),fX];rfl⟩
theorem k8 {t n id eb:Nat} {x:Operand} {cells:List AV} {ds:List DV} (Y:d<E.n) (hT:AggTy P t n) (hx:S.ev x= .ptr id 0) (hb:S.blk id= .box eb cells) (hd:unD cells=some ds) (hl:cells.length=n):
  AOp P r E S ⟨some d,.load t x,ty,pos,af,g⟩ d (.d (.agg ds)):=
 ⟨rfl,Y,λS' T=>zY rfl Y (by simp) λA w I ρ C hs=>by
  have h:=hs.ev x;rw[(T.ev (by simp[Op.operands])).trans hx] at h;obtain⟨b,D,hv⟩:=h;have G:=hs.blks id;rw[(T.blk id).trans hb] at G;obtain⟨O,arr,K,hB,hh,h1,Z,hI⟩:=G;rw[K] at D;simp[blockOf] at D;subst D;have k:Reps w I arr.toList ds:=z3H Z hd;have H:arr.toList.length=n:=by rw[Z.1];exact hl
  refine⟨.agg arr.toList.toArray,?_,.agg _ _ k.1 (λu hu=>h1 u hu) k.2⟩;simp only[execOp,hv,cS];rw[zEB w hT O 0 arr.toList H (λj v hj=>by rw[fb w O _ arr eb (0,0) hh];simpa using hj)]
  rfl⟩
theorem yBW {k:TypeId} {x:Operand} {ds:List DV} (Y:d<E.n) (hx:S.ev x= .d (.agg ds)) (H:E.nm d=none):
  jJ P r E ⟨some d,.box k x,ty,pos,af,g⟩ S (((S.kill d).setBlk d (.box k (ds.map AV.d))).put d (.ptr d 0)):=
 zAM (by simp) λA w I ρ C O=>by
  have h:=O.ev x;rw[hx] at h;have K:Rep w I (A.eval x) (.agg ds):=h;generalize hv:A.eval x=v at K;cases K with
  | agg xs cells G T Z=>
   have hb:=O.newBox (id:=d) (e:=k) (arr:=xs.toArray) (cells:=ds.map AV.d) (yOH ⟨G,Z⟩) (by simpa using T) H;have D:(ds.map AV.d).map (zFJ d)=ds.map AV.d:=by
    rw[List.map_map];rfl
   rw[D] at hb;refine⟨.pointer (some ⟨w.heap.size,0,none⟩),w.alloc (.cells xs.toArray k),?_,I,_,C,hb.put Y (show Holds _ _ _ (.pointer (some ⟨w.heap.size,0,none⟩)) (AV.ptr d 0) from ⟨w.heap.size,by simp[upd,blockOf],rfl⟩)⟩;simp only[execOp,hv,Instr.box,newVar];simp[newRow,Value.cells]
theorem z9F {s k off:Nat} {t:TypeId} {x:Operand} {cells:List DV} {y:DV} (Y:d<E.n) (hT:FldTy P s k off 1 t) (Z:OneTy P t) (hx:S.ev x= .d (.agg cells)) (T:cells[off]? =some y):
  AOp P r E S ⟨some d,.field s x k,ty,pos,af,g⟩ d (.d y):=
 ⟨rfl,Y,λS' ha=>zY rfl Y (by simp) λA w I ρ C hs=>by
  have h:=hs.ev x;rw[(ha.ev (by simp[Op.operands])).trans hx] at h;have O:Rep w I (A.eval x) (.agg cells):=h;generalize hv:A.eval x=v at O;cases O with
  | agg xs cells H ho hr=>
   obtain⟨G,f,hu,hf,rfl,rfl⟩:=hT.fld;have D:f.offset<xs.length:=by rw[H];exact(cX.1 T).1
   have K:=cO D;refine⟨xs[f.offset],?_,hr f.offset _ y K T⟩;simp[execOp,hv,Instr.field,dJ hu,hf,asAgg,part,Z.agg,D]⟩
end
open Go.RowKit
def zR6 (w:World):Im:=λb _=>b<w.heap.size
theorem z0I {P:Program} {f:FuncId} {ds:List DV} (G:zC P f ds [.v (.bool true)]) {w:World} {vs:List Value} (hG:GlI (zAS P) w (zR6 w)) (H:Reps w (zR6 w) vs ds):
  Calls P f vs.toArray w λe w'=>e= .returned (.bool true)/\Below w.heap.size w w':=by
 refine(G.2 w (zR6 w) vs (λ_ _ h=>h) hG H).mono ?_
 rintro e w' ⟨v,D,rfl,hb,_,_,k⟩
 refine⟨?_,hb⟩;have h:Rep w' D v (.v (.bool true)):=k;cases h;rfl
theorem zVO (w:World) (I:Im):Reps w I [] []:=Pw.nil
theorem zOM {w:World} {I:Im} {v:Value} {vs:List Value} {d:DV} {ds:List DV} (h:Rep w I v d) (G:Reps w I vs ds):Reps w I (v::vs) (d::ds):=by
 refine⟨by simp[G.1],λj x y k D=>?_⟩;cases j with
 | zero=>simp at k D;subst k;subst D;exact h
 | succ j=>exact G.2 j x y (by simpa using k) (by simpa using D)
theorem lq {a b:Nat} (h:Nat.ble a b=true):a<=b:=hO h
end Go.AV
namespace Go.M
abbrev Str:=List UInt8
def yD {h:Type} (l:List h) (i:Int):Option h:=if 0<=i then l[i.toNat]? else none
def zBD {h:Type} (l:List h) (i:Int) (x: h):Option (List h):=if 0<=i/\i.toNat<l.length then some (l.set i.toNat x) else none
def slc {h:Type} (l:List h) (lo hi:Int):Option (List h):=if 0<=lo/\lo<=hi/\hi.toNat<=l.length then some ((l.take hi.toNat).drop lo.toNat) else none
def LIM:Nat:=4294967296
def app {h:Type} (l m:List h):Option (List h):=if l.length+m.length<=LIM then some (l++m) else none
def mkM {h:Type} (z: h) (n:Int):Option (List h):=if 0<=n/\n.toNat<=LIM then some (List.replicate n.toNat z) else none
def gM {h:Type} [Inhabited h] (g:Bool) (m:Option h):Option h:=cond g m (some default)
def pv {h:Type} (x: h):Option h:=some x
def zNS (k:Int->Int) (a b:Int):Option Int:=if b=0 then none else some (k (a.tdiv b))
def zKF (a b:Int):Option Int:=if b=0 then none else some (a.tmod b)
def z3I (s:Str) (i:Int):Option Int:=(yD s i).map λb=>(b.toNat:Int)
def mget {h D:Type} [DecidableEq h] (m:List (h×D)) (k: h):Option D:=match m with
 | []=>none
 | (G,v)::r=>if k=G then some v else mget r k
def wX {h D:Type} [DecidableEq h] (m:List (h×D)) (k: h) (v: D):List (h×D):=match m with
 | []=>[(k,v)]
 | (G,H)::r=>if k=G then (k,v)::r else (G,H)::wX r k v
def mgetD {h D:Type} [DecidableEq h] (m:List (h×D)) (k: h) (z: D): D:=(mget m k).getD z
def zDM {h D:Type} [DecidableEq h] (m:List (h×D)) (k: h):Bool:=(mget m k).isSome
inductive Stp (X Y:Type) where
 | next (x:X)
 | done (y:Y)
def iter {X Y:Type} (body:X->Option (Stp X Y)):Nat->X->Option Y
 | 0,_=>none
 | n+1,x=>match body x with
  | none=>none
  | some (.next x')=>iter body n x'
  | some (.done y)=>some y
theorem zY7 {X Y:Type} {body:X->Option (Stp X Y)} {y:Y}:∀{n m:Nat} {x:X},n<=m->iter body n x=some y->iter body m x=some y:=by
 intro n
 induction n with
 | zero=>intro m x _ h;cases h
 | succ n k=>
  intro m x D h;cases m with
  | zero=>omega
  | succ m=>
   simp only[iter] at h ⊢;cases hb:body x with
   | none=>rw[hb] at h;cases h
   | some s=>
    rw[hb] at h;cases s with
    | next x'=>exact k (by omega) h
    | done G=>exact h
open Classical in
noncomputable def zE {X Y:Type} (body:X->Option (Stp X Y)) (x:X):Option Y:=
 if h:∃n y,iter body n x=some y then some (Classical.choose (Classical.choose_spec h)) else none
theorem zMB {X Y:Type} {body:X->Option (Stp X Y)} {x:X} {y:Y}:zE body x=some y↔∃n,iter body n x=some y:=by
 unfold zE;constructor;intro h;split at h;rename_i k;have:=Classical.choose_spec (Classical.choose_spec k);cases h;exact⟨_,this⟩;cases h
 rintro⟨n,G⟩
 have k:∃n y,iter body n x=some y:=⟨n,y,G⟩;rw[dif_pos k];have H:=Classical.choose_spec (Classical.choose_spec k);have K:=zY7 (Nat.le_max_left (Classical.choose k) n) H;have D:=zY7 (Nat.le_max_right (Classical.choose k) n) G;rw[K] at D;exact D
theorem xJ {X Y:Type} (body:X->Option (Stp X Y)) (x:X):zE body x=match body x with
  | none=>none
  | some (.next x')=>zE body x'
  | some (.done y)=>some y:=by
 apply Option.ext;intro y;rw[zMB];constructor
 ·rintro⟨n,k⟩
  cases n with
  | zero=>cases k
  | succ n=>
   simp only[iter] at k;cases hb:body x with
   | none=>rw[hb] at k;cases k
   | some s=>
    rw[hb] at k;cases s with
    | next x'=>exact zMB.2 ⟨n,k⟩
    | done D=>exact k
 ·intro h
  cases hb:body x with
  | none=>rw[hb] at h;cases h
  | some s=>
   rw[hb] at h;cases s with
   | next x'=>
    obtain⟨n,k⟩:=zMB.1 h;exact⟨n+1,by simp only[iter,hb];exact k⟩
   | done D=>exact⟨1,by simp only[iter,hb];exact h⟩
theorem bE {k D:Type} {o:Option k} {f: k->Option D} {b: D} (h:o.bind f=some b):∃a,o=some a/\f a=some b:=Option.bind_eq_some_iff.1 h
theorem cT {k:Type} {c:Bool} {A B:Option k} {r:Option k} (D:c=true) (h:cond c A B=r):A=r:=by subst D;exact h
theorem cF {k:Type} {c:Bool} {A B:Option k} {r:Option k} (D:c=false) (h:cond c A B=r):B=r:=by subst D;exact h
theorem eL {D G k:Type} {f: D->k} {g: G->k} {y: D} {r: k} (h:Sum.elim f g (Sum.inl y)=r):f y=r:=h
theorem eR {G D k:Type} {f: G->k} {g: D->k} {y: D} {r: k} (h:Sum.elim f g (Sum.inr y)=r):g y=r:=h
end Go.M
namespace Go.AV
open Go.RowKit
structure Frag (w:World) (I:Im) (ρ:Nat->Value) (T:List (Nat×Blk)):Prop where
 ok:∀id,BlkOk w I ρ (λ_=>True) id (look Blk.none T id)
 dist:∀id id' b,id≠id'->look Blk.none T id≠ .none->look Blk.none T id'≠ .none->blockOf (ρ id)=some b->blockOf (ρ id')≠some b
def yOI (w:World) (I:Im) (ρ:Nat->Value) (v:Value):List Cap->Prop
 | [x]=>HoldsC w I ρ v x
 | xs=> ∃ys,v= .tuple ys.toArray/\Pw (HoldsC w I ρ) ys xs
def GC (P:Program) (f:FuncId) (args:List Cap) (T:List (Nat×Blk)) (keep:List Nat) (k:List Cap) (G:List (Nat×Blk)):Prop:=
 (∃H,P.funcs[f]? =some H/\(H.name== "runtime.NumGoroutine")=false/\H.body.isNone=false)/\
 ∀(w:World) (I:Im) (ρ:Nat->Value) (vs:List Value),(∀b j,I b j->b<w.heap.size)->GlI (zAS P) w I->Frag w I ρ T->Pw (HoldsC w I ρ) vs args->
  Calls P f vs.toArray w λe w'=> ∃v D h,e= .returned v/\Chg w w' (xM T ρ)/\Same I w w'/\(∀b j,I b j->D b j)/\
   (∀b j,D b j->b<w'.heap.size/\(I b j\/w.heap.size<=b\/xM T ρ b))/\Frag w' D h G/\yOI w' D h v k/\
   (∀b,xM G h b->b<w'.heap.size/\(w.heap.size<=b\/xM T ρ b))/\(∀id,keep.contains id=true->look Blk.none G id≠ .none->h id= ρ id)
def GCA (P:Program) (f:FuncId) (args:List Cap) (T:List (Nat×Blk)) (keep:List Nat) (H:AV) (D:List (Nat×Blk)):Prop:=
 (∃G,P.funcs[f]? =some G/\(G.name== "runtime.NumGoroutine")=false/\G.body.isNone=false)/\
 ∀(w:World) (I:Im) (ρ:Nat->Value) (vs:List Value),(∀b j,I b j->b<w.heap.size)->GlI (zAS P) w I->Frag w I ρ T->Pw (HoldsC w I ρ) vs args->
  Calls P f vs.toArray w λe w'=> ∃v k h,e= .returned v/\Chg w w' (xM T ρ)/\Same I w w'/\(∀b j,I b j->k b j)/\
   (∀b j,k b j->b<w'.heap.size/\(I b j\/w.heap.size<=b\/xM T ρ b))/\Frag w' k h D/\Holds w' k h v H/\
   (∀b,xM D h b->b<w'.heap.size/\(w.heap.size<=b\/xM T ρ b))/\(∀id,keep.contains id=true->look Blk.none D id≠ .none->h id= ρ id)
def Cap.av:Cap->AV
 | .top=> .top
 | .d x=> .d x
 | .ptr i o=> .ptr i o
 | .row i=> .row i
theorem Cap.holds {w:World} {I:Im} {ρ:Nat->Value} {v:Value} {c:Cap} (h:HoldsC w I ρ v c):Holds w I ρ v c.av:=by cases c<;>exact h
def zPH:List Cap->Nat->List (Nat×AV)
 | [],_=>[]
 | x::r,k=>(k,x.av)::zPH r (k+1)
theorem z6Q (cs:List Cap):∀(k t:Nat),(k<=t/\∃x,cs[t-k]? =some x/\look AV.top (zPH cs k) t=x.av)\/look AV.top (zPH cs k) t= .top:=by
 induction cs with
 | nil=>intro k t;exact .inr rfl
 | cons x ds H=>
  intro k t;simp only[zPH,kK];by_cases e:k=t;subst e;simp;simp only[e,cV];rcases H (k+1) t with ⟨K,y,G,D⟩ | h
  refine .inl ⟨by omega,y,?_,D⟩;have:t-k=(t-(k+1))+1:=by omega
  rw[this];simpa using G;exact .inr h
theorem Chg.refl (w:World) (O:Nat->Prop):Chg w w O:=⟨rfl,rfl,rfl,dA _,λ_ _ _=>rfl⟩
def Env.gen (gdt:Nat->Option (List Value)) (w0:World) (I0:Im) (hG:GlI gdt w0 I0) (K:Nat->Value) (T:List (Nat×Blk)) (keep:List Nat) (n:Nat) (hn:n<=1000000):Env where
 B:=w0.heap.size
 I0:=I0
 n:=n
 fr:=λ_ C w=>(Chg w0 w (xM T K)/\Same I0 w0 w)/\(∀b j,I0 b j->b<w0.heap.size)/\∀b,¬C b
 wrB:=true
 nle:=hn
 mine:=λb=>w0.heap.size<=b\/xM T K b
 mineB:=λ_ h=> .inl h
 nm:=λid=>if keep.contains id then some (K id) else none
 size:=λ_ _ _ h=>h.1.1.size
 csize:=λ_ _ _ h b hb=>absurd hb (h.2.2 b)
 grow:=λ_ _ w w' h hb=>⟨⟨⟨hb.os.trans h.1.1.os,hb.tape.trans h.1.1.tape,hb.output.trans h.1.1.output,d8 h.1.1.size hb.size,λk H D=>(hb.block k (eU H h.1.1.size)).trans (h.1.1.block k H D)⟩,
  λb j hi=>(KeepB.of (hb.block b (eU (h.2.1 b j hi) h.1.1.size))).trans (h.1.2 b j hi)⟩,h.2⟩
 wr:=λ_ _ _ w w' O h G hr Z=>⟨⟨⟨G.os.trans h.1.1.os,G.tape.trans h.1.1.tape,G.output.trans h.1.1.output,d8 h.1.1.size G.size,λk H D=>(G.block k (eU H h.1.1.size) (λe=>by
   rcases (hr k e).1 with h1 | h1
   ·omega
   ·exact D h1)).trans (h.1.1.block k H D)⟩,λb j hi=>(Z b j hi).trans (h.1.2 b j hi)⟩,h.2⟩
 turn:=λ_ _ _ w w' l h hl Y Z=>⟨⟨⟨Y.os.trans h.1.1.os,Y.tape.trans h.1.1.tape,Y.output.trans h.1.1.output,by rw[Y.size];exact h.1.1.size,λk H D=>(Y.blk k (by omega)).trans (h.1.1.block k H D)⟩,λb j hi=>(Z b j hi).trans (h.1.2 b j hi)⟩,h.2⟩
 gdt:=gdt
 gl:=λ_ _ w h g zs G j=>⟨(h.1.2 g j (hG g zs G j).2).cell.trans (hG g zs G j).1,(hG g zs G j).2⟩
def CapOf:AV->Cap->Prop
 | _,.top=>True
 | av,c=>av=c.av
theorem CapOf.holds {w:World} {I:Im} {ρ:Nat->Value} {v:Value} {av:AV} {c:Cap} (h:CapOf av c) (k:Holds w I ρ v av):HoldsC w I ρ v c:=by
 cases c with
 | top=>trivial
 | _=>have e:av=_:=h;rw[e] at k;exact k
section
variable {P:Program} {r:Option Nat} {E:Env} {S:AState} {d:Nat} {ty:TypeId} {pos:String} {af:Array Edge} {g:Option (Nat×Bool)}
def RetGS (P:Program) (S:AState):List ResultVar->List Cap->Prop
 | [],ys=>ys= []
 | .tmp t::h,ys=> ∃y zs,ys=y::zs/\CapOf (S.get t).un y/\RetGS P S h zs
 | .cell a t::h,ys=> ∃y zs id e cells,ys=y::zs/\(S.get a).un= .ptr id 0/\S.blk id= .box e cells/\
   ((OneTy P t/\∃av,cells= [av]/\CapOf av y)\/(∃ds,AggTy P t cells.length/\unD cells=some ds/\y= .d (.agg ds)))/\RetGS P S h zs
def yQ9 (P:Program) (D:Func) (h:List Cap) (k:List (Nat×Blk)):Exit->AState->Prop
 | .ret,S | .normal,S=>RetGS P S D.results.toList h/\zPW S k
 | _,_=>False
theorem RetGS.holds {a:Act} {w:World} {I:Im} {ρ:Nat->Value} {C:Nat->Prop} (h:SatAt E S a w I ρ C):∀(l:List ResultVar) (rs:List Cap) (_:RetGS P S l rs),
  ∃xs:List Value,(l.mapM (zVJ a.tmps)).run P w= .ok xs w/\Pw (HoldsC w I ρ) xs rs:=by
 intro l
 induction l with
 | nil=>intro rs hr;cases hr;exact⟨[],by simp,Pw.nil⟩
 | cons x l ih=>
  intro rs hr;cases x with
  | tmp t=>
   obtain⟨y,ys,rfl,h1,h2⟩:=hr;obtain⟨xs,K,k⟩:=ih ys h2;exact⟨_::xs,by simp[ii,zVJ,K],Pw.cons (h1.holds (h.tmps t).un) k⟩
  | cell ad t=>
   obtain⟨y,ys,id,e,cells,rfl,h1,h2,h3,h4⟩:=hr;obtain⟨xs,K,k⟩:=ih ys h4;have hp:=(h.tmps ad).un;rw[h1] at hp;obtain⟨b,ab,hv⟩:=hp;have T:=h.blks id;rw[h2] at T;obtain⟨b',arr,ac,hB,hh,ak,H,hI⟩:=T;have am:b'=b:=by rw[ac] at ab;simpa[blockOf] using ab
   subst am;have D:∀(j:Nat) v,arr.toList[j]? =some v->w.cell? ⟨b',0+j,none⟩=some v:=λj v hj=>by
    rw[eE,fb w b' j arr e (0,0) hh];simpa using hj
   rcases h3 with ⟨ho,av,hc,hd⟩ | ⟨ds,ha,hd,rfl⟩
   ·subst hc
    have Z:=H.1
    match O:arr.toList,Z with
    | [v0],_=>
     rw[O] at H D;refine⟨v0::xs,?_,Pw.cons (hd.holds (H.2 0 v0 av rfl rfl)) k⟩;have Y:=D 0 v0 rfl;simp only[fJ] at Y;simp[ii,zVJ,hv,asAddr,loadVar,ho.agg,run_load,Y,K]
   ·have aa:=z3H H hd
    refine⟨.agg arr.toList.toArray::xs,?_,Pw.cons (.agg _ _ aa.1 ak aa.2) k⟩;have G:=zEB (P:=P) w ha b' 0 arr.toList H.1 D;simp only[Instr.loadAt,Instr.sureAddr,cS,dV,cW] at G;simp only[ii,zVJ,hv,asAddr,cS,dV,cW,G,K]
theorem RetGS.run {a:Act} {w:World} {I:Im} {ρ:Nat->Value} {C:Nat->Prop} {O:Func} {K:List Cap} (h:SatAt E S a w I ρ C) (G:RetGS P S O.results.toList K):
  ∃v,(results O a.tmps).run P w= .ok v w/\yOI w I ρ v K:=by
 obtain⟨xs,H,k⟩:=RetGS.holds h _ _ G;refine⟨_,zNN H,?_⟩;have T:=k.1
 match xs,K,T,k with
 | [],[],_,D=>exact⟨_,rfl,D⟩
 | [x],[y],_,D=>exact D.2 0 _ y rfl rfl
 | x::u::xs,y::z::ys,_,D=>exact⟨x::u::xs,by simp,D⟩
def GCX (P:Program) (f:FuncId) (args:List Cap) (T:List (Nat×Blk)) (keep:List Nat) (R:World->Im->(Nat->Value)->Value->Prop) (D:List (Nat×Blk)):Prop:=
 (∃G,P.funcs[f]? =some G/\(G.name== "runtime.NumGoroutine")=false/\G.body.isNone=false)/\
 ∀(w:World) (I:Im) (ρ:Nat->Value) (vs:List Value),(∀b j,I b j->b<w.heap.size)->GlI (zAS P) w I->Frag w I ρ T->Pw (HoldsC w I ρ) vs args->
  Calls P f vs.toArray w λe w'=> ∃v k h,e= .returned v/\Chg w w' (xM T ρ)/\Same I w w'/\(∀b j,I b j->k b j)/\
   (∀b j,k b j->b<w'.heap.size/\(I b j\/w.heap.size<=b\/xM T ρ b))/\Frag w' k h D/\R w' k h v/\
   (∀b,xM D h b->b<w'.heap.size/\(w.heap.size<=b\/xM T ρ b))/\(∀id,keep.contains id=true->look Blk.none D id≠ .none->h id= ρ id)
def yM8 (h:AState->Prop) (k:List (Nat×Blk)):Exit->AState->Prop
 | .ret,S | .normal,S=>h S/\zPW S k
 | _,_=>False
theorem yE3 {f:FuncId} {K:Func} {c:Code} {args:List Cap} {T Z:List (Nat×Blk)} {keep:List Nat} (R:World->Im->(Nat->Value)->Value->Prop) (RS:AState->Prop) (ba:∀(E:Env) (S:AState) (a:Act) (w:World) (I:Im) (ρ:Nat->Value) (C:Nat->Prop),SatAt E S a w I ρ C->RS S->∃v,(results K a.tmps).run P w= .ok v w/\R w I ρ v) (hf:P.funcs[f]? =some K) (ai:(K.name== "runtime.NumGoroutine")=false) (hb:K.body=some c) (hn:args.length<=K.ntmps) (ah:K.ntmps<=1000000)
  (h:∀w0 I0 hG bc,Avc P none (Env.gen (zAS P) w0 I0 hG bc T keep K.ntmps ah) c (yM8 RS Z) ⟨zPH args 0,T⟩):GCX P f args T keep R Z:=by
 refine⟨⟨K,hf,ai,by simp[hb]⟩,λw I ρ vs hI hG Y ao=>?_⟩;refine gJ (n:=0) |>.1 (callsIn_of_wp_marks hf hb trivial ?_)
 have al:vs.length=args.length:=ao.1;have an:Sat (Env.gen (zAS P) w I hG ρ T keep K.ntmps ah) ⟨zPH args 0,T⟩ {tmps:=vs.toArray++Array.replicate (K.ntmps-vs.toArray.size) undef,defers:=[]} w:=by
  refine⟨I,ρ,λ_=>False,⟨λt=>?_,λi=>?_,Y.dist,⟨⟨Chg.refl _ _,k7 I w⟩,hI,λ_ h=>h⟩,λ_ _ h=>h,λb j h=>⟨hI b j h,.inl h⟩,by simp[Env.gen];omega,DefOk.nil,λ_ _ _ h=>h,λ_ _ _ _ h=>h,λid v hv _=>?_⟩⟩
  ·rcases z6Q args 0 t with ⟨_,x,hx,hl⟩ | hl
   ·show Holds _ _ _ _ (look AV.top (zPH args 0) t)
    rw[hl];simp only[Nat.sub_zero] at hx;have ht:t<vs.length:=by rw[al];exact(cX.1 hx).1
    refine Cap.holds (ao.2 t _ x ?_ hx);simp[dF,Array.getElem?_append,ht]
   ·show Holds _ _ _ _ (look AV.top (zPH args 0) t)
    rw[hl];trivial
  ·exact(Y.ok i).mineM λb D ad _=> .inr ⟨i,D,ad⟩
  ·simp only[Env.gen] at hv
   split at hv
   ·cases hv;rfl
   ·cases hv
 refine g7 (h w I hG ρ _ w an) ?_
 rintro e a w' ⟨S,hK,I1,bd,C,hs⟩
 have aj:RS S/\zPW S Z->LeavesInM (fen none) 0 P K a.tmps (λe w'=> ∃v I' ab,e= .returned v/\Chg w w' (xM T ρ)/\Same I w w'/\(∀b j,I b j->I' b j)/\
   (∀b j,I' b j->b<w'.heap.size/\(I b j\/w.heap.size<=b\/xM T ρ b))/\Frag w' I' ab Z/\R w' I' ab v/\
   (∀b,xM Z ab b->b<w'.heap.size/\(w.heap.size<=b\/xM T ρ b))/\(∀id,keep.contains id=true->look Blk.none Z id≠ .none->ab id= ρ id)) a.defers .returning w':=by
  rintro⟨am,ac⟩
  refine zQS (B:=w.heap.size) a.defers w' hs.defers λw2 O ak=>?_;have ag:(Env.gen (zAS P) w I hG ρ T keep K.ntmps ah).fr S.ghost C w2:=by
   refine⟨⟨⟨O.os.trans hs.frame.1.1.os,O.tape.trans hs.frame.1.1.tape,O.output.trans hs.frame.1.1.output,d8 hs.frame.1.1.size O.size,λk hk D=>(O.block k hk).trans (hs.frame.1.1.block k hk D)⟩,λb j hi=>(ak.same (I:=I) b j hi).trans (hs.frame.1.2 b j hi)⟩,hs.frame.2⟩
  have G:=hs.taken ak ag;obtain⟨v,h1,h2⟩:=ba _ _ _ _ _ _ _ G am;have key:∀id,look Blk.none Z id≠ .none->S.blk id=look Blk.none Z id:=λid D=>by
   rcases zNQ ac id with h | h
   ·exact absurd h D
   ·exact h
  have H:∀id,look Blk.none Z id≠ .none->S.blk id≠ .none:=λid D=>by rw[key id D];exact D
  refine⟨v,h1,v,I1,bd,rfl,ag.1.1,ag.1.2,λb j hi=>G.sub b j hi,λb j hi=>⟨(G.old b j hi).1,?_⟩,⟨λid=>?_,λid ap b D h1 h2=>G.dist id ap b D (H id h1) (H ap h2)⟩,h2,λb hb=>?_,λid hk D=>?_⟩
  ·rcases (G.old b j hi).2 with h | h
   ·exact .inl h
   ·exact .inr h
  ·rcases zNQ ac id with h | h
   ·rw[h];trivial
   ·rw[<-h];exact(G.blks id).mineM λ_ _ _ _=>trivial
  ·obtain⟨id,D,ad⟩:=hb
   have:=G.blt id b (H id D) ad;exact⟨this.2,this.1⟩
  ·refine G.nm id (ρ id) ?_ (H id D)
   simp only[Env.gen];rw[dI hk]
 cases e with
 | normal=>exact aj hK
 | ret=>exact aj hK
 | _=>exact hK.elim
theorem zD1 {f:FuncId} {D:Func} {c:Code} {args k:List Cap} {T O:List (Nat×Blk)} {keep:List Nat} (Z:P.funcs[f]? =some D) (G:(D.name== "runtime.NumGoroutine")=false) (hb:D.body=some c) (hn:args.length<=D.ntmps) (H:D.ntmps<=1000000)
  (h:∀w0 Y hG K,Avc P none (Env.gen (zAS P) w0 Y hG K T keep D.ntmps H) c (yQ9 P D k O) ⟨zPH args 0,T⟩):GC P f args T keep k O:=
 yE3 (λw I ρ v=>yOI w I ρ v k) (λS=>RetGS P S D.results.toList k) (λ_ _ _ _ _ _ _ hs hr=>RetGS.run hs hr) Z G hb hn H h
theorem yE4 {f:FuncId} {D:Func} {c:Code} {args:List Cap} {k:AV} {O:Nat} {T Z:List (Nat×Blk)} {keep:List Nat} (hf:P.funcs[f]? =some D) (G:(D.name== "runtime.NumGoroutine")=false) (hb:D.body=some c) (hn:args.length<=D.ntmps) (H:D.ntmps<=1000000) (K:D.results= #[.tmp O])
  (h:∀w0 I0 hG Y,Avc P none (Env.gen (zAS P) w0 I0 hG Y T keep D.ntmps H) c (yM8 (λS=>(S.get O).un=k) Z) ⟨zPH args 0,T⟩):GCA P f args T keep k Z:=
 yE3 (λw I ρ v=>Holds w I ρ v k) (λS=>(S.get O).un=k) (λE S a w I ρ C hs hr=>⟨_,zNN (xs:=[a.tmps.getD O undef]) (by rw[K];simp[zVJ]),by
  have:=(hs.tmps O).un;rw[hr] at this;exact this⟩) hf G hb hn H h
end
open Go.RowKit
def Cap.ren (σ:List (Nat×Nat)):Cap->Cap
 | .ptr i o=> .ptr (look 0 σ i) o
 | .row i=> .row (look 0 σ i)
 | c=>c
def AV.ren (σ:List (Nat×Nat)):AV->AV
 | .row i=> .row (look 0 σ i)
 | .ptr i o=> .ptr (look 0 σ i) o
 | .rs i o n=> .rs (look 0 σ i) o n
 | .wp i o=> .wp (look 0 σ i) o
 | .ws i o n tt=> .ws (look 0 σ i) o n tt
 | .cond g x=> .cond g (x.ren σ)
 | .clo f h=> .clo f (h.map (Cap.ren σ))
 | .tupc h=> .tupc (h.map (Cap.ren σ))
 | .aggc h=> .aggc (h.map (Cap.ren σ))
 | x=>x
def Blk.ren (σ:List (Nat×Nat)):Blk->Blk
 | .box e cells=> .box e (cells.map (AV.ren σ))
 | b=>b
def renL (σ:List (Nat×Nat)) (T:List (Nat×Blk)):List (Nat×Blk):=T.map λp=>(look 0 σ p.1,p.2.ren σ)
def wN (σ:List (Nat×Nat)) (k:Nat):Bool:=σ.any λp=>Nat.beq p.1 k
def Cap.idsLt (σ:List (Nat×Nat)):Cap->Bool
 | .ptr i _=>wN σ i
 | .row i=>wN σ i
 | _=>true
def AV.idsLt (σ:List (Nat×Nat)):AV->Bool
 | .row i=>wN σ i
 | .ptr i _=>wN σ i
 | .rs i _ _=>wN σ i
 | .wp i _=>wN σ i
 | .ws i _ _ _=>wN σ i
 | .cond _ x=>x.idsLt σ
 | .clo _ h=>h.all (Cap.idsLt σ)
 | .tupc h=>h.all (Cap.idsLt σ)
 | .aggc h=>h.all (Cap.idsLt σ)
 | _=>true
def Blk.idsLt (σ:List (Nat×Nat)):Blk->Bool
 | .box _ cells=>cells.all (AV.idsLt σ)
 | _=>true
section
variable {w:World} {I:Im}
theorem HoldsC.ren {σ:List (Nat×Nat)} {ρ D:Nat->Value} {v:Value} {c:Cap} (h:∀k,wN σ k=true->D (look 0 σ k)= ρ k) (G:c.idsLt σ =true):HoldsC w I ρ v c↔HoldsC w I D v (c.ren σ):=by
 cases c with
 | top=>exact Iff.rfl
 | d x=>exact Iff.rfl
 | ptr i o=>
  have:wN σ i=true:=G;simp only[HoldsC,Cap.ren,h i this]
 | row i=>
  have:wN σ i=true:=G;simp only[HoldsC,Cap.ren,h i this]
theorem zQW {O T Z:Type} {R: O->T->Prop} {R': O->Z->Prop} {f: T->Z} {xs:List O} {ys:List T} (h:∀x y,y∈ys->(R x y↔R' x (f y))):Pw R xs ys↔Pw R' xs (ys.map f):=by
 constructor
 rintro⟨G,H⟩
 refine⟨by simpa using G,λj x y K k=>?_⟩;rw[dX] at k;cases D:ys[j]? with
 | none=>simp[D] at k
 | some Y=>simp[D] at k;subst k;exact(h x Y (eN D)).1 (H j x Y K D)
 rintro⟨G,H⟩
 refine⟨by simpa using G,λj x y K k=>?_⟩;exact(h x y (eN k)).2 (H j x (f y) K (by simp[k]))
theorem HoldsC.renL {σ:List (Nat×Nat)} {ρ h:Nat->Value} (D:∀k,wN σ k=true->h (look 0 σ k)= ρ k) {xs:List Value} {cs:List Cap} (G:cs.all (Cap.idsLt σ)=true):Pw (HoldsC w I ρ) xs cs↔Pw (HoldsC w I h) xs (cs.map (Cap.ren σ)):=
 zQW λx y H=>HoldsC.ren D (dS.1 G y H)
theorem Holds.ren {σ : List (Nat × Nat)} {ρ ρ' : Nat -> Value} (hρ : ∀ k, wN σ k = true -> ρ' (look 0 σ k) = ρ k) {v : Value} : ∀ {x : AV}, x.idsLt σ = true -> (Holds w I ρ v x ↔ Holds w I ρ' v (x.ren σ)) := by
  intro x
  induction x with
  | row i => intro hn; have : wN σ i = true := hn
             simp only[Holds, AV.ren, hρ i this]
  | ptr i o => intro hn; have : wN σ i = true := hn
               simp only[Holds, AV.ren, hρ i this]
  | rs i o m => intro hn; have : wN σ i = true := hn
                simp only[Holds, AV.ren, hρ i this]
  | wp i o => intro hn; have : wN σ i = true := hn
              simp only[Holds, AV.ren, hρ i this]
  | ws i o m tt => intro hn; have : wN σ i = true := hn
                   simp only[Holds, AV.ren, hρ i this]
  | cond g x ih => intro hn; simp only[Holds, AV.ren, ih hn]
  | clo f caps => intro hn; simp only[Holds, AV.ren]; constructor
                  · rintro⟨xs, h1, h2⟩; exact⟨xs, h1, (HoldsC.renL hρ hn).1 h2⟩
                  · rintro⟨xs, h1, h2⟩; exact⟨xs, h1, (HoldsC.renL hρ hn).2 h2⟩
  | tupc caps => intro hn; simp only[Holds, AV.ren]; constructor
                 · rintro⟨xs, h1, h2⟩; exact⟨xs, h1, (HoldsC.renL hρ hn).1 h2⟩
                 · rintro⟨xs, h1, h2⟩; exact⟨xs, h1, (HoldsC.renL hρ hn).2 h2⟩
  | aggc caps => intro hn; simp only[Holds, AV.ren]; constructor
                 · rintro⟨xs, h1, h2, h3⟩; exact⟨xs, h1, (HoldsC.renL hρ hn).1 h2, h3⟩
                 · rintro⟨xs, h1, h2, h3⟩; exact⟨xs, h1, (HoldsC.renL hρ hn).2 h2, h3⟩
  | top => intro _; exact Iff.rfl
  | d x => intro _; exact Iff.rfl
  | ip c o => intro _; exact Iff.rfl
  | tup ds => intro _; exact Iff.rfl
  | gh k => intro _; exact Iff.rfl
theorem BlkOk.ren {σ:List (Nat×Nat)} {ρ D:Nat->Value} {k:Nat} {M:Nat->Prop} (h:∀k,wN σ k=true->D (look 0 σ k)= ρ k) (G:wN σ k=true) {x:Blk} (hn:x.idsLt σ =true):BlkOk w I ρ M k x↔BlkOk w I D M (look 0 σ k) (x.ren σ):=by
 cases x with
 | none=>exact Iff.rfl
 | row e size sh cells=>simp only[BlkOk,Blk.ren,h k G]
 | map es=>simp only[BlkOk,Blk.ren,h k G]
 | it es q=>simp only[BlkOk,Blk.ren,h k G]
 | win e size k' cells=>simp only[BlkOk,Blk.ren,h k G]
 | box e cells=>
  simp only[BlkOk,Blk.ren,h k G];have:∀arr:Array Value,Pw (Holds w I ρ) arr.toList cells↔Pw (Holds w I D) arr.toList (cells.map (AV.ren σ)):=λarr=>
   zQW λx y hy=>Holds.ren h (dS.1 hn y hy)
  constructor
  rintro⟨b,arr,H,K,O,T,Y,Z⟩;exact⟨b,arr,H,K,O,T,(this arr).1 Y,Z⟩
  rintro⟨b,arr,H,K,O,T,Y,Z⟩;exact⟨b,arr,H,K,O,T,(this arr).2 Y,Z⟩
theorem HoldsC.agree {ρ k:Nat->Value} {v:Value} {c:Cap} (h:HoldsC w I ρ v c) (D:∀id,c.mentions id=true->k id= ρ id):HoldsC w I k v c:=by
 cases c with
 | top=>trivial
 | d x=>exact h
 | ptr i o=>simpa only[HoldsC,D i (by simp[Cap.mentions])] using h
 | row i=>simpa only[HoldsC,D i (by simp[Cap.mentions])] using h
theorem Holds.agree {ρ Z:Nat->Value} {v:Value}:∀{x:AV},Holds w I ρ v x->(∀id,x.mentions id=true->Z id= ρ id)->Holds w I Z v x:=by
 intro x
 induction x with
 | row i=>intro h D;simpa only[Holds,D i (by simp[AV.mentions])] using h
 | ptr i o=>intro h D;simpa only[Holds,D i (by simp[AV.mentions])] using h
 | rs i o m=>intro h D;simpa only[Holds,D i (by simp[AV.mentions])] using h
 | wp i o=>intro h D;simpa only[Holds,D i (by simp[AV.mentions])] using h
 | ws i o m tt=>intro h D;simpa only[Holds,D i (by simp[AV.mentions])] using h
 | cond g x ih=>intro h D;exact⟨λhg=>ih (h.1 hg) (λid O=>D id (by simpa[AV.mentions] using O)),h.2⟩
 | clo f G=>
  rintro⟨xs,T,H⟩ D
  exact⟨xs,T,H.1,λj x c Y K=>(H.2 j x c Y K).agree λid O=>D id (by simp only[AV.mentions,fT];exact⟨c,eN K,O⟩)⟩
 | tupc G=>
  rintro⟨xs,T,H⟩ D
  exact⟨xs,T,H.1,λj x c Y K=>(H.2 j x c Y K).agree λid O=>D id (by simp only[AV.mentions,fT];exact⟨c,eN K,O⟩)⟩
 | aggc G=>
  rintro⟨xs,T,H,h3⟩ D
  exact⟨xs,T,⟨H.1,λj x c Y K=>(H.2 j x c Y K).agree λid O=>D id (by simp only[AV.mentions,fT];exact⟨c,eN K,O⟩)⟩,h3⟩
 | top=>intro h _;exact h
 | d x=>intro h _;exact h
 | ip c o=>intro h _;exact h
 | tup ds=>intro h _;exact h
 | gh k=>intro h _;exact h
end
def zKN (h:List Nat) (x:AV):AV:=if h.any (λk=>x.mentions k) then .top else x
def zEE (h:List Nat):Blk->Blk
 | .box e cells=> .box e (cells.map (zKN h))
 | b=>b
def AState.killL (S:AState) (h:List Nat):AState:=
 {tmps:=S.tmps.map λp=>(p.1,zKN h p.2),blks:=S.blks.map λp=>(p.1,zEE h p.2)}
theorem zY8 (S:AState) (h:List Nat) (t:Nat):(S.killL h).get t=zKN h (S.get t):=zQQ _ _ (by simp[zKN,AV.mentions]) _ _
theorem zY9 (S:AState) (h:List Nat) (i:Nat):(S.killL h).blk i=zEE h (S.blk i):=zQQ _ _ rfl _ _
theorem zPI {w:World} {I:Im} {ρ k:Nat->Value} {G:List Nat} {v:Value} {x:AV} (h:Holds w I ρ v x) (H:∀id,G.contains id=false->k id= ρ id):Holds w I k v (zKN G x):=by
 unfold zKN;split;trivial;rename_i O;refine h.agree λid D=>H id ?_;cases K:G.contains id with
 | false=>rfl
 | true=>
  exfalso;apply O;simp only[fT];exact⟨id,by simpa using K,D⟩
theorem yE5 (D:List Nat) (x:AV):(match zKN D x with | .gh k=>k | _=>0)=(match x with | .gh k=>k | _=>0):=by
 unfold zKN;by_cases h:(D.any λk=>x.mentions k)=true;simp only[h,dG];cases x<;>first | rfl | (simp[AV.mentions] at h)
 simp only[h];rfl
def AState.setL (S:AState) (T:List (Nat×Blk)):AState:={S with blks:=T++S.blks}
theorem zKO {G:Type} (D: G) (l m:List (Nat×G)) (k:Nat):look D (l++m) k=if l.any (λp=>Nat.beq p.1 k) then look D l k else look D m k:=by
 induction l with
 | nil=>simp[look]
 | cons p l K=>
  obtain⟨i,x⟩:=p;simp only[fN,look,ir];by_cases h:Nat.beq i k=true;simp[h];have H:Nat.beq i k=false:=Bool.eq_false_iff.2 h;simp only[H,K,eY];simp
def ArgsAs (σ:List (Nat×Nat)):List AV->List Cap->Prop
 | [],[]=>True
 | x::xs,c::cs=>CapOf x (c.ren σ)/\ArgsAs σ xs cs
 | _,_=>False
theorem ArgsAs.holds {w:World} {I:Im} {ρ G:Nat->Value} {σ:List (Nat×Nat)} (K:∀k,wN σ k=true->G (look 0 σ k)= ρ k):∀{vs:List Value} {xs:List AV} {cs:List Cap},ArgsAs σ xs cs->cs.all (Cap.idsLt σ)=true->Pw (Holds w I G) vs xs->Pw (HoldsC w I ρ) vs cs:=by
 intro vs xs
 induction xs generalizing vs with
 | nil=>
  intro cs h _ D;cases cs with
  | nil=>exact⟨D.1,λj x y Z T=>by simp at T⟩
  | cons c cs=>exact h.elim
 | cons x xs Y=>
  intro cs h H D;cases cs with
  | nil=>exact h.elim
  | cons c cs=>
   cases vs with
   | nil=>have:=D.1;simp at this
   | cons v vs=>
    simp only[iq,dE] at H;refine Pw.cons ((HoldsC.ren K H.1).2 (h.1.holds (D.2 0 v x rfl rfl))) (Y h.2 H.2 ⟨by have:=D.1;simpa using this,λj a b O hb=>D.2 (j+1) a b (by simpa using O) (by simpa using hb)⟩)
def BlksAs (S:AState) (σ:List (Nat×Nat)):List (Nat×Blk)->Prop
 | []=>True
 | (k,x)::T=>S.blk (look 0 σ k)=x.ren σ/\BlksAs S σ T
theorem BlksAs.look {S:AState} {σ:List (Nat×Nat)}:∀{T:List (Nat×Blk)},BlksAs S σ T->∀k,look Blk.none T k≠ .none->S.blk (look 0 σ k)=(look Blk.none T k).ren σ
 | [],_,k,h=>absurd rfl h
 | (i,x)::T,h,k,D=>by
  rw[kK] at D ⊢;by_cases e:i=k;subst e;simp only[dG];exact h.1;simp only[e,cV] at D ⊢;exact BlksAs.look h.2 k D
def zPZ:List Cap->AV
 | [c]=>c.av
 | cs=> .tupc cs
theorem yOJ {σ:List (Nat×Nat)} {x:Blk}:x.ren σ≠ .none↔x≠ .none:=by cases x<;>simp[Blk.ren]
def zK7 (σ:List (Nat×Nat)) (keep:List Nat) (h:List (Nat×Blk)):List Nat:=
 σ.filterMap λq=>if keep.contains q.1&&h.any (λp=>Nat.beq p.1 q.1) then none else some q.2
def zO6 (σ:List (Nat×Nat)) (T h:List (Nat×Blk)):List (Nat×Blk):=
 (T.filter λp=>!h.any (λq=>Nat.beq q.1 p.1)).map λp=>(look 0 σ p.1,Blk.none)
theorem BlkOk.agree {w:World} {I:Im} {ρ G:Nat->Value} {M:Nat->Prop} {i:Nat} {x:Blk} {T:List Nat} (h:BlkOk w I ρ M i x) (hi: G i= ρ i) (ha:∀id,T.contains id=false->G id= ρ id):BlkOk w I G M i (zEE T x):=by
 cases x with
 | none=>trivial
 | row e size sh cells=>simpa only[BlkOk,zEE,hi] using h
 | map es=>simpa only[BlkOk,zEE,hi] using h
 | it es q=>simpa only[BlkOk,zEE,hi] using h
 | win e size k cells=>simpa only[BlkOk,zEE,hi] using h
 | box e cells=>
  obtain⟨b,arr,Y,Z,h3,h4,O,h6⟩:=h;refine⟨b,arr,by rw[hi];exact Y,Z,h3,h4,⟨by simpa using O.1,λj y av hj D=>?_⟩,h6⟩
  rw[dX] at D;cases K:cells[j]? with
  | none=>simp[K] at D
  | some H=>simp[K] at D;subst D;exact zPI (O.2 j y H hj K) ha
theorem yJW {h:List Nat} {x:Blk}:zEE h x≠ .none↔x≠ .none:=by cases x<;>simp[zEE]
structure Ren (σ:List (Nat×Nat)):Prop where
 keys:(σ.map Prod.fst).Nodup
 vals:(σ.map Prod.snd).Nodup
theorem zFO {σ:List (Nat×Nat)} {k:Nat} (h:wN σ k=true):(k,look 0 σ k)∈σ:=by
 induction σ with
 | nil=>simp[wN] at h
 | cons p σ D=>
  obtain⟨i,x⟩:=p;rw[kK];by_cases e:i=k;subst e;simp;simp only[e,cV];have hb:Nat.beq i k=false:=Bool.eq_false_iff.2 λh=>e (iE h);simp only[wN,ir,hb,eY] at h;exact ic _ (D h)
theorem yBY {σ:List (Nat×Nat)} {k x:Nat} (h:(k,x)∈σ):wN σ k=true:=by simp only[wN,fT];exact⟨(k,x),h,by simp[ib]⟩
theorem z3J {σ:List (Nat×Nat)} (D:(σ.map Prod.fst).Nodup) {k x:Nat} (h:(k,x)∈σ):look 0 σ k=x:=by
 induction σ with
 | nil=>simp at h
 | cons p σ G=>
  obtain⟨i,y⟩:=p;rw[kK];simp only[ez,List.nodup_cons] at D;rcases dL.1 h with h | h;cases h;simp;have:i≠k:=λe=>D.1 (eK.2 ⟨(k,x),h,e.symm⟩);simp only[this,cV];exact G D.2 h
theorem yJX {σ:List (Nat×Nat)} (D:(σ.map Prod.snd).Nodup) {k H x:Nat} (h:(k,x)∈σ) (K:(H,x)∈σ):k=H:=by
 induction σ with
 | nil=>simp at h
 | cons p σ O=>
  simp only[ez,List.nodup_cons] at D;rcases dL.1 h with G | G<;>rcases dL.1 K with h2 | h2
  rw[<-G] at h2;exact(Prod.mk.inj h2).1.symm;exact absurd (eK.2 ⟨_,h2,by rw[<-G]⟩) D.1;exact absurd (eK.2 ⟨_,G,by rw[<-h2]⟩) D.1;exact O D.2 G h2
theorem z3K {σ:List (Nat×Nat)} (h:Ren σ) {k G:Nat} (H:wN σ k=true) (D:wN σ G=true) (e:look 0 σ k=look 0 σ G):k=G:=
 yJX h.vals (zFO H) (by rw[e];exact zFO D)
theorem zIU {σ:List (Nat×Nat)} {k:Nat} (h:wN σ k=true):look 0 σ k∈σ.map Prod.snd:=eK.2 ⟨_,zFO h,rfl⟩
theorem z3L {σ:List (Nat×Nat)} (D:Ren σ) {i:Nat} (h:i∈σ.map Prod.snd):∃k,wN σ k=true/\look 0 σ k=i:=by obtain⟨⟨k,x⟩,G,rfl⟩:=eK.1 h;exact⟨k,yBY G,z3J D.keys G⟩
theorem zR7 {σ:List (Nat×Nat)} (D:Ren σ):∀{T:List (Nat×Blk)},(∀p∈T,wN σ p.1=true)->∀{k:Nat},wN σ k=true->look Blk.none (renL σ T) (look 0 σ k)=(look Blk.none T k).ren σ
 | [],_,k,_=>rfl
 | (i,x)::T,h,k,G=>by
  show look Blk.none ((look 0 σ i,x.ren σ)::renL σ T) (look 0 σ k)=_;rw[kK,kK];by_cases e:i=k;subst e;simp;have:look 0 σ i≠look 0 σ k:=λH=>e (z3K D (h (i,x) (by simp)) G H);simp only[this,e,cV];exact zR7 D (λp K=>h p (by simp[K])) G
theorem z3M {T:List (Nat×Blk)} (h:∀p∈T,p.2≠ .none) (k:Nat):T.any (λp=>Nat.beq p.1 k)=true↔look Blk.none T k≠ .none:=by
 induction T with
 | nil=>simp[look]
 | cons p T G=>
  obtain⟨i,x⟩:=p;rw[kK,ir];by_cases e:i=k;subst e;simp[ib,h (i,x) (by simp)];have:Nat.beq i k=false:=Bool.eq_false_iff.2 λh=>e (iE h);simp only[this,eY,e,cV];exact G λp D=>h p (by simp[D])
def Blk.isSome:Blk->Bool
 | .none=>false
 | _=>true
def zDE (σ:List (Nat×Nat)) (T:List (Nat×Blk)):Bool:=T.all λp=>wN σ p.1&&p.2.idsLt σ &&p.2.isSome
theorem zS9 {σ:List (Nat×Nat)} {T:List (Nat×Blk)} (h:zDE σ T=true):∀p∈T,wN σ p.1=true/\p.2.idsLt σ =true/\p.2≠ .none:=by intro p k;have:=dS.1 h p k;simp only[dE] at this;refine⟨this.1.1,this.1.2,λe=>?_⟩;rw[e] at this;simp[Blk.isSome] at this
theorem zNT {T:List (Nat×Blk)} {k:Nat} (h:look Blk.none T k≠ .none):(k,look Blk.none T k)∈T:=by
 induction T with
 | nil=>exact absurd rfl h
 | cons p T D=>
  obtain⟨i,x⟩:=p;rw[kK] at h ⊢;by_cases e:i=k;subst e;simp;simp only[e,cV] at h ⊢;exact ic _ (D h)
theorem yBZ {σ:List (Nat×Nat)} {T h:List (Nat×Blk)} (i:Nat):look Blk.none (zO6 σ T h) i= .none:=by
 unfold zO6
 induction (T.filter λp=>!h.any (λq=>Nat.beq q.1 p.1)) with
 | nil=>rfl
 | cons p l k=>rw[ez,kK];split;rfl;exact k
def zQX (S:AState) (σ:List (Nat×Nat)) (T:List (Nat×Blk)):Prop:= ∀k,wN σ k=true->look Blk.none T k= .none->S.blk (look 0 σ k)= .none
section
variable {P:Program} {r:Option Nat} {E:Env} {S:AState} {d:Nat} {ty:TypeId} {pos:String} {af:Array Edge} {g:Option (Nat×Bool)}
theorem zZA {f:FuncId} {xf:Operand} {extra:List AV} {xs:List Operand} {ats:Array TypeId} {args:List Cap} {bu:AV} {T O:List (Nat×Blk)} {keep:List Nat} (σ:List (Nat×Nat)) (hn:d<E.n) (ap:Ren σ)
  (cq:∀A w I ρ C,SatAt E S A w I ρ C->∃ar:List Value,A.eval xf= .func (.func f) #[] ar.toArray/\Pw (Holds w I ρ) ar extra) (bl:ArgsAs σ (xs.map S.ev++extra) args) (cm:args.all (Cap.idsLt σ)=true) (cy:bu.idsLt σ =true) (hT:BlksAs S σ T) (ck:zDE σ T=true) (bw:zDE σ O=true)
  (cr:zQX S σ T) (cw:∀k,wN σ k=true->E.nm (look 0 σ k)=none\/(keep.contains k=true/\look Blk.none T k≠ .none/\look Blk.none O k≠ .none)) (hc:GCA P f args T keep bu O) (hE:E.wrB=true) (hG:E.gdt=zAS P:=by rfl):
  jJ P r E ⟨some d,.call {callee:= .value xf,args:=xs.toArray,argTypes:=ats},ty,pos,af,g⟩ S
   (((S.killL (zK7 σ keep O)).setL (renL σ O++zO6 σ T O)).put d (bu.ren σ)):=by
 rintro A w K Q ⟨I,ρ,C,Z⟩ hk
 obtain⟨⟨fn,hf,bq,bm⟩,bn⟩:=hc;have ba:=zS9 ck;have G:=zS9 bw
 let aq:Nat->Value:=λk=>ρ (look 0 σ k)
 have bg:∀k,wN σ k=true->ρ (look 0 σ k)= aq k:=λ_ _=>rfl;have az:∀k,look Blk.none T k≠ .none->wN σ k=true/\(look Blk.none T k).idsLt σ =true/\S.blk (look 0 σ k)=(look Blk.none T k).ren σ/\S.blk (look 0 σ k)≠ .none:=λk h=>by
  have:=ba _ (zNT h);have h2:=hT.look k h;exact⟨this.1,this.2.1,h2,by rw[h2];exact yOJ.2 h⟩
 have bo:Frag w I aq T:=by
  refine⟨λk=>?_,λk k' b h h1 h2 hb=>?_⟩
  ·by_cases h:look Blk.none T k= .none
   ·rw[h];trivial
   ·obtain⟨t1,t2,t3,_⟩:=az k h
    have:=Z.blks (look 0 σ k);rw[t3] at this;exact((BlkOk.ren bg t1 t2).2 this).mineM λ_ _ _ _=>trivial
  ·obtain⟨t1,_,_,t4⟩:=az k h1
   obtain⟨u1,_,_,u4⟩:=az k' h2;exact Z.dist _ _ b (λe=>h (z3K ap t1 u1 e)) t4 u4 hb
 obtain⟨ar,cz,cp⟩:=cq A w I ρ C Z;have cn:=bn w I aq (xs.map A.eval++ar) (λb j hi=>(Z.old b j hi).1) (hG▸Z.gl) bo (ArgsAs.holds bg bl cm (Pw.append (zB9 Z xs) cp));refine⟨λf _=>trivial,?_⟩;rw[Oper.semAt_eq _ _ _ (by simp)];have ce:(execOp A.eval ⟨some d,.call {callee:= .value xf,args:=xs.toArray,argTypes:=ats},ty,pos,af,g⟩).run P w= .ok (.enter f (xs.map A.eval++ar).toArray) w:=by
  simp only[execOp,resolve,cz,Deferred.ofValue];have cu:¬fn.name= "runtime.NumGoroutine" :=by simpa using bq
  have cv:¬fn.body=none:=by intro e;simp[e] at bm
  simp[invoke,callFunc,hf,cu,cv,eO]
 rw[ce];refine⟨by simp[fen,Fence.wide],?_⟩;show CallsIn Fence.wide 0 P f _ w _;refine gJ.2 (cn.mono ?_)
 rintro e w' ⟨v,I',bi,rfl,au,am,ay,ao,an,cd,aj,ax⟩
 let da:Nat->Nat:=λi=>look 0 (σ.map λp=>(p.2,p.1)) i
 let al:Nat->Value:=λi=>if i∈σ.map Prod.snd then bi (da i) else ρ i
 have aa:∀k,wN σ k=true->al (look 0 σ k)= bi k:=λk hk=>by
  simp only[al,zIU hk,dG];congr 1;refine z3J (σ:=σ.map λp=>(p.2,p.1)) ?_ (eK.2 ⟨_,zFO hk,rfl⟩);rw[List.map_map];exact ap.vals
 have ah:∀i,i∉σ.map Prod.snd->al i= ρ i:=λi hi=>by simp only[al,hi,cV]
 have agree:∀id,(zK7 σ keep O).contains id=false->al id= ρ id:=by
  intro id hl;by_cases hm:id∈σ.map Prod.snd
  ·obtain⟨k,hk,rfl⟩:=z3L ap hm
   rw[aa k hk];by_cases bd:(keep.contains k&&O.any (λp=>Nat.beq p.1 k))=true
   ·simp only[dE] at bd
    exact ax k bd.1 ((z3M (λp hp=>(G p hp).2.2) k).1 bd.2)
   ·exfalso
    have:(zK7 σ keep O).contains (look 0 σ k)=true:=by
     rw[gE];unfold zK7;rw[List.mem_filterMap];exact⟨_,zFO hk,by rw[dK bd]⟩
    rw[this] at hl;cases hl
  ·exact ah id hm
 have bh:∀b,xM T aq b->∃k,wN σ k=true/\look Blk.none T k≠ .none/\S.blk (look 0 σ k)≠ .none/\blockOf (ρ (look 0 σ k))=some b:=by
  rintro b ⟨k,h1,h2⟩
  obtain⟨t1,_,_,t4⟩:=az k h1;exact⟨k,t1,h1,t4,h2⟩
 have D:∀b,xM T aq b->E.mine b/\b<w.heap.size/\¬C b/\∃o,w.heap[b]? =some o/\isData o=true:=by
  intro b hb;obtain⟨k,_,_,h3,h4⟩:=bh b hb;exact⟨(Z.blt _ b h3 h4).1,(Z.blt _ b h3 h4).2,Z.cB _ b h3 h4,Z.cellBlk h3 h4⟩
 let S1:=(S.killL (zK7 σ keep O)).setL (renL σ O++zO6 σ T O)
 have bk:∀k,look Blk.none O k≠ .none->S1.blk (look 0 σ k)=(look Blk.none O k).ren σ/\wN σ k=true:=by
  intro k h;have hm:=G _ (zNT h);refine⟨?_,hm.1⟩;show look Blk.none ((renL σ O++zO6 σ T O)++(S.killL (zK7 σ keep O)).blks) (look 0 σ k)=_;have ha:(renL σ O).any (λp=>Nat.beq p.1 (look 0 σ k))=true:=by
   simp only[fT];exact⟨(look 0 σ k,(look Blk.none O k).ren σ),eK.2 ⟨_,zNT h,rfl⟩,by simp[ib]⟩
  rw[c8,zKO,dI ha,zR7 ap (λp hp=>(G p hp).1) hm.1]
 have Y:∀i,S1.blk i≠ .none->(∃k,wN σ k=true/\look Blk.none O k≠ .none/\i=look 0 σ k)\/(i∉σ.map Prod.snd/\S1.blk i=zEE (zK7 σ keep O) (S.blk i)/\S.blk i≠ .none):=by
  intro i h;by_cases hm:i∈σ.map Prod.snd
  ·obtain⟨k,hk,rfl⟩:=z3L ap hm
   by_cases ab:look Blk.none O k= .none
   ·exfalso
    apply h;show look Blk.none ((renL σ O++zO6 σ T O)++(S.killL (zK7 σ keep O)).blks) (look 0 σ k)=_;rw[c8,zKO];split
    ·rw[zR7 ap (λp hp=>(G p hp).1) hk,ab];rfl
    ·rw[zKO]
     split
     ·exact yBZ _
     ·rename_i hg
      show (S.killL (zK7 σ keep O)).blk (look 0 σ k)=_;rw[zY9];by_cases cc:look Blk.none T k= .none
      ·rw[cr k hk cc];rfl
      ·exfalso
       apply hg;simp only[fT];refine⟨(look 0 σ k,Blk.none),eK.2 ⟨(k,look Blk.none T k),e6.2 ⟨zNT cc,?_⟩,rfl⟩,by simp[ib]⟩;cases hx:O.any (λq=>Nat.beq q.1 k) with
       | false=>simp[hx]
       | true=>exact absurd ab ((z3M (λp hp=>(G p hp).2.2) k).1 hx)
   ·exact .inl ⟨k,hk,ab,rfl⟩
  ·have hb:S1.blk i=zEE (zK7 σ keep O) (S.blk i):=by
    show look Blk.none ((renL σ O++zO6 σ T O)++(S.killL (zK7 σ keep O)).blks) i=_;have h1:(renL σ O++zO6 σ T O).any (λp=>Nat.beq p.1 i)=false:=by
     rw[gP];intro p hp;have:p.1∈σ.map Prod.snd:=by
      rcases eQ.1 hp with hp | hp
      ·obtain⟨q,hq,rfl⟩:=eK.1 hp;exact zIU (G q hq).1
      ·obtain⟨q,hq,rfl⟩:=eK.1 hp;exact zIU (ba q (e6.1 hq).1).1
     simp only[ib];intro e;exact hm (e▸this)
    rw[zKO,h1];exact zY9 _ _ _
   exact .inr ⟨hm,hb,by rw[hb] at h;exact yJW.1 h⟩
 have ad:∀i b,i∉σ.map Prod.snd->S.blk i≠ .none->blockOf (ρ i)=some b->¬xM T aq b:=by
  intro i b hm h hb ho;obtain⟨k,hk,_,h3,h4⟩:=bh b ho;exact Z.dist i (look 0 σ k) b (λe=>hm (e▸zIU hk)) h h3 hb h4
 have cg:SatAt E S1 A w' I' al C:=by
  refine⟨λt=>?_,λi=>?_,λi i' b h hi cb hb=>?_,?_,λb j hi=>ay b j (Z.sub b j hi),λb j hi=>⟨(ao b j hi).1,?_⟩,Z.size,Z.defers.keep λq hq=>?_,λb j hi=>?_,λi b hi hb=>?_,λi u hu hi=>?_⟩
  ·show Holds w' I' al _ ((S.killL (zK7 σ keep O)).get t)
   rw[zY8];exact zPI ((Z.tmps t).mono am ay) agree
  ·by_cases h:S1.blk i= .none
   ·rw[h];trivial
   ·rcases Y i h with ⟨k,hk,ab,rfl⟩ | ⟨hm,hb,H⟩
    ·rw[(bk k ab).1]
     have hm:=G _ (zNT ab);refine((BlkOk.ren (M:=λ_=>True) aa hk hm.2.1).1 (an.ok k)).mineM λb _ ak _=>?_;rw[aa k hk] at ak;rcases (aj b ⟨k,ab,ak⟩).2 with h1 | h1
     ·exact E.mineB b (d8 (E.size _ _ _ Z.frame) h1)
     ·exact(D b h1).1
    ·rw[hb]
     refine BlkOk.agree ?_ (ah i hm) agree;refine((Z.blks i).mono am λb ak=>au.block b (Z.blt i b H ak).2 (ad i b hm H ak)).widenI ay λb j _ ak hi=>?_;rcases (ao b j hi).2 with h1 | h1 | h1
     ·exact h1
     ·have:=(Z.blt i b H ak).2;omega
     ·exact absurd h1 (ad i b hm H ak)
  ·rcases Y i hi with ⟨k,hk,ab,rfl⟩ | ⟨hm,bx,H⟩
   ·rw[aa k hk] at hb
    rcases Y i' cb with ⟨k2,bp,aw,rfl⟩ | ⟨be,bz,ai⟩
    ·rw[aa k2 bp]
     exact an.dist k k2 b (λe=>h (by rw[e])) ab aw hb
    ·rw[ah i' be]
     intro bc;rcases (aj b ⟨k,ab,hb⟩).2 with h1 | h1
     ·have:=(Z.blt i' b ai bc).2;omega
     ·exact ad i' b be ai bc h1
   ·rw[ah i hm] at hb
    rcases Y i' cb with ⟨k2,bp,aw,rfl⟩ | ⟨be,bz,ai⟩
    ·rw[aa k2 bp]
     intro bc;rcases (aj b ⟨k2,aw,bc⟩).2 with h1 | h1
     ·have:=(Z.blt i b H hb).2;omega
     ·exact ad i b hm H hb h1
    ·rw[ah i' be]
     exact Z.dist i i' b h H ai hb
  ·have ct:S1.ghost=S.ghost:=by
    unfold AState.ghost;show (match (S.killL (zK7 σ keep O)).get GT with | .gh k=>k | _=>0)=_;rw[zY8];exact yE5 _ _
   rw[ct];exact E.wr hE _ _ _ _ _ Z.frame au (λb hb=>⟨(D b hb).1,(D b hb).2.2⟩) (λb j hi=>am b j (Z.sub b j hi))
  ·rcases (ao b j hi).2 with h1 | h1 | h1
   ·exact(Z.old b j h1).2
   ·exact .inr (E.mineB b (d8 (E.size _ _ _ Z.frame) h1))
   ·exact .inr (D b h1).1
  ·refine(au.block q (cQ.1 hq).1 λho=>?_).trans hq
   obtain⟨o,h1,h2⟩:=(D q ho).2.2.2;rw[hq] at h1;cases h1;cases h2
  ·rcases (ao b j hi).2 with h1 | h1 | h1
   ·exact Z.cI b j h1
   ·intro hc;have:=E.csize _ _ _ Z.frame _ hc;omega
   ·exact(D b h1).2.2.1
  ·rcases Y i hi with ⟨k,hk,ab,rfl⟩ | ⟨hm,bx,H⟩
   ·rw[aa k hk] at hb
    rcases (aj b ⟨k,ab,hb⟩).2 with h1 | h1
    ·intro hc;have:=E.csize _ _ _ Z.frame _ hc;omega
    ·exact(D b h1).2.2.1
   ·rw[ah i hm] at hb;exact Z.cB i b H hb
  ·rcases Y i hi with ⟨k,hk,ab,rfl⟩ | ⟨hm,bx,H⟩
   ·rcases cw k hk with h0 | ⟨h1,h2,h3⟩
    ·rw[h0] at hu;cases hu
    ·rw[aa k hk,ax k h1 h3]
     exact Z.nm _ u hu (az k h2).2.2.2
   ·rw[ah i hm];exact Z.nm i u hu H
 exact hk _ _ ⟨I',al,C,cg.put hn ((Holds.ren aa cy).1 cd)⟩
theorem z3N {f:FuncId} {xf:Operand} {extra:List AV} {xs:List Operand} {ats:Array TypeId} {args D:List Cap} {T H:List (Nat×Blk)} {keep:List Nat} (σ:List (Nat×Nat)) (hn:d<E.n) (ak:Ren σ)
  (ad:∀A w I ρ C,SatAt E S A w I ρ C->∃K:List Value,A.eval xf= .func (.func f) #[] K.toArray/\Pw (Holds w I ρ) K extra) (G:ArgsAs σ (xs.map S.ev++extra) args) (ac:args.all (Cap.idsLt σ)=true) (aj:D.all (Cap.idsLt σ)=true) (hT:BlksAs S σ T) (ab:zDE σ T=true) (Z:zDE σ H=true)
  (ag:zQX S σ T) (ai:∀k,wN σ k=true->E.nm (look 0 σ k)=none\/(keep.contains k=true/\look Blk.none T k≠ .none/\look Blk.none H k≠ .none)) (hc:GC P f args T keep D H) (hE:E.wrB=true) (hG:E.gdt=zAS P:=by rfl):
  jJ P r E ⟨some d,.call {callee:= .value xf,args:=xs.toArray,argTypes:=ats},ty,pos,af,g⟩ S
   (((S.killL (zK7 σ keep H)).setL (renL σ H++zO6 σ T H)).put d ((zPZ D).ren σ)):=zZA σ hn ak ad G ac (by
  match D,aj with
  | [],_=>rfl
  | [x],hl=>
   have hx:x.idsLt σ =true:=by simpa using hl
   cases x<;>exact hx
  | x::y::zs,hl=>exact hl) hT ab Z ag ai ⟨hc.1,λw I ρ vs O Y h3 h4=>(hc.2 w I ρ vs O Y h3 h4).mono (by
   rintro e w' ⟨v,I',al,rfl,a1,a2,a3,a4,a5,aa,a6,a7⟩
   refine⟨v,I',al,rfl,a1,a2,a3,a4,a5,?_,a6,a7⟩
   match D,aa with
   | [],⟨ys,O,Y⟩=>exact⟨ys,O,Y⟩
   | [x],h=>exact Cap.holds h
   | x::y::zs,⟨ys,O,Y⟩=>exact⟨ys,O,Y⟩)⟩ hE hG
theorem z9G {f:FuncId} {xs:List Operand} {ats:Array TypeId} {args h:List Cap} {T G:List (Nat×Blk)} {keep:List Nat} (σ:List (Nat×Nat)) (hn:d<E.n) (ab:Ren σ)
  (D:ArgsAs σ (xs.map S.ev) args) (O:args.all (Cap.idsLt σ)=true) (aa:h.all (Cap.idsLt σ)=true) (hT:BlksAs S σ T) (K:zDE σ T=true) (H:zDE σ G=true)
  (Y:zQX S σ T) (Z:∀k,wN σ k=true->E.nm (look 0 σ k)=none\/(keep.contains k=true/\look Blk.none T k≠ .none/\look Blk.none G k≠ .none)) (hc:GC P f args T keep h G) (hE:E.wrB=true) (hG:E.gdt=zAS P:=by rfl):
  jJ P r E ⟨some d,.call {callee:= .value (.func f),args:=xs.toArray,argTypes:=ats},ty,pos,af,g⟩ S
   (((S.killL (zK7 σ keep G)).setL (renL σ G++zO6 σ T G)).put d ((zPZ h).ren σ)):=
 z3N σ hn ab (extra:=[]) (λA w I ρ C _=>⟨[],by simp[Act.eval],Pw.nil⟩) (by rw[eA];exact D) O aa hT K H Y Z hc hE hG
theorem z3O {f:FuncId} {xf:Operand} {cs:List Cap} {xs:List Operand} {ats:Array TypeId} {args D:List Cap} {T H:List (Nat×Blk)} {keep:List Nat} (σ:List (Nat×Nat)) (hn:d<E.n) (ag:Ren σ) (ad:S.ev xf= .clo f cs)
  (G:ArgsAs σ (xs.map S.ev++cs.map Cap.av) args) (Y:args.all (Cap.idsLt σ)=true) (ac:D.all (Cap.idsLt σ)=true) (hT:BlksAs S σ T) (O:zDE σ T=true) (K:zDE σ H=true)
  (aa:zQX S σ T) (ab:∀k,wN σ k=true->E.nm (look 0 σ k)=none\/(keep.contains k=true/\look Blk.none T k≠ .none/\look Blk.none H k≠ .none)) (Z:GC P f args T keep D H) (hE:E.wrB=true) (hG:E.gdt=zAS P:=by rfl):
  jJ P r E ⟨some d,.call {callee:= .value xf,args:=xs.toArray,argTypes:=ats},ty,pos,af,g⟩ S
   (((S.killL (zK7 σ keep H)).setL (renL σ H++zO6 σ T H)).put d ((zPZ D).ren σ)):=
 z3N σ hn ag (extra:=cs.map Cap.av) (λA w I ρ C hs=>by
  have h:=hs.ev xf;rw[ad] at h;obtain⟨ys,h1,h2⟩:=h;refine⟨ys,h1,by simpa using h2.1,λj x y hx hy=>?_⟩;rw[dX] at hy;obtain⟨c,Z,rfl⟩:=fc.1 hy;exact Cap.holds (h2.2 j x c hx Z)) G Y ac hT O K aa ab Z hE hG
end
open Go.RowKit Go.M
def outK (E:Env) (e:Exit) (S2:AState):Exit->AState->Prop:=λh S'=>h=e/\zGM E S' S2
def yOK {X Y:Type} (E:Env) (T:X->AState) (y:Y) (K:Exit->AState->Prop):Stp X Y->Exit->AState->Prop
 | .next x',.normal,S=>zGM E S (T x')
 | .next _,_,_=>False
 | .done _,.normal,_=>False
 | .done h,e,S=>h=y->K e S
section
variable {P:Program} {r:Option Nat} {E:Env} {S S2:AState} {K:Exit->AState->Prop}
theorem zR8 {e:Exit} (h:zGM E S S2):outK E e S2 e S:=⟨rfl,h⟩
theorem zVP {c:Code} {e:Exit} (D:Avc P r E c (outK E e S2) S) (G:K e S2):Avc P r E c K S:=λa w O=>
 g7 (D a w O) λY k w' ⟨S',H,h⟩=>by
  obtain⟨rfl,T⟩:=H;exact⟨S2,G,T k w' h⟩
theorem zB {c:Code} {X Y:Type} {body:X->Option (Stp X Y)} {x0:X} {y:Y} (T:X->AState) (h:zE body x0=some y) (G:zGM E S (T x0))
  (round:∀x s,body x=some s->Avc P r E c (yOK E T y K s) (T x)):Avc P r E (.loop c) K S:=by
 obtain⟨n,H⟩:=zMB.1 h;refine yEQ (ι:=Nat×X) (λq=>T q.2) (λq=>iter body q.1 q.2=some y) (λq=>q.1) (n,x0) H G ?_
 rintro⟨m,x⟩ k
 cases m with
 | zero=>cases k
 | succ m=>
  simp only[iter] at k;cases hb:body x with
  | none=>rw[hb] at k;cases k
  | some s=>
   rw[hb] at k;refine z2V (round x s hb) λe S' D=>?_;cases s with
   | next x'=>
    cases e with
    | normal=>exact⟨(m,x'),k,Nat.lt_succ_self m,D⟩
    | _=>exact D.elim
   | done Z=>
    have O:Z=y:=by simpa using k
    cases e with
    | normal=>exact D.elim
    | _=>exact D O
end
def ds (s:Str):DV:= .v (.string ⟨s.toArray⟩)
structure En (α:Type) where
 dv: α->DV
 size:Nat
 ok:∀x,okDV size (dv x)=true
def En.cells {h:Type} (e:En h) (x: h):List DV:=vG (e.dv x)
theorem zVQ {size:Nat} {d:DV} (h:okDV size d=true):(vG d).length=size:=by cases d<;>simp_all [okDV,vG]
theorem En.len {h:Type} (e:En h) (x: h):(e.cells x).length=e.size:=zVQ (e.ok x)
def eI:En Int:=⟨di,1,λ_=>rfl⟩
def e8:En Int:=⟨dby,1,λ_=>rfl⟩
def eB:En Bool:=⟨db,1,λ_=>rfl⟩
def eS:En Str:=⟨ds,1,λ_=>rfl⟩
def En.all {h:Type} (e:En h) (l:List h):List DV:=l.flatMap e.cells
def zH {h:Type} (e:En h) (l:List h):DV:= .sl e.size (e.all l)
def eL {h:Type} (e:En h):En (List h):=⟨zH e,1,λ_=>rfl⟩
section
variable {α:Type} (e:En α)
theorem jI (l:List α):(e.all l).length=l.length*e.size:=by
 induction l with
 | nil=>simp[En.all]
 | cons x l h=>simp only[En.all,d9,cU,dO] at h ⊢;rw[h,e.len,eG];omega
theorem zMC (l m:List α):e.all (l++m)=e.all l++e.all m:=by simp[En.all]
theorem zF6 (l:List α) (k:Nat):(e.all l).drop (k*e.size)=e.all (l.drop k):=by
 induction k generalizing l with
 | zero=>simp
 | succ k h=>
  cases l with
  | nil=>simp[En.all]
  | cons x l=>
   rw[List.drop_succ_cons,<-h l];show (e.cells x++e.all l).drop ((k+1)*e.size)=_;have:(k+1)*e.size=(e.cells x).length+k*e.size:=by rw[e.len,eG];omega
   rw[this,List.drop_length_add_append]
theorem zDN (l:List α) (k:Nat):(e.all l).take (k*e.size)=e.all (l.take k):=by
 induction k generalizing l with
 | zero=>simp[En.all]
 | succ k h=>
  cases l with
  | nil=>simp[En.all]
  | cons x l=>
   rw[List.take_succ_cons];show (e.cells x++e.all l).take ((k+1)*e.size)=e.cells x++e.all (l.take k);have:(k+1)*e.size=(e.cells x).length+k*e.size:=by rw[e.len,eG];omega
   rw[this,List.take_length_add_append,h]
theorem zON {l:List α} {k:Nat} {x: α} (h:l[k]? =some x) (off:Nat) (H:off<e.size):(e.all l)[k*e.size+off]? =(e.cells x)[off]?:=by
 have G:(e.all l)[k*e.size+off]? =((e.all l).drop (k*e.size))[off]?:=by rw[eT]
 rw[G,zF6];obtain⟨D,K⟩:=cX.1 h;rw[cY D,K];show (e.cells x++e.all (l.drop (k+1)))[off]? =_;rw[dY (by rw[e.len];exact H)]
theorem z0J {l:List α} {k:Nat} {x: α} (h:l[k]? =some x) (off n:Nat) (H:off+n<=e.size):((e.all l).drop (k*e.size+off)).take n=((e.cells x).drop off).take n:=by rw[<-List.drop_drop,zF6];obtain⟨D,G⟩:=cX.1 h;rw[cY D,G];show ((e.cells x++e.all (l.drop (k+1))).drop off).take n=_;rw[List.drop_append_of_le_length (by rw[e.len];omega),List.take_append_of_le_length (by simp only[eH,e.len];omega)]
theorem yJY {l:List α} {k:Nat} {x: α} (h:l[k]? =some x) {y: α} {off:Nat} {d:DV} (D:off<e.size) (G:(e.cells x).set off d=e.cells y):(e.all l).set (k*e.size+off) d=e.all (l.set k y):=by
 induction l generalizing k with
 | nil=>simp at h
 | cons z l H=>
  cases k with
  | zero=>
   simp at h;subst h;show (e.cells z++e.all l).set (0*e.size+off) d=e.cells y++e.all l;rw[gB,eE,List.set_append_left _ _ (by rw[e.len];exact D),G]
  | succ k=>
   simp at h;show (e.cells z++e.all l).set ((k+1)*e.size+off) d=e.cells z++e.all (l.set k y);rw[<-H h];have:(k+1)*e.size+off=(e.cells z).length+(k*e.size+off):=by rw[e.len,eG];omega
   rw[this,List.set_append_right _ _ (by omega)];simp
end
theorem wU {k:Type} {l:List k} {i:Int} {v: k} (h:yD l i=some v):0<=i/\i=(i.toNat:Int)/\i.toNat<l.length/\l[i.toNat]? =some v:=by unfold yD at h;split at h;rename_i hi;exact⟨hi,by omega,(cX.1 h).1,h⟩;cases h
theorem zP0 (s:Str):(⟨s.toArray⟩:ByteArray).toList=s:=by rw[ByteArray.toList_eq]
open Go.RowKit Go.M
section
variable {P:Program} {r:Option Nat} {E:Env} {S:AState} {d:Nat} {ty:TypeId} {pos:String} {af:Array Edge} {g:Option (Nat×Bool)}
section ints
variable {k:IntKind} {x y:Operand} {a b:Int} {tx tz:TypeId} (hn:d<E.n) (hx:S.ev x= .d (.v (.int k a))) (hy:S.ev y= .d (.v (.int k b)))
include hn hx hy
theorem zZB:AOp P r E S ⟨some d,.binOp .add tx x y tz,ty,pos,af,g⟩ d (.d (.v (.int k (k.wrap (a+b))))):=
 ⟨rfl,hn,λS' h=>jQ rfl hn (by simp) λA w I ρ C D=>by
  simp only[execOp,D.val ((h.ev (by simp[Op.operands])).trans hx),D.val ((h.ev (by simp[Op.operands])).trans hy)];simp[binOp,eqGuard,Op.intArith]⟩
theorem zTA:AOp P r E S ⟨some d,.binOp .sub tx x y tz,ty,pos,af,g⟩ d (.d (.v (.int k (k.wrap (a-b))))):=
 ⟨rfl,hn,λS' h=>jQ rfl hn (by simp) λA w I ρ C D=>by
  simp only[execOp,D.val ((h.ev (by simp[Op.operands])).trans hx),D.val ((h.ev (by simp[Op.operands])).trans hy)];simp[binOp,eqGuard,Op.intArith]⟩
theorem yE6:AOp P r E S ⟨some d,.binOp .mul tx x y tz,ty,pos,af,g⟩ d (.d (.v (.int k (k.wrap (a*b))))):=
 ⟨rfl,hn,λS' h=>jQ rfl hn (by simp) λA w I ρ C D=>by
  simp only[execOp,D.val ((h.ev (by simp[Op.operands])).trans hx),D.val ((h.ev (by simp[Op.operands])).trans hy)];simp[binOp,eqGuard,Op.intArith]⟩
theorem yM9 {c:Int} (D:zNS k.wrap a b=some c):AOp P r E S ⟨some d,.binOp .quo tx x y tz,ty,pos,af,g⟩ d (.d (.v (.int k c))):=
 ⟨rfl,hn,λS' h=>jQ rfl hn (by simp) λA w I ρ C G=>by
  unfold zNS at D;split at D;cases D;rename_i hb;cases D;simp only[execOp,G.val ((h.ev (by simp[Op.operands])).trans hx),G.val ((h.ev (by simp[Op.operands])).trans hy)];simp[binOp,eqGuard,Op.intDiv,hb]⟩
theorem yNA {c:Int} (D:zKF a b=some c):AOp P r E S ⟨some d,.binOp .rem tx x y tz,ty,pos,af,g⟩ d (.d (.v (.int k c))):=
 ⟨rfl,hn,λS' h=>jQ rfl hn (by simp) λA w I ρ C G=>by
  unfold zKF at D;split at D;cases D;rename_i hb;cases D;simp only[execOp,G.val ((h.ev (by simp[Op.operands])).trans hx),G.val ((h.ev (by simp[Op.operands])).trans hy)];simp[binOp,eqGuard,Op.intDiv,hb]⟩
end ints
theorem yOL {k h:IntKind} {x:Operand} {a:Int} {D td:TypeId} {ds:TypeDesc} (H:d<E.n) (K:P.underlying D=some ds) (G:P.underlying td=some (.int h)) (O:S.ev x= .d (.v (.int k a))):
  AOp P r E S ⟨some d,.convert D td x,ty,pos,af,g⟩ d (.d (.v (.int h (h.wrap a)))):=z6J H K G O
section strs
variable {x y:Operand} {a b:Str} {tx tz:TypeId} (hn:d<E.n) (hx:S.ev x= .d (ds a)) (hy:S.ev y= .d (ds b))
include hn hx hy
theorem zP1:AOp P r E S ⟨some d,.binOp .eql tx x y tz,ty,pos,af,g⟩ d (.d (.v (.bool (a==b)))):=by
 have:=yOB (P:=P) (r:=r) (ty:=ty) (pos:=pos) (af:=af) (g:=g) (tx:=tx) (tz:=tz) hn hx hy
 rwa [zP0,zP0] at this
theorem z6R:AOp P r E S ⟨some d,.binOp .neq tx x y tz,ty,pos,af,g⟩ d (.d (.v (.bool (!(a==b))))):=by
 have:=yOC (P:=P) (r:=r) (ty:=ty) (pos:=pos) (af:=af) (g:=g) (tx:=tx) (tz:=tz) hn hx hy
 rwa [zP0,zP0] at this
theorem yE7:AOp P r E S ⟨some d,.binOp .lss tx x y tz,ty,pos,af,g⟩ d (.d (.v (.bool (Op.bytesLess a b)))):=by
 have:=yOD (P:=P) (r:=r) (ty:=ty) (pos:=pos) (af:=af) (g:=g) (tx:=tx) (tz:=tz) hn hx hy
 rwa [zP0,zP0] at this
theorem yOM:AOp P r E S ⟨some d,.binOp .gtr tx x y tz,ty,pos,af,g⟩ d (.d (.v (.bool (!Op.bytesLess a b&& !(a==b))))):=
 ⟨rfl,hn,λS' h=>jQ rfl hn (by simp) λA w I ρ C k=>by
  have D:A.eval x= .string ⟨a.toArray⟩:=k.val ((h.ev (by simp[Op.operands])).trans hx);have G:A.eval y= .string ⟨b.toArray⟩:=k.val ((h.ev (by simp[Op.operands])).trans hy);simp only[execOp,D,G];simp[binOp,eqGuard,Op.stringOp,zP0]⟩
end strs
theorem zVR {t:TypeId} {x:Operand} {s:Str} (h:d<E.n) (k:P.underlying t=some .string) (D:S.ev x= .d (ds s)):
  AOp P r E S ⟨some d,.call {callee:= .builtin .len,args:= #[x],argTypes:= #[t]},ty,pos,af,g⟩ d (.d (.v (.int .i64 s.length))):=by
 have:=yBO (P:=P) (r:=r) (ty:=ty) (pos:=pos) (af:=af) (g:=g) h k D;have e:(⟨s.toArray⟩:ByteArray).size=s.length:=by simp[ByteArray.size]
 rwa [e] at this
theorem yE8 {t:TypeId} {x k:Operand} {s:Str} {Z:IntKind} {i c:Int} (O:d<E.n) (T:P.underlying t=some .string) (Y:S.ev x= .d (ds s)) (hi:S.ev k= .d (.v (.int Z i))) (h:z3I s i=some c):
  AOp P r E S ⟨some d,.index t x k,ty,pos,af,g⟩ d (.d (.v (.int .u8 c))):=by
 unfold z3I at h;cases hb:yD s i with
 | none=>rw[hb] at h;cases h
 | some b=>
  rw[hb] at h;cases h;obtain⟨h0,G,H,K⟩:=wU hb;have e:(⟨s.toArray⟩:ByteArray).size=s.length:=by simp[ByteArray.size]
  have:=yEZ (P:=P) (r:=r) (ty:=ty) (pos:=pos) (af:=af) (g:=g) O T Y hi G (by rw[e];exact H)
  have D:(s.toArray.toList.getD i.toNat 0)=b:=by simp[eF,K]
  simp only[D] at this;exact this
section sl
variable {α:Type} {en:En α} {t e bytes:Nat} {z:Value} {l:List α} {x:Operand}
theorem z3P (k:d<E.n) (h:SlTy P t e en.size bytes z) (D:S.ev x= .d (zH en l)):
  AOp P r E S ⟨some d,.call {callee:= .builtin .len,args:= #[x],argTypes:= #[t]},ty,pos,af,g⟩ d (.d (.v (.int .i64 l.length))):=
 yJS k h D (jI en l)
theorem yON {id:Nat} {G:Bool} (k:d<E.n) (h:SlTy P t e en.size bytes z) (D:S.ev x= .row id) (hb:S.blk id= .row e en.size G (en.all l)):
  AOp P r E S ⟨some d,.call {callee:= .builtin .len,args:= #[x],argTypes:= #[t]},ty,pos,af,g⟩ d (.d (.v (.int .i64 l.length))):=
 yBN k h D hb (jI en l)
theorem k6 {k:Operand} {K:IntKind} {i:Int} {v: α} (G:d<E.n) (D:SlTy P t e en.size bytes z) (H:S.ev x= .d (zH en l)) (hi:S.ev k= .d (.v (.int K i))) (h:yD l i=some v):
  AOp P r E S ⟨some d,.indexAddr t x k,ty,pos,af,g⟩ d (.ip (en.all l) (i.toNat*en.size)):=
 yBP G D H hi (wU h).2.1 (jI en l) (wU h).2.2.1
theorem zF7 {id:Nat} {O:Bool} {k:Operand} {K:IntKind} {i:Int} {v: α} (G:d<E.n) (D:SlTy P t e en.size bytes z) (H:S.ev x= .row id) (hb:S.blk id= .row e en.size O (en.all l)) (hi:S.ev k= .d (.v (.int K i))) (h:yD l i=some v):
  AOp P r E S ⟨some d,.indexAddr t x k,ty,pos,af,g⟩ d (.ptr id (i.toNat*en.size)):=
 z21 G D H hb hi (wU h).2.1 (jI en l) (wU h).2.2.1
theorem z6 {tt:TypeId} {i:Int} {v: α} {off:Nat} {y:DV} (D:d<E.n) (k:OneTy P tt) (H:S.ev x= .ip (en.all l) (i.toNat*en.size+off)) (G:yD l i=some v) (h:(en.cells v)[off]? =some y):
  AOp P r E S ⟨some d,.load tt x,ty,pos,af,g⟩ d (.d y):=
 kW D k H (by rw[zON en (wU G).2.2.2 off (by rw[<-en.len v];exact(cX.1 h).1)];exact h)
theorem wY {tt:TypeId} {id:Nat} {K:Bool} {i:Int} {v: α} {off:Nat} {y:DV} (D:d<E.n) (k:OneTy P tt) (H:S.ev x= .ptr id (i.toNat*en.size+off)) (hb:S.blk id= .row e en.size K (en.all l)) (G:yD l i=some v) (h:(en.cells v)[off]? =some y):
  AOp P r E S ⟨some d,.load tt x,ty,pos,af,g⟩ d (.d y):=
 z6K D k H hb (by rw[zON en (wU G).2.2.2 off (by rw[<-en.len v];exact(cX.1 h).1)];exact h)
theorem zAN {tt n:Nat} {i:Int} {v: α} {off:Nat} {es:List DV} (D:d<E.n) (h:AggTy P tt n) (K:S.ev x= .ip (en.all l) (i.toNat*en.size+off)) (H:yD l i=some v) (O:((en.cells v).drop off).take n=es) (k:es.length=n) (G:off+n<=en.size):
  AOp P r E S ⟨some d,.load tt x,ty,pos,af,g⟩ d (.d (.agg es)):=
 zL8 D h K (by rw[z0J en (wU H).2.2.2 off n G];exact O) k
theorem vP {tt n:Nat} {id:Nat} {T:Bool} {i:Int} {v: α} {off:Nat} {es:List DV} (D:d<E.n) (h:AggTy P tt n) (K:S.ev x= .ptr id (i.toNat*en.size+off)) (hb:S.blk id= .row e en.size T (en.all l)) (H:yD l i=some v) (O:((en.cells v).drop off).take n=es) (k:es.length=n) (G:off+n<=en.size):
  AOp P r E S ⟨some d,.load tt x,ty,pos,af,g⟩ d (.d (.agg es)):=
 z23 D h K hb (by rw[z0J en (wU H).2.2.2 off n G];exact O) k
end sl
theorem z3Q {w:World} {I:Im} {ρ:Nat->Value} {v:Value} {cells:List DV} (h:Rep w I v (.pt cells)):Holds w I ρ v (.ip cells 0):=by
 cases h with
 | pt b off xs cells H D k G=>exact⟨b,off,xs,rfl,⟨H,G⟩,k,D⟩
theorem vY {s k off n:Nat} {t:TypeId} {x:Operand} {cells:List DV} (H:d<E.n) (O:FldTy P s k off n t) (hx:S.ev x= .d (.pt cells)):
  AOp P r E S ⟨some d,.fieldAddr s x k,ty,pos,af,g⟩ d (.ip cells (0+off)):=
 ⟨rfl,H,λS' T=>zY rfl H (by simp) λA w I ρ C Z=>by
  have h:=Z.ev x;rw[(T.ev (by simp[Op.operands])).trans hx] at h;obtain⟨b,G,xs,hv,Y,K,D⟩:=z3Q (ρ:=ρ) h;refine⟨.pointer (some ⟨b,G+(0+off),none⟩),?_,b,G,xs,rfl,Y,K,D⟩;simp only[execOp,hv,cS,zKM O w b (G+0),fX];rfl⟩
theorem k5 {t n:Nat} {x:Operand} {cells:List DV} (G:d<E.n) (K:AggTy P t n) (hx:S.ev x= .d (.pt cells)) (Y:cells.length=n):
  AOp P r E S ⟨some d,.load t x,ty,pos,af,g⟩ d (.d (.agg cells)):=
 ⟨rfl,G,λS' O=>zY rfl G (by simp) λA w I ρ C Z=>by
  have h:=Z.ev x;rw[(O.ev (by simp[Op.operands])).trans hx] at h;obtain⟨b,o',xs,hv,D,H,k⟩:=z3Q (ρ:=ρ) h;refine⟨.agg xs.toArray,?_,.agg _ _ D.1 H D.2⟩;simp only[execOp,hv,cS,fJ];rw[zEB w K b o' xs (by rw[D.1];exact Y) (λj v T=>(k j v T).1)]
  rfl⟩
theorem zOO {t:TypeId} {x:Operand} {e:DV} (k:d<E.n) (h:OneTy P t) (D:S.ev x= .d (.pt [e])):
  AOp P r E S ⟨some d,.load t x,ty,pos,af,g⟩ d (.d e):=yBS k h D rfl
theorem SatAt.newPt {A:Act} {w:World} {I:Im} {ρ:Nat->Value} {C:Nat->Prop} (H:SatAt E S A w I ρ C) {e:Nat} {xs:List Value} {cells:List DV} (O:Reps w I xs cells) (Z:∀x∈xs,x.oneCell'=true):
  ∃G:Im,SatAt E S A (w.alloc (.cells xs.toArray e)) G ρ C/\Rep (w.alloc (.cells xs.toArray e)) G (.pointer (some ⟨w.heap.size,0,none⟩)) (.pt cells):=by
 have T:∀b j,I b j->b<w.heap.size:=λb j h=>(H.old b j h).1;have hB:Below w.heap.size w (w.alloc (.cells xs.toArray e)):=⟨rfl,rfl,rfl,by simp,λk hk=>_root_.Go.heap_alloc_old w _ hk⟩
 let G:Im:=λb j=>I b j\/b=w.heap.size
 have D:∀b j,I b j->G b j:=λb j h=> .inl h;have K:=H.grow hB;refine⟨G,K.widen (B:=w.heap.size) D (λb j hi=>?_) (λi b hi hb=>(H.blt i b hi hb).2) (E.size _ _ _ H.frame) (λb hc=>E.csize _ _ _ H.frame b hc),?_⟩
 ·rcases hi with hi | rfl
  ·exact⟨by have:=T b j hi;simp;omega,.inl hi⟩
  ·exact⟨by simp,.inr (dA _)⟩
 ·have Y:=O.mono (zFK (.cells xs.toArray e) T) D
  refine .pt _ _ xs cells Y.1 (λj x hj=>⟨?_,.inr rfl⟩) Z Y.2;rw[eE,fb _ _ j xs.toArray e (0,0) (gV w _)];simpa using hj
theorem zZC {k:TypeId} {x:Operand} {u:DV} {size:Nat} (H:d<E.n) (hx:S.ev x= .d u) (D:okDV size u=true):
  AOp P r E S ⟨some d,.box k x,ty,pos,af,g⟩ d (.d (.pt (vG u))):=
 ⟨rfl,H,λS' Z=>zAM (by simp) λA w I ρ C K=>by
  have h:=K.ev x;rw[(Z.ev (by simp[Op.operands])).trans hx] at h;obtain⟨T,Y,_⟩:=Rep.flat h D;obtain⟨O,G,hr⟩:=K.newPt (e:=k) T Y;refine⟨.pointer (some ⟨w.heap.size,0,none⟩),_,?_,O,ρ,C,G.put H hr⟩;simp[execOp,Instr.box,newVar,newRow]⟩
structure StTy (P:Program) (t:TypeId) (places:List (Nat×Nat)) (zs:List Value):Prop where
 und:∃fields,P.underlying t=some (.struct fields)/\∀w,(fields.mapM λ(f:Field)=>do pure (f.offset,<-sizeOf f.type)).run P w= .ok places.toArray w
 zero:∀w,(zeroValue t).run P w= .ok (.agg zs.toArray) w
 one:∀x∈zs,x.oneCell'=true
def zPJ (places:List (Nat×Nat)):List DV->List (Nat×DV)->Option (List DV)
 | cells,[]=>some cells
 | cells,(i,v)::rest=>match places[i]? with
  | none=>none
  | some (off,size)=>if okDV size v&&Nat.ble (off+size) cells.length then zPJ places (cells.take off++vG v++cells.drop (off+size)) rest else none
theorem zQY {w:World} {I:Im} {places:List (Nat×Nat)}:∀(ds:List (Nat×DV)) (vs:List (Nat×Value)) (arr:Array Value) (cells h:List DV),Reps w I arr.toList cells->(∀x∈arr.toList,x.oneCell'=true)->
  Pw (λ(v:Nat×Value) (y:Nat×DV)=>v.1=y.1/\Rep w I v.2 y.2) vs ds->zPJ places cells ds=some h->
  ∃k,Instr.fill (λi=>places[i]?) arr vs=some k/\Reps w I k.toList h/\∀x∈k.toList,x.oneCell'=true:=by
 intro ds
 induction ds with
 | nil=>
  intro vs arr cells h O T H D;have:vs= []:=cP H.1;subst this;simp only[zPJ,fD] at D;subst D;exact⟨arr,rfl,O,T⟩
 | cons p ds ih=>
  intro vs arr cells h O T H D;obtain⟨i,y⟩:=p;cases vs with
  | nil=>have:=H.1;simp at this
  | cons q vs=>
   obtain⟨i',v⟩:=q;obtain⟨hi,hv⟩:=H.2 0 (i',v) (i,y) rfl rfl;simp only at hi hv;subst hi;simp only[zPJ] at D;cases G:places[i']? with
   | none=>simp[G] at D
   | some os=>
    obtain⟨off,size⟩:=os;simp only[G] at D;split at D
    ·rename_i hc
     simp only[dE] at hc;obtain⟨K,ac,ad⟩:=Rep.flat hv hc.1;have ag:off+size<=cells.length:=hO hc.2;have aj:v.cells.size=size:=by rw[<-eM,K.1,ad]
     have aa:arr.toList.length=cells.length:=O.1;have ah:Reps w I (arr.toList.take off++v.cells.toList++arr.toList.drop (off+size)) (cells.take off++vG y++cells.drop (off+size)):=
      Pw.append (Pw.append (O.take off) K) (O.drop (off+size))
     obtain⟨k,Z,ai,Y⟩:=ih vs (arr.toList.take off++v.cells.toList++arr.toList.drop (off+size)).toArray _ h (by simpa using ah) (by
      intro x hx;simp only[eQ] at hx;rcases hx with (hx | hx) | hx
      ·exact T x (eC hx)
      ·exact ac x hx
      ·exact T x (eP hx)) ⟨by have:=H.1;simpa using this,λj a b Z hb=>H.2 (j+1) a b (by simpa using Z) (by simpa using hb)⟩ D
     refine⟨k,?_,ai,Y⟩;rw[z2Y (off:=off) (size:=size) G aj (by rw[<-eM,aa];exact ag)]
     exact Z
    ·cases D
def dvP (S:AState):List (Nat×Operand)->Option (List (Nat×DV))
 | []=>some []
 | (i,x)::r=>match S.ev x,dvP S r with
  | .d y,some ys=>some ((i,y)::ys)
  | _,_=>none
theorem zLI {A:Act} {w:World} {I:Im} {ρ:Nat->Value} {C:Nat->Prop} (D:SatAt E S A w I ρ C):∀{H:List (Nat×Operand)} {ds:List (Nat×DV)},dvP S H=some ds->
  Pw (λ(v:Nat×Value) (y:Nat×DV)=>v.1=y.1/\Rep w I v.2 y.2) (H.map λp=>(p.1,A.eval p.2)) ds
 | [],ds,h=>by simp[dvP] at h;subst h;exact Pw.nil
 | (i,x)::r,ds,h=>by
  simp only[dvP] at h;split at h
  ·rename_i y ys K k
   cases h;have G:=D.ev x;rw[K] at G;exact Pw.cons ⟨rfl,G⟩ (zLI D k)
  ·cases h
theorem zLJ {S':AState} {o:Oper} (D:Agree S S' o):∀{k:List (Nat×Operand)},(∀p∈k,p.2∈o.op.operands)->dvP S' k=dvP S k
 | [],_=>rfl
 | (i,x)::r,h=>by
  simp only[dvP];rw[D.ev (h (i,x) (by simp)),zLJ D λp G=>h p (by simp[G])]
theorem zFG {t:TypeId} {places:List (Nat×Nat)} {zs:List Value} {G:List (Nat×Operand)} {ds:List (Nat×DV)} {cells:List DV} (Y:d<E.n) (H:StTy P t places zs) (K:dvP S G=some ds) (hf:zPJ places (zs.map DV.v) ds=some cells):
  AOp P r E S ⟨some d,.build t G.toArray,ty,pos,af,g⟩ d (.d (.agg cells)):=
 ⟨rfl,Y,λS' ha=>zY rfl Y (by simp) λA w I ρ C hs=>by
  obtain⟨D,hu,O⟩:=H.und;have k:dvP S' G=some ds:=(zLJ ha (λp O=>by simp only[Op.operands];simp;exact⟨p.1,O⟩)).trans K
  obtain⟨h,Z,T,h3⟩:=zQY (places:=places) ds (G.map λp=>(p.1,A.eval p.2)) zs.toArray (zs.map DV.v) cells (by simpa using zPV w I zs) (by simpa using H.one) (zLI hs k) hf;refine⟨.agg h,?_,by have:=Rep.agg (w:=w) (I:=I) h.toList cells T.1 h3 T.2;rw[Array.toArray_toList] at this;exact this⟩
  have hz:=H.zero w;simp only[execOp,Instr.build,eO,cS,hz,cW,dJ hu,O w,Value.cells,eX,Z,dV]⟩
end
open Go.RowKit Go.M
section
variable {P:Program} {r:Option Nat} {E:Env} {S:AState} {d:Nat} {ty:TypeId} {pos:String} {af:Array Edge} {g:Option (Nat×Bool)}
variable {α:Type} {en:En α} {t e bytes:Nat} {z:Value} {l m l':List α} {x s:Operand}
theorem zQZ (h:app l m=some l'):l'=l++m/\l.length+m.length<=LIM:=by unfold app at h;split at h;rename_i k;exact⟨(hP h).symm,k⟩;cases h
theorem zZD (hb:bytes<=32768) (h:l.length+m.length<=LIM):(l.length+m.length)*bytes<=140737488355328:=by have k:(l.length+m.length)*bytes<=4294967296*bytes:=dT _ h;have D:4294967296*bytes<=4294967296*32768:=gS _ hb;omega
theorem yE9 {id:Nat} {h:Bool} {cells:List DV} (hb:S.blk id= .row e en.size h cells) (news:List DV):(S.kill id).app id news=(S.kill id).setBlk id (.row e en.size h (cells++news)):=by unfold AState.app;rw[zJB,hb];rfl
theorem z7 {id:Nat} {H:Bool} (Y:d<E.n) (O:SlTy P t e en.size bytes z) (Z:S.ev s= .row id) (hb:S.blk id= .row e en.size H (en.all l)) (hx:S.ev x= .d (zH en m)) (T:app l m=some l') (k:0<bytes) (h:bytes<=32768)
  (K:E.wrB=true) (G:E.nm id=none):
  jJ P r E ⟨some d,.call {callee:= .builtin .append,args:= #[s,x],argTypes:= #[t,t]},ty,pos,af,g⟩ S (((S.kill id).setBlk id (.row e en.size H (en.all l'))).put d (.row id)):=by
 obtain⟨rfl,D⟩:=zQZ T;have:=z6L (P:=P) (r:=r) (ty:=ty) (pos:=pos) (af:=af) (g:=g) Y O Z hb hx (jI en l) (jI en m) k (zZD h D) K G;rw[yE9 hb] at this;rw[zMC];exact this
theorem z6T {n:Int} {zero: α} (hn:d<E.n) (Z:SlTy P t e en.size bytes z) (hx:S.ev x= .d (.v (.int .i64 n))) (hz:z.cells.toList.map DV.v=en.cells zero) (D:mkM zero n=some l) (h:bytes<=32768) (G:E.nm d=none):
  jJ P r E ⟨some d,.makeSlice t x x,ty,pos,af,g⟩ S (((S.kill d).setBlk d (.row e en.size false (en.all l))).put d (.row d)):=by
 unfold mkM at D;split at D
 ·rename_i O
  cases D;have H:n=((n.toNat:Nat):Int):=by omega
  have K:n.toNat*bytes<=140737488355328:=by
   have H:n.toNat*bytes<=4294967296*bytes:=dT _ O.2;have K:4294967296*bytes<=4294967296*32768:=gS _ h;omega
  have:=zYU (P:=P) (r:=r) (ty:=ty) (pos:=pos) (af:=af) (g:=g) hn Z hx H K (by have:=O.2;unfold LIM at this;unfold maxLen;omega) G
  have Y:zKK z n.toNat=en.all (List.replicate n.toNat zero):=by
   unfold zKK;rw[hz]
   induction n.toNat with
   | zero=>rfl
   | succ k T=>simp only[List.replicate_succ,gQ,En.all,d9] at T ⊢;rw[T]
  rw[Y] at this;exact this
 ·cases D
theorem zOP {i:Int} {v: α} (h:zBD l i v=some l'):l'=l.set i.toNat v/\0<=i/\i.toNat<l.length:=by unfold zBD at h;split at h;rename_i k;exact⟨(hP h).symm,k⟩;cases h
theorem uK {tt:TypeId} {y:Operand} {id off:Nat} {i:Int} {v k: α} {u:DV} (H:OneTy P tt) (Z:S.ev x= .ptr id (i.toNat*en.size+off)) (hb:S.blk id= .row e en.size false (en.all l)) (hy:S.ev y= .d u) (Y:yD l i=some v)
  (T:(en.cells v).set off u=en.cells k) (K:off<en.size) (O:zBD l i k=some l') (D:(AV.d u).one=true) (G:E.wrB=true):
  jJ P r E ⟨none,.store tt x y,ty,pos,af,g⟩ S (S.setBlk id (.row e en.size false (en.all l'))):=by
 obtain⟨rfl,h0,h⟩:=zOP O;rw[<-yJY en (wU Y).2.2.2 K T];refine zVG H Z hb ?_ hy D G;rw[jI];have:(i.toNat+1)*en.size<=l.length*en.size:=dT _ h;rw[eG] at this;omega
theorem zCK {lo hi:Int} (h:slc l lo hi=some l'):l'=(l.take hi.toNat).drop lo.toNat/\0<=lo/\lo<=hi/\hi.toNat<=l.length:=by unfold slc at h;split at h;rename_i k;exact⟨(hP h).symm,k⟩;cases h
theorem zQ0 {lo hi:Operand} {G H:IntKind} {a b:Int} (T:d<E.n) (O:SlTy P t e en.size bytes z) (Y:S.ev x= .d (zH en l)) (D:S.ev lo= .d (.v (.int G a))) (k:S.ev hi= .d (.v (.int H b))) (h:slc l a b=some l'):
  AOp P r E S ⟨some d,.slice t x (some lo) (some hi) none,ty,pos,af,g⟩ d (.d (zH en l')):=by
 obtain⟨rfl,Z,h2,K⟩:=zCK h;exact zR5 T O Y (jI en l) (l:=a.toNat) (h:=b.toNat) ⟨⟨G,a,D,by omega⟩,⟨H,b,k,by omega⟩,by omega,K⟩ (by rw[zDN,zF6])
theorem zVS {lo:Operand} {D:IntKind} {a:Int} (H:d<E.n) (G:SlTy P t e en.size bytes z) (K:S.ev x= .d (zH en l)) (k:S.ev lo= .d (.v (.int D a))) (h:slc l a l.length=some l'):
  AOp P r E S ⟨some d,.slice t x (some lo) none none,ty,pos,af,g⟩ d (.d (zH en l')):=by
 obtain⟨rfl,O,T,Y⟩:=zCK h;exact zR5 H G K (jI en l) (l:=a.toNat) (h:=l.length) ⟨⟨D,a,k,by omega⟩,rfl,by omega,by omega⟩ (by rw[zDN,zF6];simp)
theorem zNU {hi:Operand} {D:IntKind} {b:Int} (K:d<E.n) (H:SlTy P t e en.size bytes z) (O:S.ev x= .d (zH en l)) (k:S.ev hi= .d (.v (.int D b))) (h:slc l 0 b=some l'):
  AOp P r E S ⟨some d,.slice t x none (some hi) none,ty,pos,af,g⟩ d (.d (zH en l')):=by
 obtain⟨rfl,T,Y,G⟩:=zCK h;exact zR5 K H O (jI en l) (l:=0) (h:=b.toNat) ⟨rfl,⟨D,b,k,by omega⟩,by omega,G⟩ (by rw[zDN];simp)
def findAt {h:Type} [DecidableEq h] (a: h):List h->List MapEntry->Nat->Option (Nat×Value)
 | k::D,x::es,i=>if a=k then some (i,x.val) else findAt a D es (i+1)
 | _,_,_=>none
structure KeyTy {κ:Type} [DecidableEq κ] (P:Program) (kt:TypeId) (kv: κ->Value):Prop where
 same:∀a,Instr.sameBits 10000 (kv a) (kv a)=true
 check:∀a b w,(Instr.checkKey b 10000 kt (kv a)).run P w= .ok () w
 find:∀a (ks:List κ) (es:List MapEntry) w,Pw (λ(x:MapEntry) k=>x.key=kv k) es ks->(Instr.findKey kt (kv a) es).run P w= .ok (findAt a ks es 0) w
theorem zIV {α k:Type} {R: α->k->Prop} {x: α} {y: k} {xs:List α} {ys:List k} (h:Pw R (x::xs) (y::ys)):R x y/\Pw R xs ys:=
 ⟨h.2 0 x y rfl rfl,by have:=h.1;simpa using this,λj a b D hb=>h.2 (j+1) a b (by simpa using D) (by simpa using hb)⟩
theorem zNV {G:Type} [DecidableEq G] {kv: G->Value} {td:TypeDesc} (H:∀a b,Instr.sameNow td (kv a) (kv b)=some (decide (a=b))) (a: G):∀(es:List MapEntry) (D:List G) (i:Nat),Pw (λ(x:MapEntry) k=>x.key=kv k) es D->
  Instr.findNow td (kv a) es i=some (findAt a D es i)
 | [],D,i,h=>by
  cases D with
  | nil=>rfl
  | cons k D=>have:=h.1;simp at this
 | x::es,D,i,h=>by
  cases D with
  | nil=>have:=h.1;simp at this
  | cons k D=>
   obtain⟨K,O⟩:=zIV h;simp only[Instr.findNow,K,H,findAt];by_cases e:a=k
   ·simp[e]
   ·simp only[e,dH,cV]
    exact zNV H a es D (i+1) O
def kI (n:Int):Value:= .int .i64 n
def kS (s:Str):Value:= .string ⟨s.toArray⟩
theorem yB0 {h:TypeId} (k:P.underlying h=some (.int .i64)) (n:Nat) (a:Int) (b:Bool) (w:World):(Instr.checkKey b (n+1) h (kI a)).run P w= .ok () w:=by simp only[kI,Instr.checkKey,cS,dJ k,cW];rfl
theorem yB1 {h:TypeId} (k:P.underlying h=some .string) (n:Nat) (a:Str) (b:Bool) (w:World):(Instr.checkKey b (n+1) h (kS a)).run P w= .ok () w:=by simp only[kS,Instr.checkKey,cS,dJ k,cW];rfl
theorem yOO {D:TypeId} (k:P.underlying D=some (.int .i64)):KeyTy P D kI where
 same:=λa=>by simp[kI,Instr.sameBits]
 check:=λa b w=>yB0 k 9999 a b w
 find:=λa G es w h=>by
  have:=zNV (kv:=kI) (td:= .int .i64) (λa b=>by simp only[kI,Instr.sameNow,dG];rfl) a es G 0 h
  simp only[Instr.findKey,cS,dJ k,cW];rw[this];rfl
theorem zVT (a b:Str):((⟨a.toArray⟩:ByteArray)==⟨b.toArray⟩)=decide (a=b):=by show (a.toArray==b.toArray)=_;rw[gL];simp
theorem yOP {D:TypeId} (k:P.underlying D=some .string):KeyTy P D kS where
 same:=λa=>by simp only[kS,Instr.sameBits,zVT];simp
 check:=λa b w=>yB1 k 9999 a b w
 find:=λa G es w h=>by
  have:=zNV (kv:=kS) (td:= .string) (λa b=>by simp only[kS,Instr.sameNow,zVT]) a es G 0 h;simp only[Instr.findKey,cS,dJ k,cW];rw[this];rfl
theorem z3R {w:World} {I:Im} (vs:List Value) (h:vs.all Value.oneCell'=true):Rep w I (.agg vs.toArray) (.agg (vs.map DV.v)):=
 .agg vs _ (by simp) (λx k=>dS.1 h x k) (zPV w I vs).2
def wG {h k:Type} (kv: h->Value) (ev:En k) (m:List (h×k)):List (Value×DV):=m.map λp=>(kv p.1,ev.dv p.2)
structure MapTy (P:Program) (t kt vt:TypeId) (zv:Value):Prop where
 und:P.underlying t=some (.map kt vt)
 zero:∀w,(zeroValue vt).run P w= .ok zv w
section
variable {κ ν:Type} [DecidableEq κ] {kv: κ->Value} {ev:En ν} {mp:List (κ×ν)} {k: κ} {kt vt:TypeId} {zv:Value} {zero: ν} {km kk:Operand} {id:Nat}
theorem zJI {w:World} {I:Im} {a: κ}:∀{m:List (κ×ν)} {es:List MapEntry} {i:Nat},Pw (λ(x:MapEntry) (y:Value×DV)=>x.key=y.1/\Rep w I x.val y.2) es (wG kv ev m)->
  (mget m a=none/\findAt a (m.map Prod.fst) es i=none)\/∃v j x,mget m a=some v/\findAt a (m.map Prod.fst) es i=some (i+j,x)/\Rep w I x (ev.dv v)/\(∃y,es[j]? =some y/\y.key=kv a/\y.val=x)/\
   ∀(u:Value) (D: ν) (f:MapEntry->MapEntry),(∀y,(f y).key=y.key\/(f y).key=kv a)->(∀y,(f y).val=u)->Rep w I u (ev.dv D)->Pw (λ(x:MapEntry) (y:Value×DV)=>x.key=y.1/\Rep w I x.val y.2) (es.modify j f) (wG kv ev (wX m a D))
 | [],es,i,h=>by left;exact⟨rfl,by cases es<;>rfl⟩
 | (k',D)::m,[],i,h=>by have:=h.1;simp[wG] at this
 | (k',D)::m,x::es,i,h=>by
  obtain⟨H,Z⟩:=zIV h;simp only[ez,findAt,mget,wX];by_cases e:a=k'
  ·subst e
   right;refine⟨D,0,x.val,by simp,by simp,H.2,⟨x,rfl,H.1,rfl⟩,λu G f hk Y T=>?_⟩;simp only[dG,List.modify_zero_cons];refine Pw.cons ⟨?_,by rw[Y];exact T⟩ Z
   rcases hk x with hk | hk
   ·rw[hk];exact H.1
   ·exact hk
  ·simp only[e,cV]
   rcases zJI (a:=a) (m:=m) (es:=es) (i:=i+1) Z with ⟨K,O⟩ | ⟨v,j,y,K,O,e3,⟨q,q1,q2,q3⟩,e4⟩
   ·left;exact⟨K,O⟩
   ·right
    refine⟨v,j+1,y,K,by rw[O];congr 2;omega,e3,⟨q,by simpa using q1,q2,q3⟩,λu G f hk Y T=>?_⟩
    simp only[List.modify_succ_cons];exact Pw.cons H (e4 u G f hk Y T)
theorem zVU {m:List (κ×ν)} {a: κ} (h:mget m a=none) (v: ν):wX m a v=m++ [(a,v)]:=by
 induction m with
 | nil=>rfl
 | cons p m D=>
  obtain⟨G,H⟩:=p;simp only[mget,wX] at h ⊢;split at h;cases h;rename_i e;simp only[e,cV,D h,fN]
omit [DecidableEq κ] in
theorem zUK {w:World} {I:Im} {m:List (κ×ν)} {es:List MapEntry} (h:Pw (λ(x:MapEntry) (y:Value×DV)=>x.key=y.1/\Rep w I x.val y.2) es (wG kv ev m)):Pw (λ(x:MapEntry) k=>x.key=kv k) es (m.map Prod.fst):=by
 refine⟨by rw[h.1];simp[wG],λj x k H D=>?_⟩
 rw[dX] at D;cases G:m[j]? with
 | none=>simp[G] at D
 | some p=>
  simp[G] at D;subst D;exact(h.2 j x (kv p.1,ev.dv p.2) H (by simp[wG,G])).1
theorem zJJ {w:World} {I:Im} {b h:Nat} {ents:Array MapEntry} (T:MapTy P t kt vt zv) (O:KeyTy P kt kv) (hh:w.heap[b]? =some (.map ents h)) (Y:Pw (λ(x:MapEntry) (y:Value×DV)=>x.key=y.1/\Rep w I x.val y.2) ents.toList (wG kv ev mp)) (hz:Rep w I zv (ev.dv zero)) (ok:Bool):
  ∃v,(Instr.lookup t (.map (some b)) (kv k) ok).run P w= .ok (if ok then .tuple #[v,.bool (zDM mp k)] else v) w/\Rep w I v (ev.dv (mgetD mp k zero)):=by
 have H:=O.find k _ ents.toList w (zUK Y);have D:(getObj b).run P w= .ok (.map ents h) w:=by simp[getObj,Sem.run,hh]
 rcases zJI (a:=k) (i:=0) Y with ⟨G,K⟩ | ⟨v,j,x,G,K,Z,_,_⟩
 ·rw[K] at H
  refine⟨zv,?_,by simpa[mgetD,G] using hz⟩;simp only[Instr.lookup,cS,dJ T.und,cW,D,dV,O.check,H,T.zero,zDM,G];rfl
 ·rw[K] at H
  refine⟨x,?_,by simpa[mgetD,G] using Z⟩;simp only[Instr.lookup,cS,dJ T.und,cW,D,dV,O.check,H,zDM,G];rfl
theorem yFA (Z:d<E.n) (hT:MapTy P t kt vt zv) (hK:KeyTy P kt kv) (hm:S.ev km= .row id) (hb:S.blk id= .map (wG kv ev mp)) (hk:S.ev kk= .d (.v (kv k))) (hz:∀w I,Rep w I zv (ev.dv zero)):
  AOp P r E S ⟨some d,.lookup t km kk false,ty,pos,af,g⟩ d (.d (ev.dv (mgetD mp k zero))):=
 ⟨rfl,Z,λS' G=>zY rfl Z (by simp) λA w I ρ C K=>by
  have h:=K.blks id;rw[(G.blk id).trans hb] at h;obtain⟨b,ents,D,Y,_,hh,hp,_⟩:=h;have hv:=K.ev km;rw[(G.ev (by simp[Op.operands])).trans hm] at hv;have O:A.eval km= .map (some b):=Eq.trans hv Y;have H:=K.val ((G.ev (x:=kk) (by simp[Op.operands])).trans hk);have T:=hz w I;obtain⟨v,h1,h2⟩:=zJJ (w:=w) (I:=I) hT hK hh hp T false;refine⟨v,?_,h2⟩;simp only[execOp,O,H,cS,h1];rfl⟩
theorem zZE (Z:d<E.n) (hT:MapTy P t kt vt zv) (hK:KeyTy P kt kv) (hm:S.ev km= .row id) (hb:S.blk id= .map (wG kv ev mp)) (hk:S.ev kk= .d (.v (kv k))) (hz:∀w I,Rep w I zv (ev.dv zero)):
  AOp P r E S ⟨some d,.lookup t km kk true,ty,pos,af,g⟩ d (.tup [ev.dv (mgetD mp k zero),db (zDM mp k)]):=
 ⟨rfl,Z,λS' G=>zY rfl Z (by simp) λA w I ρ C K=>by
  have h:=K.blks id;rw[(G.blk id).trans hb] at h;obtain⟨b,ents,D,Y,_,hh,hp,_⟩:=h;have hv:=K.ev km;rw[(G.ev (by simp[Op.operands])).trans hm] at hv;have O:A.eval km= .map (some b):=Eq.trans hv Y;have H:=K.val ((G.ev (x:=kk) (by simp[Op.operands])).trans hk);have T:=hz w I;obtain⟨v,h1,h2⟩:=zJJ (w:=w) (I:=I) hT hK hh hp T true;refine⟨.tuple #[v,.bool (zDM mp k)],?_,[v,.bool (zDM mp k)],rfl,Pw.cons h2 (Pw.cons (.v _) Pw.nil)⟩;simp only[execOp,O,H,cS,h1];rfl⟩
theorem yB2 (O:d<E.n) (D:E.nm d=none):jJ P r E ⟨some d,.makeMap t none,ty,pos,af,g⟩ S (((S.kill d).setBlk d (.map [])).put d (.row d)):=
 zAM (by simp) λA w I ρ C G=>by
  have H:∀b j,I b j->b<w.heap.size:=λb j h=>(G.old b j h).1;have hb:=G.update (zJD w (.map #[] 0)) (id:=d) (u:= .map (some w.heap.size)) (x:= .map []) (by simp) (zFK _ H) (λb hb=> .inl (by simp[blockOf] at hb;omega))
   ⟨w.heap.size,#[],0,by simp[upd],E.mineB _ (E.size _ _ _ G.frame),gV w _,Pw.nil,λj K=>by have:=H _ j K;omega,.nil⟩ (.inl rfl) D
  refine⟨.map (some w.heap.size),w.alloc (.map #[] 0),?_,I,_,C,hb.put O (by simp[Holds,upd])⟩;simp only[execOp,Instr.makeMap,gy,cS,run_newObj_alloc,cW,dV]
theorem zFL {w:World} {b D:Nat} {ents:Array MapEntry} {G:Obj} (h:w.heap[b]? =some (.map ents D)):(setObj b G).run P w= .ok () {w with heap:=w.heap.setIfInBounds b G}:=by simp[setObj,Sem.run,h]
theorem z3S {x:Operand} {v: ν} {u:DV} (hT:MapTy P t kt vt zv) (hK:KeyTy P kt kv) (hm:S.ev km= .row id) (hb:S.blk id= .map (wG kv ev mp)) (hk:S.ev kk= .d (.v (kv k))) (hx:S.ev x= .d u) (hu:u=ev.dv v) (hE:E.wrB=true):
    jJ P r E ⟨none,.mapUpdate t km kk x,ty,pos,af,g⟩ S (S.setBlk id (.map (wG kv ev (wX mp k v)))):=
  zGS rfl (by simp) λA w I ρ C hs=>by
    subst hu;have aa:=hs.blks id;rw[hb] at aa;obtain⟨b,ents,H,Y,hM,hh,hp,hI,hN⟩:=aa;have hv:=hs.ev km;rw[hm] at hv;have ag:A.eval km= .map (some b):=Eq.trans hv Y;have ac:=hs.val hk;have T:=hs.ev x;rw[hx] at T;have am:=(cQ.1 hh).1;have hf:=hK.find k _ ents.toList w (zUK hp);have O:(getObj b).run P w= .ok (.map ents H) w:=by simp[getObj,Sem.run,hh]
    have Z:∀(G:Array MapEntry) (D:Nat),Pw (λ(x:MapEntry) (y:Value×DV)=>x.key=y.1/\Rep w I x.val y.2) G.toList (wG kv ev (wX mp k v))->Born G D->
        Sat E (S.setBlk id (.map (wG kv ev (wX mp k v)))) A {w with heap:=w.heap.setIfInBounds b (.map G D)}:=by
      intro G D ao al;have hg:w.grownBy {w with heap:=w.heap.setIfInBounds b (.map G D)} (some b):=
        ⟨rfl,rfl,rfl,by simp,λq _ hq=>dU (λe=>hq (by rw[e]))⟩
      have K:Same I w {w with heap:=w.heap.setIfInBounds b (.map G D)}:=λb' j hi=>by
        have:b'≠b:=λe=>hI j (e▸hi);exact KeepB.of (dU (λe=>this e.symm))
      refine⟨I,ρ,C,hs.modify hg (by rw[hb];simp) (by rw[Y];rfl) K ⟨b,G,D,Y,hM,by simp[am],ao.imp λ_ _ h=>⟨h.1,h.2.mono K (λ_ _ h=>h)⟩,hI,al⟩ hE⟩
    rcases zJI (a:=k) (i:=0) hp with ⟨e1,e2⟩ | ⟨v0,j,x0,e1,e2,e3,⟨q,q1,q2,q3⟩,e4⟩
    · rw[e2] at hf
      refine⟨_,?_,Z (ents.push {key:=kv k,val:=A.eval x,born:=H}) (H+1) ?_ hN.push⟩
      · simp only[execOp,ag,ac,Instr.mapUpdate,cS,dJ hT.und,cW,O,hK.check,hf,zFL hh,dV]
      · rw[zVU e1]
        simp only[wG,g9,iA,ez,fI];exact Pw.append hp (Pw.cons ⟨rfl,T⟩ Pw.nil)
    · rw[e2] at hf
      have hq:ents[0+j]? =some q:=by rw[eE];simpa using q1
      have ab:(Instr.keyThatStays (((ents[0+j]?).map (·.key)).getD (kv k)) (kv k)).run P w= .ok (kv k) w:=by
        rw[hq];simp only[eZ,gD,q2,Instr.keyThatStays,hK.same,dG,dV]
      refine⟨_,?_,Z (ents.modify (0+j) λe=>{e with key:=kv k,val:=A.eval x}) H ?_ (hN.modify λ_=>rfl)⟩
      · simp only[execOp,ag,ac,Instr.mapUpdate,cS,dJ hT.und,cW,O,hK.check,hf,ab,zFL hh,dV]
      · rw[eE,gR]
        exact e4 (A.eval x) v _ (λ_=> .inr rfl) (λ_=>rfl) T
end
end
open Go.RowKit Go.M
def FnC (P:Program) (c:DV) (ds k:List DV):Prop:=
 (∃f h,c= .fn f h/\zC P f (ds++h) k)\/(∃f,c= .v (.func (.func f) #[] #[])/\zC P f ds k)
section
variable {P:Program} {r:Option Nat} {E:Env} {S:AState} {d:Nat} {ty:TypeId} {pos:String} {af:Array Edge} {g:Option (Nat×Bool)}
theorem zKP {x:Operand} {xs:List Operand} {ats:Array TypeId} {c:DV} {ds rs:List DV} (hn:d<E.n) (hx:S.ev x= .d c) (O:unD (xs.map S.ev)=some ds) (D:FnC P c ds rs) (hG:E.gdt=zAS P:=by rfl):
  AOp P r E S ⟨some d,.call {callee:= .value x,args:=xs.toArray,argTypes:=ats},ty,pos,af,g⟩ d (zYP rs):=by
 rcases D with ⟨f,an,rfl,D⟩ | ⟨f,rfl,D⟩
 ·exact yJU hn hx O D hG
 ·refine⟨rfl,hn,λS' ha=>?_⟩
  have am:=(ha.ev (x:=x) (by simp[Op.operands,Call.operands])).trans hx;have T:unD (xs.map S'.ev)=some ds:=by
   have:xs.map S'.ev=xs.map S.ev:=gw λy hy=>ha.ev (by simp[Op.operands,Call.operands,hy]);rw[this];exact O
  obtain⟨ag,ah⟩:=zJE S' T
  rintro A w K Q ⟨I,ρ,C,hs⟩ hk
  obtain⟨⟨fn,hf,H,k⟩,G⟩:=D;obtain⟨I1,h1,h,h3⟩:=SatAt.dvL _ hs (zB9 hs xs) ag;rw[ah] at h;have hv:=hs.val am;have ad:=G w I1 (xs.map A.eval) (λb j hi=>(h.old b j hi).1) (hG▸h.gl) h3;refine⟨λf _=>trivial,?_⟩;rw[Oper.semAt_eq _ _ _ (by simp)];have aa:(execOp A.eval ⟨some d,.call {callee:= .value x,args:=xs.toArray,argTypes:=ats},ty,pos,af,g⟩).run P w= .ok (.enter f (xs.map A.eval).toArray) w:=by
   simp only[execOp,resolve,hv,Deferred.ofValue];have aj:¬fn.name= "runtime.NumGoroutine" :=by simpa using H
   have ak:¬fn.body=none:=by intro e;simp[e] at k
   simp[invoke,callFunc,hf,aj,ak,eO]
  rw[aa];refine⟨by simp[fen,Fence.wide],?_⟩;show CallsIn Fence.wide 0 P f _ w _;refine gJ.2 (ad.mono ?_)
  rintro e w' ⟨v,I',rfl,hb,ab,Y,Z⟩
  refine hk _ _ ⟨I',ρ,C,SatAt.put ?_ hn (zNL Z)⟩;have h4:=h.grow hb;exact h4.widen ab Y (λi b hi ac=>(h.blt i b hi ac).2) (E.size _ _ _ h.frame) (λb D=>E.csize _ _ _ h.frame b D)
variable {ops:Array Oper} {o:Oper} {rest:List Oper} {J:AState->Prop} {j t:Nat} {want b c:Bool} {x:AV}
theorem jV (h:AOp P r E S o d x) (k:Sq P r E ops rest (S.put d x) J) (D:o.guard=none:=by rfl):Sq P r E ops (o::rest) S J:=yOE (z26 D h) k
theorem daa (h:AOp P r E S o d x) (k:DA P r E ops rest (S.put d x) J) (D:o.guard=none:=by rfl):DA P r E ops (o::rest) S J:=yOF (z26 D h) k
theorem gF {b:Bool} (h:gd false b=true):b=false:=by cases b;rfl;cases h
theorem zVV {t:Nat} {x:DV} (h:S.dv (S.get t).un=some x):RetS P S [.tmp t] [x]:=⟨_,_,rfl,h,rfl⟩
theorem wR {a t id e:Nat} {cells:List AV} {ds:List DV} (h:(S.get a).un= .ptr id 0) (k:S.blk id= .box e cells) (D:AggTy P t cells.length) (G:S.dvL cells=some ds):RetS P S [.cell a t] [.agg ds]:=
 ⟨_,_,id,e,cells,rfl,h,k,.inr ⟨ds,D,G,rfl⟩,rfl⟩
end
open Go.RowKit Go.M
abbrev wi (n:Int):Int:=IntKind.i64.wrap n
abbrev wu (n:Int):Int:=IntKind.u64.wrap n
theorem zR {a b:Bool} (h:(a&&b)=true):a=true/\b=true:=by simpa using h
section
variable {P:Program}
theorem z0K {t n:Nat} (h:(P.info? t).map (·.size)=some n) (w:World):(sizeOf t).run P w= .ok n w:=by
 cases hi:P.info? t with
 | none=>simp[hi] at h
 | some i=>simp[hi] at h;simp[sizeOf,typeInfo,hi,h]
theorem z0L {t:Nat} {z:Value} (h:(P.info? t).bind (·.zero)=some z) (w:World):(zeroValue t).run P w= .ok z w:=by
 cases hi:P.info? t with
 | none=>simp[hi] at h
 | some i=>simp[hi] at h;simp[zeroValue,typeInfo,hi,h]
theorem FldTy.of {s k off n:Nat} {t:TypeId} {D:Array Field} (O:P.underlying s=some (.struct D)) (G:(D[k]?).map (λf=>(f.offset,f.type))=some (off,t)) (K:(P.info? t).map (·.size)=some n) (H:0<n):FldTy P s k off n t:=by
 cases h:D[k]? with
 | none=>simp[h] at G
 | some f=>simp[h] at G;exact⟨⟨D,f,O,h,G.1,G.2⟩,z0K K,H⟩
theorem zTB (w:World):∀(k:List Field) (places:List (Nat×Nat)),k.map (λf=>(f.offset,(P.info? f.type).map (·.size)))=places.map (λp=>(p.1,some p.2))->
    (k.mapM λ(f:Field)=>(do pure (f.offset,<-sizeOf f.type):Sem (Nat×Nat))).run P w= .ok places w
  | [],places,h=>by cases places with
    | nil=>simp
    | cons p D=>simp at h
  | f::k,places,h=>by cases places with
    | nil=>simp at h
    | cons p D=>
      simp only[ez,iK,iI] at h;have G:=z0K h.1.2 w;have H:=zTB w k D h.2;simp only[ii,cS,G,cW,dV,H,h.1.1]
theorem StTy.of {t:TypeId} {places:List (Nat×Nat)} {zs:List Value} {h:Array Field} (G:P.underlying t=some (.struct h)) (D:h.toList.map (λf=>(f.offset,(P.info? f.type).map (·.size)))=places.map (λp=>(p.1,some p.2)))
    (K:((P.info? t).bind (·.zero))=some (.agg zs.toArray)) (k:zs.all Value.oneCell'=true):StTy P t places zs:=by
  refine⟨⟨h,G,λw=>?_⟩,z0L K,λx H=>dS.1 k x H⟩;rw[Array.mapM_eq_mapM_toList];simp only[Sem.run_map,zTB w _ _ D,cW]
theorem MapTy.of {t k h:TypeId} {D:Value} (G:P.underlying t=some (.map k h)) (H:(P.info? h).bind (·.zero)=some D):MapTy P t k h D:=⟨G,z0L H⟩
def NilL:List DV->List DV->Prop
 | [],[]=>True
 | a::as,b::bs=>(a=b\/(a= .v (.slice none 0 0)/\∃s,b= .sl s []))/\NilL as bs
 | _,_=>False
theorem zQ1 {w:World} {I:Im}:∀{vs:List Value} {as bs:List DV},NilL as bs->Reps w I vs as->Reps w I vs bs
 | vs,[],[],_,h=>h
 | vs,[],b::bs,h,_=>h.elim
 | vs,a::as,[],h,_=>h.elim
 | [],a::as,b::bs,_,k=>by have:=k.1;simp at this
 | v::vs,a::as,b::bs,h,k=>by
  obtain⟨D,G⟩:=zIV k;refine Pw.cons ?_ (zQ1 h.2 G);rcases h.1 with rfl | ⟨rfl,s,rfl⟩;exact D;cases D;exact .nil _ _ _
theorem z9H {f:FuncId} {as bs k:List DV} (h:zC P f bs k) (G:NilL as bs):zC P f as k:=
 ⟨h.1,λw I vs D hG H=>h.2 w I vs D hG (zQ1 G H)⟩
end
open Go.RowKit Go.M
section
variable {P:Program}
structure EqFld (P:Program) (f:Field):Prop where
 name:f.name≠ "_"
 agg:∀w,(isAgg f.type).run P w= .ok false w
 und:(∃k,P.underlying f.type=some (.int k))\/P.underlying f.type=some .bool\/P.underlying f.type=some .string
theorem run_equalIn_int {t:TypeId} {k h:IntKind} (D:P.underlying t=some (.int k)) (d:Nat) (a b:Int) (w:World):(Op.equalIn (d+1) t (.int h a) (.int h b)).run P w= .ok (decide (a=b)) w:=by rw[Op.equalIn];simp only[cS,dJ D,cW,dG,dV];rfl
theorem zR9 {t:TypeId} (h:P.underlying t=some .bool) (d:Nat) (a b:Bool) (w:World):(Op.equalIn (d+1) t (.bool a) (.bool b)).run P w= .ok (decide (a=b)) w:=by rw[Op.equalIn];simp only[cS,dJ h,cW,dV];cases a<;>cases b<;>rfl
theorem zTV {t:TypeId} (h:P.underlying t=some .string) (d:Nat) (a b:Str) (w:World):(Op.equalIn (d+1) t (.string ⟨a.toArray⟩) (.string ⟨b.toArray⟩)).run P w= .ok (decide (a=b)) w:=by rw[Op.equalIn];simp only[cS,dJ h,cW,dV,zVT]
theorem zJK {t:TypeId} {xs:Array Value} {off:Nat} {a:Value} (h:∀w,(isAgg t).run P w= .ok false w) (k:xs[off]? =some a) (w:World):(part t xs off).run P w= .ok a w:=by simp[part,h,k]
theorem zZF {w:World} {F:Field->Option Bool×PUnit->Sem (ForInStep (Option Bool×PUnit))}:∀(k:List Field) (cs:List Bool),Pw (λ(f:Field) c=> ∀s,(F f s).run P w= .ok (if c then .yield (none,()) else .done (some false,())) w) k cs->
  (forIn k ((none,()):Option Bool×PUnit) F).run P w= .ok (if cs.all id then (none,()) else (some false,())) w
 | [],cs,h=>by cases cs with
  | nil=>simp
  | cons c cs=>have:=h.1;simp at this
 | f::k,cs,h=>by cases cs with
  | nil=>have:=h.1;simp at this
  | cons c cs=>
   obtain⟨D,G⟩:=zIV h;have H:=zZF k cs G;rw[List.forIn_cons];simp only[cS,D,cW];cases c with
   | false=>simp
   | true=>simpa using H
def Eqs (P:Program) (d:Nat) (xs ys:Array Value) (w:World) (h:List Field) (cs:List Bool):Prop:=
 Pw (λ(f:Field) c=>f.name≠ "_" /\(∀w,(isAgg f.type).run P w= .ok false w)/\∃a b,xs[f.offset]? =some a/\ys[f.offset]? =some b/\(Op.equalIn d f.type a b).run P w= .ok c w) h cs
theorem z0M {d:Nat} {xs ys:Array Value} {w:World}:Eqs P d xs ys w [] []:=Pw.nil
section
variable {d:Nat} {xs ys:Array Value} {w:World} {f:Field} {fs:List Field} {cs:List Bool} (hn:(f.name== "_")=false) (ho:OneTy P f.type) (hs:Eqs P (d+1) xs ys w fs cs)
include hn ho hs
theorem zOQ {k h:IntKind} {a b:Int} (D:P.underlying f.type=some (.int k)) (G:xs[f.offset]? =some (.int h a)) (H:ys[f.offset]? =some (.int h b)):Eqs P (d+1) xs ys w (f::fs) (decide (a=b)::cs):=
 Pw.cons ⟨by simpa using hn,ho.agg,_,_,G,H,run_equalIn_int D d a b w⟩ hs
theorem yFB {a b:Bool} (h:P.underlying f.type=some .bool) (k:xs[f.offset]? =some (.bool a)) (D:ys[f.offset]? =some (.bool b)):Eqs P (d+1) xs ys w (f::fs) (decide (a=b)::cs):=
 Pw.cons ⟨by simpa using hn,ho.agg,_,_,k,D,zR9 h d a b w⟩ hs
theorem yJZ {a b:Str} (h:P.underlying f.type=some .string) (k:xs[f.offset]? =some (.string ⟨a.toArray⟩)) (D:ys[f.offset]? =some (.string ⟨b.toArray⟩)):Eqs P (d+1) xs ys w (f::fs) (decide (a=b)::cs):=
 Pw.cons ⟨by simpa using hn,ho.agg,_,_,k,D,zTV h d a b w⟩ hs
end
structure EqTy {α:Type} [DecidableEq α] (P:Program) (t:TypeId) (en:En α):Prop where
 eq:∀(a b: α) (va vb:Value) w I,Rep w I va (en.dv a)->Rep w I vb (en.dv b)->(∃xs ys,va= .agg xs/\vb= .agg ys)/\(Op.equal t va vb).run P w= .ok (decide (a=b)) w
 guard:∀(op:BinOp) (x y:Operand) xs ys w,(eqGuard op t x y (.agg xs) (.agg ys)).run P w= .ok () w
theorem zPK {w:World} {I:Im} {u v:Value} (h:Rep w I u (.v v)):u=v:=by cases h;rfl
theorem zOR {w:World} {I:Im} {v:Value} {vs:List Value} (h:Rep w I v (.agg (vs.map DV.v))):v= .agg vs.toArray:=by
 cases h with
 | agg xs cells O k K=>
  congr 2;apply fV;intro j;have G:xs.length=vs.length:=by simpa using O
  by_cases H:j<xs.length;have k:xs[j]? =some xs[j]:=cO H;have D:vs[j]? =some (vs[j]'(by omega)):=cO (by omega);have:=K j xs[j] (.v (vs[j]'(by omega))) k (by simp[D]);rw[k,D,zPK this];rw[fG (by omega),fG (by omega)]
theorem EqTy.of {G:Type} [DecidableEq G] {t:TypeId} {en:En G} {k:Array Field} {vals: G->List Value} {cs: G->G->List Bool} (hu:P.underlying t=some (.struct k)) (O:P.stoodInHeld t=false) (hg:P.eqGuardType P.depth t=false)
  (hv:∀a,en.dv a= .agg ((vals a).map DV.v)) (he:∀a b w,Eqs P (9998+1) (vals a).toArray (vals b).toArray w k.toList (cs a b)) (hc:∀a b,(cs a b).all id=decide (a=b)):EqTy P t en where
 eq:=λa b va vb w I Y Z=>by
  rw[hv] at Y Z;rw[zOR Y,zOR Z];refine⟨⟨_,_,rfl,rfl⟩,?_⟩;show (Op.equalIn (9999+1) t _ _).run P w=_;rw[Op.equalIn];simp only[cS,dJ hu,cW];have K:(program).run P w= .ok P w:=by rfl
  simp only[K,O,cW,dN,cV,dV];rw[<-Array.forIn_toList,<-hc a b];have D:=λF h=>zZF (P:=P) (w:=w) (F:=F) k.toList (cs a b) h;simp only[cS];rw[D _ ⟨(he a b w).1,λj f c hf H s=>?_⟩]
  ·simp only[cW]
   cases (cs a b).all id<;>simp
  ·obtain⟨q1,q2,x,y,q3,q4,q5⟩:=(he a b w).2 j f c hf H
   simp only[q1,ne_eq,not_false_eq_true,dG,cS,zJK q2 q3,zJK q2 q4,cW];have T:(Op.equalIn 9999 f.type x y).run P w= .ok c w:=q5;rw[T];cases c<;>simp
 guard:=λop x y xs ys w=>by
  have K:(program).run P w= .ok P w:=by rfl
  cases op<;>simp[eqGuard,K,hg]
variable {r:Option Nat} {E:Env} {S:AState} {d:Nat} {ty:TypeId} {pos:String} {af:Array Edge} {g:Option (Nat×Bool)}
theorem yJ0 {k:Type} [DecidableEq k] {en:En k} {x y:Operand} {a b: k} {tx tz:TypeId} (Y:d<E.n) (T:EqTy P tx en) (hx:S.ev x= .d (en.dv a)) (hy:S.ev y= .d (en.dv b)):
  AOp P r E S ⟨some d,.binOp .eql tx x y tz,ty,pos,af,g⟩ d (.d (.v (.bool (decide (a=b))))):=
 ⟨rfl,Y,λS' h=>jQ rfl Y (by simp) λA w I ρ C Z=>by
  have H:=Z.ev x;rw[(h.ev (by simp[Op.operands])).trans hx] at H;have K:=Z.ev y;rw[(h.ev (by simp[Op.operands])).trans hy] at K;obtain⟨⟨xs,ys,D,G⟩,O⟩:=T.eq a b _ _ w I H K;rw[D,G] at O;have hb:binOp .eql tx (.agg xs) (.agg ys)=(do pure (.bool (<-Op.equal tx (.agg xs) (.agg ys)))):=rfl;simp only[execOp,D,G,cS,T.guard,cW,hb,O,dV]⟩
theorem z9I {k:Type} [DecidableEq k] {en:En k} {x y:Operand} {a b: k} {tx tz:TypeId} (Y:d<E.n) (T:EqTy P tx en) (hx:S.ev x= .d (en.dv a)) (hy:S.ev y= .d (en.dv b)):
  AOp P r E S ⟨some d,.binOp .neq tx x y tz,ty,pos,af,g⟩ d (.d (.v (.bool (!decide (a=b))))):=
 ⟨rfl,Y,λS' h=>jQ rfl Y (by simp) λA w I ρ C Z=>by
  have H:=Z.ev x;rw[(h.ev (by simp[Op.operands])).trans hx] at H;have K:=Z.ev y;rw[(h.ev (by simp[Op.operands])).trans hy] at K;obtain⟨⟨xs,ys,D,G⟩,O⟩:=T.eq a b _ _ w I H K;rw[D,G] at O;have hb:binOp .neq tx (.agg xs) (.agg ys)=(do pure (.bool (!(<-Op.equal tx (.agg xs) (.agg ys))))):=rfl;simp only[execOp,D,G,cS,T.guard,cW,hb,O,dV]⟩
theorem zQ2 {t n:Nat} {x y:Operand} {id eb:Nat} {cells:List AV} {ds:List DV} (hT:AggTy P t n) (hx:S.ev x= .ptr id 0) (hb:S.blk id= .box eb cells) (hy:S.ev y= .d (.agg ds)) (hl:cells.length=n) (ad:ds.length=n) (hE:E.wrB=true):
  jJ P r E ⟨none,.store t x y,ty,pos,af,g⟩ S (S.setBlk id (.box eb (ds.map AV.d))):=
 zGS rfl (by simp) λA w I ρ C hs=>by
  have h:=hs.ev x;rw[hx] at h;obtain⟨b,G,hv⟩:=h;have K:=hs.blks id;rw[hb] at K;obtain⟨H,arr,D,hB,hh,am,ag,hI⟩:=K;have ac:H=b:=by rw[D] at G;simpa[blockOf] using G
  subst ac;have Y:=hs.ev y;rw[hy] at Y;have k:Rep w I (A.eval y) (.agg ds):=Y;generalize he:A.eval y=vy at k;cases k with
  | agg xs Z O h1 hr=>
   have aw:arr.size=n:=by rw[<-eM,ag.1];exact hl
   have ai:xs.length=n:=by rw[O];exact ad
   have T:=zVF (P:=P) w hT (b:=H) (off:=0) (vs:=xs) hh (by omega) ai h1;have e1:arr.toList.take 0++xs++arr.toList.drop (0+n)=xs:=by
    rw[List.drop_eq_nil_of_le (by simp;omega)];simp
   rw[e1] at T;refine⟨_,?_,I,ρ,C,hs.modify (zCJ w H xs.toArray) (by rw[hb];simp) G (vS hI) ⟨H,xs.toArray,D,hB,iy w H arr _ eb _ hh,by simpa using h1,?_,hI⟩ hE⟩
   ·simp only[execOp,hv,he,cS,T]
    rfl
   ·have ah:Reps w I xs ds:=⟨O,hr⟩
    exact yOH (ρ:=ρ) (Reps.mono ah (vS hI) (λ_ _ h=>h))
end
open Go.RowKit Go.M
section
variable {P:Program} {r:Option Nat} {E:Env} {S:AState} {d:Nat} {ty:TypeId} {pos:String} {af:Array Edge} {g:Option (Nat×Bool)}
theorem yFC {a:Act} {w:World} {x y:DV} (D:d<E.n) (k:∀w I v,Rep w I v x->Rep w I v y) (h:Sat E (S.put d (.d x)) a w):Sat E (S.put d (.d y)) a w:=by
 obtain⟨I,ρ,C,h⟩:=h;refine⟨I,ρ,C,⟨λu=>?_,h.blks,h.dist,by have:=h.frame;rw[zA0 _ _ D] at this ⊢;exact this,h.sub,h.old,h.size,h.defers,h.cI,h.cB,h.nm⟩⟩
 have:=h.tmps u;rw[uJ] at this ⊢;by_cases e:d=u;simp only[e,dG] at this ⊢;exact k _ _ _ this;simp only[e,cV] at this ⊢;exact this
theorem AOp.conv {o:Oper} {x y:DV} (h:AOp P r E S o d (.d x)) (H:∀w I v,Rep w I v x->Rep w I v y):AOp P r E S o d (.d y):=
 ⟨h.1,h.2.1,λS' G a w K Q T O=>h.2.2 S' G a w K Q T λD w' k=>O D w' (yFC h.2.1 H k)⟩
theorem z3T {as bs:List DV} (D:NilL as bs) {w:World} {I:Im} {v:Value} (h:Rep w I v (.agg as)):Rep w I v (.agg bs):=by
 cases h with
 | agg xs cells H k G=>
  have:=zQ1 D (⟨H,G⟩:Reps w I xs as);exact .agg xs bs this.1 k this.2
theorem AOp.nils {o:Oper} {as bs:List DV} (h:AOp P r E S o d (.d (.agg as))) (k:NilL as bs):AOp P r E S o d (.d (.agg bs)):=h.conv λ_ _ _ D=>z3T k D
theorem z6U {x:Operand} {i:Nat} {cs:List Cap} {c:Cap} (D:d<E.n) (T:S.ev x= .tupc cs) (hi:cs[i]? =some c):AOp P r E S ⟨some d,.extract x i,ty,pos,af,g⟩ d c.av:=
 ⟨rfl,D,λS' H=>zY rfl D (by simp) λA w I ρ C K=>by
  have h:=K.ev x;rw[(H.ev (by simp[Op.operands])).trans T] at h;obtain⟨xs,O,G⟩:=h;have k:i<xs.length:=by rw[G.1];exact(cX.1 hi).1
  refine⟨xs[i],?_,Cap.holds (G.2 i _ c (cO k) hi)⟩;simp only[execOp,O];simp[Instr.extract,cO k]⟩
theorem zNW {x:Operand} {c:List Cap} (h:d<E.n) (k:S.ev x= .tupc c):AOp P r E S ⟨some d,.move x,ty,pos,af,g⟩ d (.tupc c):=zFN h k
theorem z0N {x:Operand} (h:d<E.n):AOp P r E S ⟨some d,.assign x,ty,pos,af,g⟩ d .top:=
 ⟨rfl,h,λS' k=>zY rfl h (by simp) λA w I ρ C D=>⟨A.eval x,by simp[execOp],trivial⟩⟩
theorem zQ3 {id e size:Nat} {cells:List DV} (hb:S.blk id= .row e size false cells):zGM E S (S.setBlk id (.win e size 0 cells)):=by
 rintro a w ⟨I,ρ,C,h⟩
 have hk:=h.blks id;rw[hb] at hk;obtain⟨hp,n,xs,hl,k,h1,hr,hI⟩:=hk;have ab:S.blk id≠ .none:=by rw[hb];simp
 have key:∀i,(S.setBlk id (.win e size 0 cells)).blk i≠ .none->S.blk i≠ .none:=by
  intro i hi;rw[yO] at hi;by_cases H:id=i;subst H;exact ab;simpa[H] using hi
 refine⟨I,ρ,C,⟨h.tmps,λi=>?_,λi i' b hn hi Z=>h.dist i i' b hn (key i hi) (key i' Z),h.frame,h.sub,h.old,h.size,h.defers,h.cI,λi b hi=>h.cB i b (key i hi),λi v D hi=>h.nm i v D (key i hi)⟩⟩;rw[yO];by_cases H:id=i;subst H;simp only[dG];rcases k.2 with ⟨D,aa⟩ | ⟨K,T,G,D,hB,hh,O,an,Y,ap⟩
 subst aa;exact⟨none,0,0,xs,D,dA _,hp.1,hl,hr,h1,.inl ⟨rfl,rfl⟩⟩;refine⟨_,n,T,xs,D,O,hp.1,hl,hr,h1,.inr ⟨K,0,G,rfl,hp.2 K (by rw[D];rfl),hh,?_,λj x hj=>?_,λj _ hj hi=>?_⟩⟩
 rw[eE,Y];exact dT _ O;have:=k.cells (g:=K) (by rw[D];rfl) j x hj
 rw[u7,fb w K (0+j) G e (0,0) hh] at this;exact this;have:=(hI K j (by rw[D];rfl) hi).1;cases this;simp only[H,cV];exact h.blks i
end
open Go.RowKit Go.M
def zSA (S:AState) (σ:List (Nat×Nat)) (T:List (Nat×Blk)):Bool:=σ.all λp=>match look Blk.none T p.1,S.blk p.2 with
 | .none,.none=>true
 | .none,_=>false
 | _,_=>true
theorem zNX {S:AState} {σ:List (Nat×Nat)} {T:List (Nat×Blk)} (h:zSA S σ T=true):zQX S σ T:=by
 intro k G D;have:=dS.1 h _ (zFO G);simp only[D] at this;cases hb:S.blk (look 0 σ k) with
 | none=>rfl
 | _=>rw[hb] at this;simp at this
theorem zVW {σ:List (Nat×Nat)} (h:((σ.map Prod.fst).Nodup/\(σ.map Prod.snd).Nodup)):Ren σ:=⟨h.1,h.2⟩
section
variable {P:Program} {r:Option Nat} {E:Env} {S:AState} {d:Nat} {ty:TypeId} {pos:String} {af:Array Edge} {g:Option (Nat×Bool)}
theorem zCL {f:FuncId} {xs:List Operand} {ats:Array TypeId} {args h:List Cap} {T G:List (Nat×Blk)} {keep:List Nat} (σ:List (Nat×Nat)) (hc:GC P f args T keep h G) (hn:d<E.n) (ab:(σ.map Prod.fst).Nodup/\(σ.map Prod.snd).Nodup)
  (D:ArgsAs σ (xs.map S.ev) args) (O:args.all (Cap.idsLt σ)=true) (aa:h.all (Cap.idsLt σ)=true) (hT:BlksAs S σ T) (K:zDE σ T=true) (H:zDE σ G=true)
  (Y:zSA S σ T=true) (Z:∀k,E.nm k=none) (hE:E.wrB=true) (hG:E.gdt=zAS P:=by rfl):
  jJ P r E ⟨some d,.call {callee:= .value (.func f),args:=xs.toArray,argTypes:=ats},ty,pos,af,g⟩ S
   (((S.killL (zK7 σ keep G)).setL (renL σ G++zO6 σ T G)).put d ((zPZ h).ren σ)):=
 z9G σ hn (zVW ab) D O aa hT K H (zNX Y) (λk _=> .inl (Z _)) hc hE hG
end
theorem nl0:NilL [] []:=trivial
theorem nlE {a:DV} {as bs:List DV} (h:NilL as bs):NilL (a::as) (a::bs):=⟨.inl rfl,h⟩
theorem nlN {s:Nat} {as bs:List DV} (h:NilL as bs):NilL (.v (.slice none 0 0)::as) (.sl s []::bs):=⟨.inr ⟨rfl,_,rfl⟩,h⟩
open Go.RowKit Go.M
structure ArTy (P:Program) (t:TypeId) (n es:Nat) (e:TypeId) (zs:List Value):Prop where
 und:P.underlying t=some (.array n e)
 size:∀w,(sizeOf e).run P w= .ok es w
 pos:0<es
 zero:∀w,(zeroValue t).run P w= .ok (.agg zs.toArray) w
 one:∀x∈zs,x.oneCell'=true
def arP (n es:Nat):List (Nat×Nat):=(List.range n).map λi=>(i*es,es)
theorem yJ1 {n es i:Nat} {q:Nat×Nat} (h:(arP n es)[i]? =some q):i<n/\q=(i*es,es):=by unfold arP at h;rw[dX] at h;by_cases hi:i<n;simp[hi] at h;exact⟨hi,h.symm⟩;simp[hi] at h
theorem ArTy.of {P:Program} {t e:TypeId} {n es:Nat} {zs:List Value} (G:P.underlying t=some (.array n e)) (D:(P.info? e).map (·.size)=some es) (k:0<es) (K:((P.info? t).bind (·.zero))=some (.agg zs.toArray)) (h:zs.all Value.oneCell'=true):ArTy P t n es e zs:=
 ⟨G,z0K D,k,z0L K,λx H=>dS.1 h x H⟩
theorem zVX {f g:Nat->Option (Nat×Nat)}:∀(vs:List (Nat×Value)) (arr:Array Value),(∀p∈vs,f p.1=g p.1)->Instr.fill f arr vs=Instr.fill g arr vs
 | [],_,_=>rfl
 | (i,v)::vs,arr,h=>by
  simp only[Instr.fill];rw[h (i,v) (by simp)];cases g i with
  | none=>rfl
  | some q=>
   obtain⟨off,size⟩:=q;simp only;split;rfl;exact zVX vs _ (λp k=>h p (by simp[k]))
theorem z3U {places:List (Nat×Nat)}:∀{ds:List (Nat×DV)} {cells k:List DV},zPJ places cells ds=some k->∀p∈ds,∃q,places[p.1]? =some q
 | [],_,_,_,p,hp=>by cases hp
 | (i,v)::ds,cells,k,h,p,hp=>by
  simp only[zPJ] at h;cases D:places[i]? with
  | none=>rw[D] at h;cases h
  | some q=>
   rw[D] at h;obtain⟨off,size⟩:=q;simp only at h;split at h;rcases dL.1 hp with e | hp
   rw[e];exact⟨_,D⟩;exact z3U h p hp;cases h
theorem zVY {P:Program} {D:Type} {w:World} {F: D->Option Bool×PUnit->Sem (ForInStep (Option Bool×PUnit))}:∀(k:List D) (cs:List Bool),Pw (λ(f: D) c=> ∀s,(F f s).run P w= .ok (if c then .yield (none,()) else .done (some false,())) w) k cs->
  (forIn k ((none,()):Option Bool×PUnit) F).run P w= .ok (if cs.all id then (none,()) else (some false,())) w
 | [],cs,h=>by cases cs with
  | nil=>simp
  | cons c cs=>have:=h.1;simp at this
 | f::k,cs,h=>by cases cs with
  | nil=>have:=h.1;simp at this
  | cons c cs=>
   obtain⟨G,H⟩:=zIV h;have K:=zVY k cs H;rw[List.forIn_cons];simp only[cS,G,cW];cases c with
   | false=>simp
   | true=>simpa using K
section
variable {P:Program} {r:Option Nat} {E:Env} {S:AState} {d:Nat} {ty:TypeId} {pos:String} {af:Array Edge} {g:Option (Nat×Bool)}
theorem yFD {t e:TypeId} {n es:Nat} {zs:List Value} {H:List (Nat×Operand)} {ds:List (Nat×DV)} {cells:List DV} (hn:d<E.n) (K:ArTy P t n es e zs) (O:dvP S H=some ds) (hf:zPJ (arP n es) (zs.map DV.v) ds=some cells):
  AOp P r E S ⟨some d,.build t H.toArray,ty,pos,af,g⟩ d (.d (.agg cells)):=
 ⟨rfl,hn,λS' ha=>zY rfl hn (by simp) λA w I ρ C hs=>by
  have D:dvP S' H=some ds:=(zLJ ha (λp T=>by simp only[Op.operands];simp;exact⟨p.1,T⟩)).trans O
  have k:=zLI hs D;obtain⟨h,h1,Y,h3⟩:=zQY (places:=arP n es) ds (H.map λp=>(p.1,A.eval p.2)) zs.toArray (zs.map DV.v) cells (by simpa using zPV w I zs) (by simpa using K.one) k hf;refine⟨.agg h,?_,by have:=Rep.agg (w:=w) (I:=I) h.toList cells Y.1 h3 Y.2;rw[Array.toArray_toList] at this;exact this⟩
  have hz:=K.zero w;have hc:Instr.fill (λi=>some (i*es,es)) zs.toArray (H.map λp=>(p.1,A.eval p.2))=some h:=by
   rw[<-h1];apply zVX;intro p T;obtain⟨j,hj,e1⟩:=fA T;have G:j<ds.length:=by rw[<-k.1];exact hj
   have Z:=k.2 j _ _ (cO hj) (cO G);obtain⟨q,hq⟩:=z3U hf ds[j] (eJ G);rw[e1] at Z;rw[Z.1,hq,(yJ1 hq).2]
  simp only[execOp,Instr.build,eO,cS,hz,cW,dJ K.und,K.size w,Value.cells,hc,dV]⟩
theorem zNY {Z:Type} {en:En Z} {l:List Z} {t e:TypeId} {n:Nat} {zs:List Value} {x Y:Operand} {kk:IntKind} {i:Int} {v: Z} (hn:d<E.n) (hT:ArTy P t n 1 e zs) (ho:OneTy P e) (hc:∀v,en.cells v= [en.dv v]) (hx:S.ev x= .d (.agg (en.all l))) (hl:l.length=n) (hi:S.ev Y= .d (.v (.int kk i))) (hv:yD l i=some v):
  AOp P r E S ⟨some d,.index t x Y,ty,pos,af,g⟩ d (.d (en.dv v)):=
 ⟨rfl,hn,λS' ha=>zY rfl hn (by simp) λA w I ρ C hs=>by
  have G:=hs.ev x;rw[(ha.ev (by simp[Op.operands])).trans hx] at G;have h2:=hs.ev Y;rw[(ha.ev (by simp[Op.operands])).trans hi] at h2;have H:=zPK h2;obtain⟨q0,q1,q2,q3⟩:=wU hv;have D:en.size=1:=by rw[<-en.len v,hc];rfl
  generalize hX:A.eval x=vx at G;cases G with
  | agg xs cells T ai hr=>
   have k:(en.all l).length=l.length:=by rw[jI,D,gI]
   have hg:(en.all l)[i.toNat]? =some (en.dv v):=by
    have:=zON (e:=en) q3 0 (by omega);rw[D,gI,fJ,hc] at this;simpa using this
   have O:i.toNat<xs.length:=by rw[T,k];exact q2
   have h:xs[i.toNat]? =some xs[i.toNat]:=cO O;refine⟨xs[i.toNat],?_,hr i.toNat _ _ h hg⟩;have K:0<=i/\i<(n:Int):=⟨q0,by omega⟩;simp only[execOp,hX,H,Instr.index,cS,asIntOf,dV,cW,dJ hT.und,K,iz,dG,hT.size w,gI];rw[zJK ho.agg (a:=xs[i.toNat]) (by simp[h])];rfl⟩
theorem yFE {H K:Type} {R: H->K->Prop} {xs:List H} {ys:List K} (h:Pw R xs ys) (a n:Nat):Pw R ((xs.drop a).take n) ((ys.drop a).take n):=by refine⟨by simp[h.1],λj x y k D=>?_⟩;rw[d5] at k D;by_cases G:j<n;simp only[G,dG,eT] at k D;exact h.2 (a+j) x y k D;simp[G] at k
theorem yB3 {Z:Type} {en:En Z} {l:List Z} {t e:TypeId} {n:Nat} {zs:List Value} {x Y:Operand} {kk:IntKind} {i:Int} {v: Z} (hn:d<E.n) (hT:ArTy P t n en.size e zs) (ho:AggTy P e en.size) (hc:∀v,en.dv v= .agg (en.cells v)) (hx:S.ev x= .d (.agg (en.all l))) (hl:l.length=n) (hi:S.ev Y= .d (.v (.int kk i))) (hv:yD l i=some v):
  AOp P r E S ⟨some d,.index t x Y,ty,pos,af,g⟩ d (.d (en.dv v)):=
 ⟨rfl,hn,λS' ha=>zY rfl hn (by simp) λA w I ρ C hs=>by
  have D:=hs.ev x;rw[(ha.ev (by simp[Op.operands])).trans hx] at D;have h2:=hs.ev Y;rw[(ha.ev (by simp[Op.operands])).trans hi] at h2;have H:=zPK h2;obtain⟨q0,q1,q2,q3⟩:=wU hv;generalize hX:A.eval x=vx at D;cases D with
  | agg xs cells T G hr=>
   have k:((en.all l).drop (i.toNat*en.size)).take en.size=en.cells v:=by
    have:=z0J (e:=en) q3 0 en.size (by omega);rw[fJ,d7,<-en.len v,List.take_length] at this;rw[<-en.len v];exact this
   have h:=yFE (R:=Rep w I) ⟨T,hr⟩ (i.toNat*en.size) en.size;rw[k] at h;have K:(xs.toArray.extract (i.toNat*en.size) (i.toNat*en.size+en.size))=((xs.drop (i.toNat*en.size)).take en.size).toArray:=by
    rw[List.extract_toArray,List.extract_eq_take_drop];congr 2;omega
   refine⟨.agg ((xs.drop (i.toNat*en.size)).take en.size).toArray,?_,?_⟩
   ·have O:0<=i/\i<(n:Int):=⟨q0,by omega⟩
    simp only[execOp,hX,H,Instr.index,cS,asIntOf,dV,cW,dJ hT.und,O,iz,dG,hT.size w,part,ho.agg w,K]
   ·rw[hc]
    exact .agg _ _ h.1 (λy hy=>G y (eP (eC hy))) h.2⟩
theorem yJ2 {t n h:Nat} {zs:List Value} (G:d<E.n) (K:AggTy P t n) (O:E.gdt h=some zs) (Y:zs.length=n) (H:zs.all Value.oneCell'=true):
  AOp P r E S ⟨some d,.load t (.global h),ty,pos,af,g⟩ d (.d (.agg (zs.map DV.v))):=
 ⟨rfl,G,λS' ha=>zY rfl G (by simp) λA w I ρ C Z=>by
  have D:=Z.gl h zs O;refine⟨.agg zs.toArray,?_,.agg _ _ (by simp) (λx hx=>dS.1 H x hx) (zPV w I zs).2⟩;have k:A.eval (.global h)= .pointer (some ⟨h,0,none⟩):=rfl;simp only[execOp,k,cS];rw[zEB w K h 0 zs Y (λj v T=>by rw[eE];exact(D j).1.trans T)]
  rfl⟩
theorem zMD {t e:TypeId} {n es:Nat} {zs:List Value} (h:ArTy P t n es e zs) {k:Nat} (K:k<n) (H:IntKind) (w:World) (b o:Nat):
  (Instr.indexAt t (.pointer (some ⟨b,o,none⟩)) (.int H (k:Int))).run P w= .ok (.pointer (some ⟨b,o+k*es,none⟩)) w:=by
 have D:(⟨b,o,none⟩:Addr).add (k*es)=⟨b,o+k*es,none⟩:=by
  unfold Addr.add;split
  ·rename_i e;rw[e];rfl
  ·rfl
 have G:0<=(k:Int)/\(k:Int)<(n:Int):=⟨by omega,by omega⟩;simp only[Instr.indexAt,cS,asIntOf,dV,cW,dJ h.und,Instr.sureAddr,G,iz,dG,h.size w,Int.toNat_natCast,D]
theorem zTW {t e:TypeId} {n es id o:Nat} {zs:List Value} {x H:Operand} {Z:IntKind} {k:Nat} (T:d<E.n) (hT:ArTy P t n es e zs) (hx:S.ev x= .ptr id o) (hi:S.ev H= .d (.v (.int Z (k:Int)))) (hk:k<n):
  AOp P r E S ⟨some d,.indexAddr t x H,ty,pos,af,g⟩ d (.ptr id (o+k*es)):=
 ⟨rfl,T,λS' O=>zY rfl T (by simp) λA w I ρ C Y=>by
  have h:=Y.ev x;rw[(O.ev (by simp[Op.operands])).trans hx] at h;have K:=Y.ev H;rw[(O.ev (by simp[Op.operands])).trans hi] at K;have D:=zPK K;obtain⟨b,G,hv⟩:=h;refine⟨.pointer (some ⟨b,o+k*es,none⟩),?_,b,G,rfl⟩;simp only[execOp,hv,D,cS,zMD hT hk Z w b o];rfl⟩
theorem yB4 {t e:TypeId} {n es:Nat} {zs:List Value} {cells:List DV} {x H:Operand} {kk:IntKind} {k:Nat} (Y:d<E.n) (hT:ArTy P t n es e zs) (hx:S.ev x= .d (.pt cells)) (hi:S.ev H= .d (.v (.int kk (k:Int)))) (hk:k<n):
  AOp P r E S ⟨some d,.indexAddr t x H,ty,pos,af,g⟩ d (.ip cells (0+k*es)):=
 ⟨rfl,Y,λS' T=>zY rfl Y (by simp) λA w I ρ C Z=>by
  have h:=Z.ev x;rw[(T.ev (by simp[Op.operands])).trans hx] at h;have O:=Z.ev H;rw[(T.ev (by simp[Op.operands])).trans hi] at O;have D:=zPK O;obtain⟨b,K,xs,hv,hr,h1,G⟩:=z3Q (ρ:=ρ) h;refine⟨.pointer (some ⟨b,K+(0+k*es),none⟩),?_,b,K,xs,rfl,hr,h1,G⟩;simp only[execOp,hv,D,cS,zMD hT hk kk w b (K+0),fX];rfl⟩
end
theorem EqTy.ofA {P:Program} {h:Type} [DecidableEq h] {t e:TypeId} {n:Nat} {zs:List Value} {en:En h} {vals: h->List Value} {cs: h->h->List Bool} (O:ArTy P t n 1 e zs) (Y:OneTy P e) (hg:P.eqGuardType P.depth t=false)
  (hv:∀a,en.dv a= .agg ((vals a).map DV.v)) (T:∀a b w,Pw (λ(i:Nat) c=> ∃x y,(vals a)[i]? =some x/\(vals b)[i]? =some y/\(Op.equalIn (9998+1) e x y).run P w= .ok c w) (List.range n) (cs a b)) (Z:∀a b,(cs a b).all id=decide (a=b)):EqTy P t en where
 eq:=λa b va vb w I H K=>by
  rw[hv] at H K;rw[zOR H,zOR K];refine⟨⟨_,_,rfl,rfl⟩,?_⟩;show (Op.equalIn (9999+1) t _ _).run P w=_;rw[Op.equalIn];simp only[cS,dJ O.und,cW,O.size w];rw[Std.Legacy.Range.forIn_eq_forIn_range'];have ad:List.range' 0 ((n-0+1-1)/1) 1=List.range n:=by simp[gN]
  have D:(Std.Legacy.Range.size [0:n])=n:=by simp[Std.Legacy.Range.size]
  simp only[D];rw[<-gN,<-Z a b];rw[zVY (P:=P) (w:=w) (List.range n) (cs a b) ⟨(T a b w).1,λj f c hf k s=>?_⟩]
  ·simp only[cW]
   cases (cs a b).all id<;>simp
  ·obtain⟨x,y,q3,q4,q5⟩:=(T a b w).2 j f c hf k
   simp only[cS,gI,zJK Y.agg (xs:=(vals a).toArray) (a:=x) (by simpa using q3),zJK Y.agg (xs:=(vals b).toArray) (a:=y) (by simpa using q4),cW];have G:(Op.equalIn 9999 e x y).run P w= .ok c w:=q5;rw[G];cases c<;>simp
 guard:=λop x y xs ys w=>by
  have hp:(program).run P w= .ok P w:=by rfl
  cases op<;>simp[eqGuard,hp,hg]
open Go.RowKit Go.M
theorem zTC {P:Program} {G:Type} [DecidableEq G] {K:TypeId} {kv: G->Value} {w:World} (H:∀a b,(Op.equal K (kv a) (kv b)).run P w= .ok (decide (a=b)) w) (a: G):∀(es:List MapEntry) (D:List G) (i:Nat),Pw (λ(x:MapEntry) k=>x.key=kv k) es D->
  (Instr.findAsking K (kv a) es i).run P w= .ok (findAt a D es i) w
 | [],D,i,h=>by
  cases D with
  | nil=>simp[Instr.findAsking,findAt]
  | cons k D=>have:=h.1;simp at this
 | x::es,D,i,h=>by
  cases D with
  | nil=>have:=h.1;simp at this
  | cons k D=>
   obtain⟨O,T⟩:=zIV h;have Y:=zTC H a es D (i+1) T;simp only[Instr.findAsking,cS,O,H,cW,findAt];by_cases e:a=k
   ·simp[e]
   ·simp[e,Y]
theorem z3V {td:TypeDesc} {k:Value} {es:List MapEntry} (h:∀x∈es,Instr.sameNow td k x.key=none) (i:Nat):Instr.findNow td k es i=if es= [] then some none else none:=by
 cases es with
 | nil=>rfl
 | cons x es=>simp[Instr.findNow,h x (by simp)]
theorem yFF {P:Program} {H:Type} [DecidableEq H] {D:TypeId} {en:En H} {kv: H->Value} {vals: H->List Value} {td:TypeDesc} (hu:P.underlying D=some td) (hT:EqTy P D en) (Z:∀a,en.dv a= .agg ((vals a).map DV.v)) (G:∀a,kv a= .agg (vals a).toArray) (T:∀a,(vals a).all Value.oneCell'=true)
  (hs:∀a,(vals a).all (λx=>Instr.sameBits 9999 x x)=true) (hc:∀a b w,(Instr.checkKey b 10000 D (kv a)).run P w= .ok () w):KeyTy P D kv where
 same:=λa=>by
  rw[G];have:∀(l:List Value),l.all (λx=>Instr.sameBits 9999 x x)=true->(l.zip l).all (λ(x,y)=>Instr.sameBits 9999 x y)=true:=by
   intro l
   induction l with
   | nil=>intro _;rfl
   | cons x l ih=>intro h;simp only[iq,dE] at h;simp only[List.zip_cons_cons,iq,dE];exact⟨h.1,ih h.2⟩
  show Instr.sameBits (9999+1) _ _=true;rw[Instr.sameBits];simp[this _ (hs a)]
 check:=hc
 find:=λa O es w h=>by
  have K:∀a b,(Op.equal D (kv a) (kv b)).run P w= .ok (decide (a=b)) w:=by
   intro a b;have ra:Rep w (λ_ _=>False) (kv a) (en.dv a):=by rw[G,Z];exact z3R _ (T a)
   have rb:Rep w (λ_ _=>False) (kv b) (en.dv b):=by rw[G,Z];exact z3R _ (T b)
   exact(hT.eq a b _ _ w _ ra rb).2
  have hn:=z3V (td:=td) (k:=kv a) (es:=es) (λx _=>by rw[G];cases td<;>rfl) 0
  simp only[Instr.findKey,cS,dJ hu,cW,hn];by_cases Y:es= []
  ·subst Y
   cases O with
   | nil=>simp[findAt]
   | cons k O=>have:=h.1;simp at this
  ·simp only[Y,cV]
   exact zTC K a es O 0 h
open Go.RowKit Go.M
def DV.pure:DV->Bool
 | .v _=>true
 | .agg cs=>cs.all DV.isV
 | _=>false
theorem yFG {w w':World} {I G:Im} {v:Value} {d:DV} (h:Rep w I v d) (k:d.pure=true):Rep w' G v d:=by
 cases h with
 | v=>exact .v v
 | agg xs cells D H K=>exact .agg xs cells D H (yE1 (w:=w) (I:=I) ⟨D,K⟩ k).2
 | _=>simp[DV.pure] at k
def pc (y:DV):Cap:=if y.pure then .d y else .top
theorem z3W {w w':World} {I D:Im} {ρ:Nat->Value} {v:Value} {y:DV} (h:Rep w I v y):HoldsC w' D ρ v (pc y):=by unfold pc;by_cases k:y.pure=true;simp only[k,dG];exact yFG h k;simp only[k,cV];trivial
def yNB:List DV->AV
 | [y]=>(pc y).av
 | ys=> .tupc (ys.map pc)
theorem z3X {w w':World} {I O:Im} {ρ:Nat->Value} {v:Value}:∀{K:List DV},z2U w I v K->Holds w' O ρ v (yNB K)
 | [],h=>by
  obtain⟨xs,G,D⟩:=h;exact⟨xs,G,by have:=D.1;simp at this;subst this;exact Pw.nil⟩
 | [y],h=>Cap.holds (z3W h)
 | x::y::zs,h=>by
  obtain⟨xs,G,D⟩:=h;refine⟨xs,G,by simpa using D.1,λj u c T k=>?_⟩;rw[dX] at k;cases H:(x::y::zs)[j]? with
  | none=>rw[H] at k;cases k
  | some q=>rw[H] at k;cases k;exact z3W (D.2 j u q T H)
section
variable {P:Program} {r:Option Nat} {E:Env} {S:AState} {d:Nat} {ty:TypeId} {pos:String} {af:Array Edge} {g:Option (Nat×Bool)}
theorem zKQ {w:World} {I:Im} {ρ:Nat->Value} {M:Nat->Prop} {id e size k n:Nat} {cells:List DV} (h:BlkOk w I ρ M id (.win e size k cells)) (T:cells.length=n*size):
  0<size/\∃A c xs,ρ id= .slice A n c/\n<=c/\Reps w I xs cells/\(∀x∈xs,x.oneCell'=true)/\(0<n->∃b off arr,A=some ⟨b,off,none⟩/\M b/\w.heap[b]? =some (.cells arr e (0,0))/\off+n*size<=arr.size/\(∀(j:Nat) x,xs[j]? =some x->arr[off+j]? =some x)/\(∀j,off<=j->j<off+n*size->I b j->j<off+k*size)):=by
 obtain⟨A,n',c,xs,Z,G,H,D,Y,K,O⟩:=h;obtain rfl:=zII D T H;refine⟨H,A,c,xs,Z,G,Y,K,λh0=>?_⟩;rcases O with ⟨_,h⟩ | h
 ·omega
 ·exact h
section win
variable {t e size bytes k n:Nat} {z:Value} {x:Operand} {id:Nat} {cells:List DV}
theorem yB5 (K:d<E.n) (T:SlTy P t e size bytes z) (hx:S.ev x= .row id) (hb:S.blk id= .win e size k cells) (Y:cells.length=n*size):
  AOp P r E S ⟨some d,.call {callee:= .builtin .len,args:= #[x],argTypes:= #[t]},ty,pos,af,g⟩ d (.d (.v (.int .i64 n))):=
 ⟨rfl,K,λS' G=>jQ rfl K (by simp) λA w I ρ C O=>by
  have h:=O.ev x;rw[(G.ev (by simp[Op.operands,Call.operands])).trans hx] at h;have Z:A.eval x= ρ id:=h;have H:=O.blks id;rw[(G.blk id).trans hb] at H;obtain⟨_,A',c,xs,D,_⟩:=zKQ H Y;exact zUJ w T.und _ _ _ x A (Z.trans D) _ rfl⟩
theorem zTD {lo hi:Option Operand} {l h:Nat} (hn:d<E.n) (hT:SlTy P t e size bytes z) (hx:S.ev x= .row id) (T:S.blk id= .win e size k cells) (hl:cells.length=n*size) (hb:Bd S n lo hi l h):
    AOp P r E S ⟨some d,.slice t x lo hi none,ty,pos,af,g⟩ d (.ws id (l*size) (h-l) false):=
  ⟨rfl,hn,λS' O=>zY rfl hn (by simp) λA w I ρ C hs=>by
    have h1:=hs.ev x;rw[(O.ev (x:=x) (by simp[Op.operands])).trans hx] at h1;have hv:A.eval x= ρ id:=h1;have hk:=hs.blks id;rw[(O.blk id).trans T] at hk;obtain⟨_,K,c,xs,H,G,_,_,D⟩:=zKQ hk hl;obtain⟨Z,Y⟩:=(hb.agree O).vals hs;have ag:=hb.len;have aj:=hb.le;refine⟨_,?_,(if c=l then K else K.map (·.add (l*size))),c-l,rfl,by omega,(by simp),λh0=>?_⟩
    · simp only[execOp,hv,H,cS,gy,zOL w hT.und (hT.size w) K n c l h _ _ Z Y hb.le hb.len G]
      rfl
    · obtain⟨b,off,arr,rfl,_⟩:=D (by omega)
      refine⟨b,off,n,c,H,?_⟩;rw[dK (by omega)];simp[u7]⟩
theorem z6V (w:World) (T:P.underlying t=some (.slice e)) (O:(sizeOf e).run P w= .ok size w) (A:Option Addr) (n c l h m:Nat) (lo:Option Value) (D G:IntKind) (K:lo=none/\l=0\/∃k,lo=some (.int k l))
    (H:l<=h) (Z:h<=m) (Y:m<=c):(Instr.sliceAt t (.slice A n c) lo (some (.int D h)) (some (.int G m))).run P w= .ok (.slice (if m=l then A else A.map (·.add (l*size))) (h-l) (m-l)) w:=by
  have hb:(Instr.sliceBounds true n c lo (some (.int D h)) (some (.int G m))).run P w= .ok (l,h,m) w:=by
    rcases K with ⟨rfl,rfl⟩ | ⟨k,rfl⟩
    · simp[Instr.sliceBounds,wC (P:=P) w G m c _ (by omega),wC (P:=P) w D h m _ (by omega)]
    · simp[Instr.sliceBounds,wC (P:=P) w G m c _ (by omega),wC (P:=P) w D h m _ (by omega),wC (P:=P) w k l h _ H]
  simp[Instr.sliceAt,Instr.slice,dJ T,hb,O]
end win
end
open Go.RowKit Go.M
def mpD {h k:Type} (kv: h->Value) (ev:En k) (m:List (h×k)):DV:= .mp (m.map λp=>kv p.1) (m.map λp=>ev.dv p.2)
theorem yFH {w:World} {I:Im} {v:Value} {T Y:Type} {kv: T->Value} {ev:En Y} {m:List (T×Y)} (h:Rep w I v (mpD kv ev m)):
  ∃b ents k,v= .map (some b)/\w.heap[b]? =some (.map ents k)/\Pw (λ(x:MapEntry) (y:Value×DV)=>x.key=y.1/\Rep w I x.val y.2) ents.toList (wG kv ev m):=by
 unfold mpD at h;generalize O:(m.map λp=>kv p.1)=ks at h;generalize H:(m.map λp=>ev.dv p.2)=vs at h;cases h with
 | mp b k ents vs Z hI hx hr hN=>
  refine⟨b,ents,k,rfl,Z,?_,λj x y K D=>?_⟩
  ·have:=congrArg List.length O;simp at this;simp[wG,this]
  ·simp only[wG,dX] at D
   cases G:m[j]? with
   | none=>rw[G] at D;cases D
   | some p=>
    rw[G] at D;cases D;refine⟨?_,hr j x _ K (by rw[<-H];simp[G])⟩
    have:=congrArg (λl=>l[j]?) O;simp only[dX,G,K,eZ,fD] at this;exact this.symm
theorem yRA {w:World} {I:Im} {b h:Nat} {ents:Array MapEntry} {O T:Type} {kv: O->Value} {ev:En T} {m:List (O×T)} (hh:w.heap[b]? =some (.map ents h)) (hI:I b 0)
    (G:Pw (λ(x:MapEntry) (y:Value×DV)=>x.key=y.1/\Rep w I x.val y.2) ents.toList (wG kv ev m)) (hN:Born ents h):Rep w I (.map (some b)) (mpD kv ev m):=by
  have hk:ents.toList.map (·.key)=m.map λp=>kv p.1:=by
    apply fV;intro j;simp only[dX];cases H:ents.toList[j]? with
    | none=>
      have K:ents.toList.length<=j:=ie.1 H;have Y:m.length<=j:=by have:=G.1;simp only[wG,e7] at this;omega
      simp[ie.2 Y]
    | some x=>
      have K:j<m.length:=by have:=(cX.1 H).1;have Z:=G.1;simp only[wG,e7] at Z;omega
      have k:m[j]? =some m[j]:=cO K;have:=(G.2 j x (kv m[j].1,ev.dv m[j].2) H (by simp[wG,k])).1;simp[k,this]
  unfold mpD;rw[<-hk];refine .mp b h ents _ hh hI (by have:=G.1;simpa[wG] using this) (λj x dd hj D=>?_) hN
  rw[dX] at D;cases k:m[j]? with
  | none=>rw[k] at D;cases D
  | some p=>rw[k] at D;cases D;exact(G.2 j x (kv p.1,ev.dv p.2) hj (by simp[wG,k])).2
theorem yJ3 {vals:List Value} {u:DV} (h:u= .agg (vals.map DV.v)):∀(w:World) (I:Im) v,Rep w I v u->v= .agg vals.toArray:=by
 subst h;intro w I v h;cases h with
 | agg xs cells H D K=>
  congr 2;apply fV;intro j;cases k:xs[j]? with
  | none=>
   have D:xs.length<=j:=ie.1 k;rw[e7] at H;exact(ie.2 (by omega)).symm
  | some x=>
   have D:j<vals.length:=by have:=(cX.1 k).1;rw[e7] at H;omega
   have G:vals[j]? =some vals[j]:=cO D;rw[G,zPK (K j x (.v vals[j]) k (by simp[G]))]
theorem yRB {x:Value}:∀(w:World) (I:Im) v,Rep w I v (.v x)->v=x:=λ_ _ _ h=>zPK h
section
variable {P:Program} {r:Option Nat} {E:Env} {S:AState} {d:Nat} {ty:TypeId} {pos:String} {af:Array Edge} {g:Option (Nat×Bool)}
theorem zI6 {x:Operand} {id off:Nat} (k:d<E.n) (O:S.ev x= .ptr id off):AOp P r E S ⟨some d,.nilCheck x,ty,pos,af,g⟩ d (.ptr id off):=
 ⟨rfl,k,λS' H=>zY rfl k (by simp) λA w I ρ C K=>by
  have h:=K.ev x;rw[(H.ev (by simp[Op.operands])).trans O] at h;obtain⟨b,D,G⟩:=h;exact⟨_,by simp[execOp,G],b,D,rfl⟩⟩
theorem zHO {x:Operand} {cells:List DV} (G:d<E.n) (k:S.ev x= .d (.pt cells)):AOp P r E S ⟨some d,.nilCheck x,ty,pos,af,g⟩ d (.d (.pt cells)):=
 ⟨rfl,G,λS' K=>zY rfl G (by simp) λA w I ρ C Y=>by
  have h:=Y.ev x;rw[(K.ev (by simp[Op.operands])).trans k] at h;have D:Rep w I (A.eval x) (.pt cells):=h;generalize Z:A.eval x=v at D;cases D with
  | pt b off xs cells k O H T=>exact⟨_,by simp[execOp,Z],.pt b off xs cells k O H T⟩⟩
theorem zOS {f:Nat->Option (Nat×Nat)}:∀(vs:List (Nat×Value)) (arr k:Array Value) (i:Nat) (v:Value) (off:Nat),Instr.fill f arr vs=some k->f i=some (off,1)->v.oneCell'=true->off<k.size->Instr.fill f arr (vs++ [(i,v)])=some (k.setIfInBounds off v)
 | [],arr,k,i,v,off,h,hi,G,D=>by
  simp only[Instr.fill,fD] at h;subst h;simp only[dP,Instr.fill,hi,zLG G];have:¬(off+1 > arr.size):=by omega
  simp[this]
 | (j,u)::vs,arr,k,i,v,off,h,hi,G,D=>by
  simp only[Instr.fill,fN] at h ⊢;cases H:f j with
  | none=>rw[H] at h;cases h
  | some q=>
   obtain⟨o,s⟩:=q;rw[H] at h;simp only at h ⊢;split at h;cases h;rename_i K;rw[dK K];exact zOS vs _ _ i v off h hi G D
theorem yFI {t:TypeId} {places:List (Nat×Nat)} {zs:List Value} (T:List (Nat×Operand)) (i:Nat) (x:Operand) {ds:List (Nat×DV)} {cells:List DV} {id off:Nat} (hn:d<E.n) (hT:StTy P t places zs) (ac:dvP S T=some ds) (hf:zPJ places (zs.map DV.v) ds=some cells)
  (hx:S.ev x= .row id) (hr:zS6 S (.row id)=true) (hi:places[i]? =some (off,1)) (ag:Nat.ble (off+1) cells.length=true):
  AOp P r E S ⟨some d,.build t (T++ [(i,x)]).toArray,ty,pos,af,g⟩ d (.aggc ((cells.map Cap.d).set off (.row id))):=
 ⟨rfl,hn,λS' ha=>zY rfl hn (by simp) λA w I ρ C hs=>by
  obtain⟨Y,hu,hp⟩:=hT.und;have O:off<cells.length:=hO ag;have K:dvP S' T=some ds:=(zLJ ha (λp hp=>by simp only[Op.operands];simp;exact .inl ⟨p.1,hp⟩)).trans ac
  obtain⟨k,h1,Z,h3⟩:=zQY (places:=places) ds (T.map λp=>(p.1,A.eval p.2)) zs.toArray (zs.map DV.v) cells (by simpa using zPV w I zs) (by simpa using hT.one) (zLI hs K) hf;have hv:=hs.ev x;rw[(ha.ev (x:=x) (by simp[Op.operands])).trans hx] at hv;have D:(A.eval x).oneCell'=true:=zPU hs.blks hv rfl (λi' e=>by
   cases e;have:=zL6 hr id rfl
   rwa [ha.blk])
  have ak:off<k.size:=by rw[<-eM,Z.1];exact O
  have ad:=zOS (f:=λi=>places[i]?) (T.map λp=>(p.1,A.eval p.2)) zs.toArray k i (A.eval x) off h1 hi D ak;refine⟨.agg (k.toList.set off (A.eval x)).toArray,?_,_,rfl,?_,?_⟩
  ·have hz:=hT.zero w
   simp only[execOp,Instr.build,eO,cS,hz,cW,dJ hu,hp w,Value.cells,eX,g9,ez,fI,ad,dV];congr 2;congr 1;rw[<-Array.toList_inj];simp
  ·have ai:Pw (HoldsC w I ρ) k.toList (cells.map Cap.d):=by
    refine⟨by rw[Z.1,e7],λj u c hu H=>?_⟩;rw[dX] at H;cases G:cells[j]? with
    | none=>rw[G] at H;cases H
    | some q=>rw[G] at H;cases H;exact Z.2 j u q hu G
   exact ai.set (y:=Cap.row id) hv off
  ·intro y hy
   rcases gx hy with h | h
   ·exact h3 y h
   ·rw[h];exact D⟩
theorem zVZ {k:TypeId} {x:Operand} {cs:List Cap} (Z:d<E.n) (hx:S.ev x= .aggc cs) (H:E.nm d=none):
  jJ P r E ⟨some d,.box k x,ty,pos,af,g⟩ S (((S.kill d).setBlk d (.box k ((cs.map Cap.av).map (zFJ d)))).put d (.ptr d 0)):=
 zAM (by simp) λA w I ρ C T=>by
  have h:=T.ev x;rw[hx] at h;obtain⟨xs,hv,O,Y⟩:=h;have K:Pw (Holds w I ρ) xs (cs.map Cap.av):=by
   refine⟨by rw[O.1,e7],λj u c hu G=>?_⟩;rw[dX] at G;cases D:cs[j]? with
   | none=>rw[D] at G;cases G
   | some q=>rw[D] at G;cases G;exact Cap.holds (O.2 j u q hu D)
  have hb:=T.newBox (id:=d) (e:=k) (arr:=xs.toArray) (cells:=cs.map Cap.av) (by simpa using K) (by simpa using Y) H;refine⟨.pointer (some ⟨w.heap.size,0,none⟩),w.alloc (.cells xs.toArray k),?_,I,_,C,hb.put Z (show Holds _ _ _ (.pointer (some ⟨w.heap.size,0,none⟩)) (AV.ptr d 0) from ⟨w.heap.size,by simp[upd,blockOf],rfl⟩)⟩;simp only[execOp,hv,Instr.box,newVar,Value.cells];simp[newRow]
section
variable {t:TypeId} {κ ν:Type} [DecidableEq κ] {kv: κ->Value} {ev:En ν} {mp:List (κ×ν)} {k: κ} {kt vt:TypeId} {zv:Value} {zero: ν} {km kk:Operand} {id:Nat} {uk:DV}
theorem yB6 (hn:d<E.n) (hT:MapTy P t kt vt zv) (hK:KeyTy P kt kv) (hm:S.ev km= .row id) (hb:S.blk id= .map (wG kv ev mp)) (hk:S.ev kk= .d uk) (hu:∀(w:World) (I:Im) v,Rep w I v uk->v=kv k) (hz:∀w I,Rep w I zv (ev.dv zero)):
  AOp P r E S ⟨some d,.lookup t km kk false,ty,pos,af,g⟩ d (.d (ev.dv (mgetD mp k zero))):=
 ⟨rfl,hn,λS' H=>zY rfl hn (by simp) λA w I ρ C O=>by
  have h:=O.blks id;rw[(H.blk id).trans hb] at h;obtain⟨b,ents,G,Z,_,hh,hp,_⟩:=h;have hv:=O.ev km;rw[(H.ev (by simp[Op.operands])).trans hm] at hv;have T:A.eval km= .map (some b):=Eq.trans hv Z;have D:=O.ev kk;rw[(H.ev (x:=kk) (by simp[Op.operands])).trans hk] at D;have K:=hu _ _ _ D;have Y:=hz w I;obtain⟨v,h1,h2⟩:=zJJ (w:=w) (I:=I) hT hK hh hp Y false;refine⟨v,?_,h2⟩;simp only[execOp,T,K,cS,h1];rfl⟩
theorem zZG (T:d<E.n) (hT:MapTy P t kt vt zv) (hK:KeyTy P kt kv) (hm:S.ev km= .d (mpD kv ev mp)) (hk:S.ev kk= .d uk) (hu:∀(w:World) (I:Im) v,Rep w I v uk->v=kv k) (hz:∀w I,Rep w I zv (ev.dv zero)):
  AOp P r E S ⟨some d,.lookup t km kk false,ty,pos,af,g⟩ d (.d (ev.dv (mgetD mp k zero))):=
 ⟨rfl,T,λS' O=>zY rfl T (by simp) λA w I ρ C Y=>by
  have Z:=Y.ev km;rw[(O.ev (by simp[Op.operands])).trans hm] at Z;obtain⟨b,ents,D,H,hh,hp⟩:=yFH Z;have h:=Y.ev kk;rw[(O.ev (x:=kk) (by simp[Op.operands])).trans hk] at h;have G:=hu _ _ _ h;have K:=hz w I;obtain⟨v,h1,h2⟩:=zJJ (w:=w) (I:=I) hT hK hh hp K false;refine⟨v,?_,h2⟩;simp only[execOp,H,G,cS,h1];rfl⟩
theorem z6W (T:d<E.n) (hT:MapTy P t kt vt zv) (hK:KeyTy P kt kv) (hm:S.ev km= .d (mpD kv ev mp)) (hk:S.ev kk= .d uk) (hu:∀(w:World) (I:Im) v,Rep w I v uk->v=kv k) (hz:∀w I,Rep w I zv (ev.dv zero)):
  AOp P r E S ⟨some d,.lookup t km kk true,ty,pos,af,g⟩ d (.tup [ev.dv (mgetD mp k zero),db (zDM mp k)]):=
 ⟨rfl,T,λS' O=>zY rfl T (by simp) λA w I ρ C Y=>by
  have Z:=Y.ev km;rw[(O.ev (by simp[Op.operands])).trans hm] at Z;obtain⟨b,ents,D,H,hh,hp⟩:=yFH Z;have h:=Y.ev kk;rw[(O.ev (x:=kk) (by simp[Op.operands])).trans hk] at h;have G:=hu _ _ _ h;have K:=hz w I;obtain⟨v,h1,h2⟩:=zJJ (w:=w) (I:=I) hT hK hh hp K true;refine⟨.tuple #[v,.bool (zDM mp k)],?_,[v,.bool (zDM mp k)],rfl,Pw.cons h2 (Pw.cons (.v _) Pw.nil)⟩;simp only[execOp,H,G,cS,h1];rfl⟩
theorem zQ4 {x:Operand} {v: ν} {u:DV} (hT:MapTy P t kt vt zv) (hK:KeyTy P kt kv) (hm:S.ev km= .row id) (hb:S.blk id= .map (wG kv ev mp)) (hk:S.ev kk= .d uk) (an:∀(w:World) (I:Im) v,Rep w I v uk->v=kv k) (hx:S.ev x= .d u) (hu:u=ev.dv v) (hE:E.wrB=true):
    jJ P r E ⟨none,.mapUpdate t km kk x,ty,pos,af,g⟩ S (S.setBlk id (.map (wG kv ev (wX mp k v)))):=
  zGS rfl (by simp) λA w I ρ C hs=>by
    subst hu;have aa:=hs.blks id;rw[hb] at aa;obtain⟨b,ents,H,Y,hM,hh,hp,hI,hN⟩:=aa;have hv:=hs.ev km;rw[hm] at hv;have ah:A.eval km= .map (some b):=Eq.trans hv Y;have ac:=hs.ev kk;rw[hk] at ac;have ad:=an _ _ _ ac;have T:=hs.ev x;rw[hx] at T;have ao:=(cQ.1 hh).1;have hf:=hK.find k _ ents.toList w (zUK hp);have O:(getObj b).run P w= .ok (.map ents H) w:=by simp[getObj,Sem.run,hh]
    have Z:∀(G:Array MapEntry) (D:Nat),Pw (λ(x:MapEntry) (y:Value×DV)=>x.key=y.1/\Rep w I x.val y.2) G.toList (wG kv ev (wX mp k v))->Born G D->
        Sat E (S.setBlk id (.map (wG kv ev (wX mp k v)))) A {w with heap:=w.heap.setIfInBounds b (.map G D)}:=by
      intro G D aq am;have hg:w.grownBy {w with heap:=w.heap.setIfInBounds b (.map G D)} (some b):=
        ⟨rfl,rfl,rfl,by simp,λq _ hq=>dU (λe=>hq (by rw[e]))⟩
      have K:Same I w {w with heap:=w.heap.setIfInBounds b (.map G D)}:=λb' j hi=>by
        have:b'≠b:=λe=>hI j (e▸hi);exact KeepB.of (dU (λe=>this e.symm))
      refine⟨I,ρ,C,hs.modify hg (by rw[hb];simp) (by rw[Y];rfl) K ⟨b,G,D,Y,hM,by simp[ao],aq.imp λ_ _ h=>⟨h.1,h.2.mono K (λ_ _ h=>h)⟩,hI,am⟩ hE⟩
    rcases zJI (a:=k) (i:=0) hp with ⟨e1,e2⟩ | ⟨v0,j,x0,e1,e2,e3,⟨q,q1,q2,q3⟩,e4⟩
    · rw[e2] at hf
      refine⟨_,?_,Z (ents.push {key:=kv k,val:=A.eval x,born:=H}) (H+1) ?_ hN.push⟩
      · simp only[execOp,ah,ad,Instr.mapUpdate,cS,dJ hT.und,cW,O,hK.check,hf,zFL hh,dV]
      · rw[zVU e1]
        simp only[wG,g9,iA,ez,fI];exact Pw.append hp (Pw.cons ⟨rfl,T⟩ Pw.nil)
    · rw[e2] at hf
      have hq:ents[0+j]? =some q:=by rw[eE];simpa using q1
      have ab:(Instr.keyThatStays (((ents[0+j]?).map (·.key)).getD (kv k)) (kv k)).run P w= .ok (kv k) w:=by
        rw[hq];simp only[eZ,gD,q2,Instr.keyThatStays,hK.same,dG,dV]
      refine⟨_,?_,Z (ents.modify (0+j) λe=>{e with key:=kv k,val:=A.eval x}) H ?_ (hN.modify λ_=>rfl)⟩
      · simp only[execOp,ah,ad,Instr.mapUpdate,cS,dJ hT.und,cW,O,hK.check,hf,ab,zFL hh,dV]
      · rw[eE,gR]
        exact e4 (A.eval x) v _ (λ_=> .inr rfl) (λ_=>rfl) T
end
theorem SatAt.giveUp {a:Act} {w:World} {I:Im} {ρ:Nat->Value} {C:Nat->Prop} (h:SatAt E S a w I ρ C) {id b:Nat} (H:S.blk id≠ .none) (G:blockOf (ρ id)=some b):
  SatAt E (S.setBlk id .none) a w (λk j=>I k j\/k=b) ρ C:=by
 have O:=h.blt id b H G;have D:∀k j,I k j->(λk (j:Nat)=>I k j\/k=b) k j:=λ_ _ h=> .inl h;have key:∀i,(S.setBlk id .none).blk i≠ .none->S.blk i≠ .none/\i≠id:=by
  intro i hi;rw[yO] at hi;by_cases e:id=i
  ·subst e;simp at hi
  ·simp only[e,cV] at hi;exact⟨hi,λe'=>e e'.symm⟩
 refine⟨λu=>(h.tmps u).mono (k7 I w) D,λi=>?_,λi i' k Z hi Y=>h.dist i i' k Z (key i hi).1 (key i' Y).1,h.frame,λb j hi=>D b j (h.sub b j hi),λk j hi=>?_,h.size,h.defers,λk j hi=>?_,λi k hi T=>h.cB i k (key i hi).1 T,λi v hv hi=>h.nm i v hv (key i hi).1⟩
 ·by_cases e:id=i
  ·subst e;rw[yO];simp only[dG];trivial
  ·rw[yO,dK e]
   refine(h.blks i).widenI D λb2 j hx K hi=>?_;rcases hi with hi | hi
   ·exact hi
   ·subst hi;exact absurd K (h.dist id i b2 e H hx G)
 ·rcases hi with hi | hi
  ·exact h.old k j hi
  ·subst hi;exact⟨O.2,.inr O.1⟩
 ·rcases hi with hi | hi
  ·exact h.cI k j hi
  ·subst hi;exact h.cB id k H G
theorem zME {Z ν:Type} {kv: Z->Value} {ev:En ν} {m:List (Z×ν)} {bid eb off k:Nat} {cells:List AV} (hb:S.blk bid= .box eb cells) (hc:cells[off]? =some (.row k)) (G:S.blk k= .map (wG kv ev m)):
  zGM E S ((S.setBlk k .none).setBlk bid (.box eb (cells.set off (.d (mpD kv ev m))))):=by
 rintro a w ⟨I,ρ,C,h⟩
 have K:k≠bid:=by rintro rfl;rw[hb] at G;cases G
 have Y:=h.blks k;rw[G] at Y;obtain⟨b,ents,H,D,hM,hh,hp,hI,hN⟩:=Y;have h2:=h.giveUp (id:=k) (b:=b) (by rw[G];simp) (by rw[D];rfl)
 refine⟨_,ρ,C,h2.rebox (eb:=eb) (cells:=cells) (by rw[yO,dK K];exact hb) λxs hx=>hx.set_right hc λx O=>?_⟩
 have T:x= ρ k:=O;rw[T,D];exact yRA hh (.inr rfl) (hp.imp λ_ _ q=>⟨q.1,q.2.mono (k7 I w) λ_ _ h=> .inl h⟩) hN
end
end Go.AV


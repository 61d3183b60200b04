/- The layer of abstract values: what a temporary holds, said once; every rule of it is proved from the model. Conditions: none. -/
import Derived.Test.YtjnpmmedmedokaaGreatDoorLa1
set_option linter.unusedSimpArgs false
set_option linter.unusedVariables false
set_option linter.unnecessarySimpa false
namespace Go.AV
open Go.RowKit
structure Kept (C:Nat->Prop) (w w':World):Prop where
 size:w.heap.size<=w'.heap.size
 blk:∀b,b<w.heap.size->¬C b->w'.heap[b]? =w.heap[b]?
def z3D (P:Program) (l:Nat) (ys:List Value) (w:World) (b:Bool) (R:World->Prop):Prop:=
 ∃k tmps h body,(Instr.yield l ys.toArray).run P w= .ok (.round l k tmps h body) w/\
  RoundIn Fence.wide 0 P l k tmps h body w λe w'=>e= .returned (.bool b)/\R w'
def z6S (P:Program) (E:Env) (l:Nat) (xs:List (List DV)) (D:Nat->Bool:=λ_=>true):Prop:=
 ∀k C w (I:Im) ys x,xs[k]? =some x->E.fr k C w->(∀b j,I b j->b<w.heap.size/\¬C b/\(E.I0 b j\/E.mine b))->Reps w I ys x->
  z3D P l ys w (D k) λw2=> ∃h,E.fr (k+1) h w2/\Kept C w w2/\∀b,h b->C b\/w.heap.size<=b
section
variable {P:Program} {r:Option Nat} {E:Env} {S:AState} {d:Nat} {ty:TypeId} {pos:String} {af:Array Edge} {g:Option (Nat×Bool)}
theorem SatAt.kept {a:Act} {w w':World} {I:Im} {ρ:Nat->Value} {C O:Nat->Prop} {k:Nat} (h:SatAt E S a w I ρ C) (Y:Kept C w w') (hC:∀b,O b->C b\/w.heap.size<=b) (aa:E.fr k O w'):
  SatAt E (S.put GT (.gh k)) a w' I ρ O:=by
 have hs:Same I w w':=λb j hi=>KeepB.of (Y.blk b (h.old b j hi).1 (h.cI b j hi));have D:∀b,b<w.heap.size->¬C b->¬O b:=λb hb hc Z=>by rcases hC b Z with T | T;exact hc T;omega
 have ab:(S.put GT (.gh k)).ghost=k:=by unfold AState.ghost;rw[zB1];simp
 refine⟨λt=>?_,λi=>?_,h.dist,by rw[ab];exact aa,h.sub,λb j hi=>⟨eT (h.old b j hi).1 Y.size,(h.old b j hi).2⟩,h.size,?_,λb j hi=>D b (h.old b j hi).1 (h.cI b j hi),λi b hi hb=>D b (h.blt i b hi hb).2 (h.cB i b hi hb),h.nm⟩
 ·rw[zB1]
  by_cases e:GT=t
  ·simp only[e,dH];trivial
  ·simp only[e,cY];exact(h.tmps t).mono hs (λ_ _ h=>h)
 ·show BlkOk w' I ρ E.mine i (S.blk i)
  cases hx:S.blk i with
  | none=>trivial
  | _=>
   rw[<-hx];have K:S.blk i≠ .none:=by rw[hx];simp
   exact(h.blks i).mono hs (λb hb=>Y.blk b (h.blt i b K hb).2 (h.cB i b K hb))
 ·refine⟨λdd hd=>?_,h.defers.dist,h.defers.wr⟩
  obtain⟨q,T,h2,h3,h4⟩:=h.defers.each dd hd;have H:=(cU.1 h4).1;exact⟨q,T,h2,D q H h3,(Y.blk q H h3).trans h4⟩
theorem z0J {go:Nat->Bool} {l k:Nat} {x:Operand} {args:List Operand} {ats:Array TypeId} {xs:List (List DV)} {it:List DV} (hn:d<E.n) (hE:z6S P E l xs go) (hx:S.ev x= .d (.v (.func (.yield l) #[] #[]))) (ag:unD (args.map S.ev)=some it)
  (hk:S.ghost=k) (ah:xs[k]? =some it):
  jQ P r E ⟨some d,.call {callee:= .value x,args:=args.toArray,argTypes:=ats},ty,pos,af,g⟩ S ((S.put GT (.gh (k+1))).put d (.d (.v (.bool (go k))))):=by
 rintro A w K Q ⟨I,ρ,C,hs⟩ ai
 obtain⟨ac,ad⟩:=zJJ S ag;obtain⟨I1,h1,O,h3⟩:=SatAt.dvL _ hs (zCC hs args) ac;rw[ad] at O;have T:=O.frame;rw[hk] at T;obtain⟨fn,tmps,h,body,aa,D⟩:=hE k C w I1 (args.map A.eval) it ah T (λb j hi=>⟨(O.old b j hi).1,O.cI b j hi,(O.old b j hi).2⟩) h3;refine⟨λf _=>trivial,?_⟩;rw[Oper.semAt_eq _ _ _ (by simp)];have aj:(execOp A.eval ⟨some d,.call {callee:= .value x,args:=args.toArray,argTypes:=ats},ty,pos,af,g⟩).run P w= .ok (.round l fn tmps h body) w:=by
  have al:=hs.val hx;have Z:args.toArray.map A.eval=(args.map A.eval).toArray:=by simp
  simp only[execOp,resolve,al,Z,Deferred.ofValue,cQ,dT,cV,invoke];simpa using aa
 rw[aj];refine⟨by simp[fen,Fence.wide],?_⟩;show RoundIn Fence.wide 0 P l fn tmps h body w _;refine D.mono ?_
 rintro e w' ⟨rfl,C',Y,H,ab⟩
 exact ai _ _ ⟨I1,ρ,C',(O.kept H ab Y).put hn (.v _)⟩
def zVV (P:Program) (f:FuncId) (h:List DV) (xs:List (List DV)) (O:Nat->Bool:=λ_=>true):Prop:=
 (∃H,P.funcs[f]? =some H/\(H.name== "runtime.NumGoroutine")=false/\H.body.isNone=false)/\
 ∀(w:World) (I:Im) (vs:List Value) (C:Nat->Prop) (l:Nat) (J:Nat->(Nat->Prop)->World->Prop),
  (∀b j,I b j->b<w.heap.size/\¬C b)->Reps w I vs h->(∀k C w,J k C w->∀b,C b->b<w.heap.size)->(∀k C w w',J k C w->Below w.heap.size w w'->J k C w')->(∀k C w,J k C w->GlI (uB P) w I)->J 0 C w->
  (∀k C w' (K:Im) ys x,xs[k]? =some x->J k C w'->(∀b j,K b j->b<w'.heap.size/\¬C b/\(I b j\/w.heap.size<=b))->Reps w' K ys x->z3D P l ys w' (O k) λw2=> ∃D,J (k+1) D w2/\Kept C w' w2/\∀b,D b->C b\/w'.heap.size<=b)->
  Calls P f (.func (.yield l) #[] #[]::vs).toArray w λe w'=>e= .returned (.tuple #[])/\∃D,J xs.length D w'
def Env.iter (gdt:Nat->Option (List Value)) (w0:World) (I0:Im) (J:Nat->(Nat->Prop)->World->Prop) (n:Nat) (K:n<=1000000) (D:∀k C w,J k C w->∀b,C b->b<w.heap.size) (H:∀k C w w',J k C w->Below w.heap.size w w'->J k C w') (hG:∀k C w,J k C w->GlI gdt w I0):Env where
 B:=w0.heap.size
 I0:=I0
 n:=n
 fr:=λk C w=>J k C w/\w0.heap.size<=w.heap.size
 wrB:=false
 nle:=K
 mine:=λb=>w0.heap.size<=b
 mineB:=λ_ h=>h
 nm:=λ_=>none
 size:=λ_ _ _ h=>h.2
 csize:=λk C w h=>D k C w h.1
 grow:=λk C w w' h hb=>⟨H k C w w' h.1 hb,d9 h.2 hb.size⟩
 wr:=λh=>by cases h
 turn:=λh=>by cases h
 gdt:=gdt
 gl:=λk C w h=>hG k C w h.1
def yQ0 (h:Func) (n:Nat):Exit->AState->Prop
 | .ret,S | .normal,S=>h.results= #[]/\S.ghost=n
 | _,_=>False
theorem z9D {go:Nat->Bool} {f:FuncId} {H:Func} {c:Code} {D:List DV} {xs:List (List DV)} (hf:P.funcs[f]? =some H) (Z:(H.name== "runtime.NumGoroutine")=false) (hb:H.body=some c) (hn:D.length+1<=H.ntmps) (T:H.ntmps<=1000000)
  (h:∀w0 I0 J hc hg hG l,z6S P (Env.iter (uB P) w0 I0 J H.ntmps T hc hg hG) l xs go->Avc P none (Env.iter (uB P) w0 I0 J H.ntmps T hc hg hG) c (yQ0 H xs.length) ⟨(GT,.gh 0)::(0,.d (.v (.func (.yield l) #[] #[])))::zNP D 1,[]⟩):zVV P f D xs go:=by
 refine⟨⟨H,hf,Z,by simp[hb]⟩,λw I vs C l J hI ak hc hg hG h0 hy=>?_⟩;have au:z6S P (Env.iter (uB P) w I J H.ntmps T hc hg hG) l xs go:=by
  intro k C w2 I2 ys x hx K ap hr;obtain⟨an,tmps,O,body,ai,Y⟩:=hy k C w2 I2 ys x hx K.1 ap hr;refine⟨an,tmps,O,body,ai,Y.mono ?_⟩
  rintro e w3 ⟨rfl,C',h1,h2,h3⟩
  exact⟨rfl,C',⟨h1,d9 K.2 h2.size⟩,h2,h3⟩
 refine gG (n:=0) |>.1 (callsIn_of_wp_marks hf hb trivial ?_)
 have ad:vs.length=D.length:=ak.1;have aj:Sat (Env.iter (uB P) w I J H.ntmps T hc hg hG) ⟨(GT,.gh 0)::(0,.d (.v (.func (.yield l) #[] #[])))::zNP D 1,[]⟩ {tmps:=(.func (.yield l) #[] #[]::vs).toArray++Array.replicate (H.ntmps-(Value.func (.yield l) #[] #[]::vs).toArray.size) undef,defers:=[]} w:=by
  refine⟨I,λ_=>undef,C,⟨λt=>?_,λ_=>trivial,λ_ _ _ _ h=>absurd rfl h,⟨h0,dC _⟩,λ_ _ h=>h,λb j h=>⟨(hI b j h).1,.inl h⟩,by simp[Env.iter];omega,DefOk.nil,λb j h=>(hI b j h).2,λ_ _ h=>absurd rfl h,λ_ _ h=>by cases h⟩⟩
  show Holds _ _ _ _ (look AV.top ((GT,.gh 0)::(0,.d (.v (.func (.yield l) #[] #[])))::zNP D 1) t);rw[kL];by_cases eg:GT=t
  ·simp only[eg,dH];trivial
  ·simp only[eg,cY]
   rw[kL];by_cases e0:0=t
   ·subst e0
    simp only[dH];have:((Value.func (.yield l) #[] #[]::vs).toArray++Array.replicate (H.ntmps-(Value.func (.yield l) #[] #[]::vs).toArray.size) undef).getD 0 undef= .func (.yield l) #[] #[]:=by
     simp[dI,Array.getElem?_append]
    rw[this];exact .v _
   ·simp only[e0,cY]
    rcases zYR D 1 t with ⟨bi,x,hx,hlk⟩ | hlk
    ·rw[hlk]
     have ht:t-1<vs.length:=by rw[ad];exact(c8.1 hx).1
     refine ak.2 (t-1) _ x ?_ hx;have e1:t=(t-1)+1:=by omega
     have:((Value.func (.yield l) #[] #[]::vs).toArray++Array.replicate (H.ntmps-(Value.func (.yield l) #[] #[]::vs).toArray.size) undef)[t]? =vs[t-1]?:=by
      rw[Array.getElem?_append_left (by simp;omega)]
      simp only[eX]
      conv=>lhs;rw[e1]
      simp
     simp only[dI,this];simp[ht]
    ·rw[hlk];trivial
 refine gV (h w I J hc hg hG l au _ w aj) ?_
 rintro en a w' ⟨S,hK,I1,ρ,C1,hs⟩
 have ac:(H.results= #[]/\S.ghost=xs.length)->LeavesInM (fen none) 0 P H a.tmps (λe w'=>e= .returned (.tuple #[])/\∃C',J xs.length C' w') a.defers .returning w':=by
  rintro⟨ah,ar⟩
  have K:=hs.frame;rw[ar] at K;have ag:a.defers= []:=by
   cases hd:a.defers with
   | nil=>rfl
   | cons q qs=>have:=hs.defers.wr (by rw[hd];simp);cases this
  rw[ag];exact⟨_,results_none ah _ _ _,rfl,C1,K.1⟩
 cases en with
 | normal=>exact ac hK
 | ret=>exact ac hK
 | _=>exact hK.elim
end
open Go.RowKit
theorem SatAt.weak {E:Env} {S S':AState} {a:Act} {w:World} {I:Im} {ρ:Nat->Value} {C:Nat->Prop} (h:SatAt E S a w I ρ C) (D:∀t,S'.get t= .top\/S.get t=S'.get t) (k:∀t,S'.blk t= .none\/S.blk t=S'.blk t) (K:E.fr S'.ghost C w):SatAt E S' a w I ρ C:=by
 have hb:∀i,S'.blk i≠ .none->S.blk i≠ .none:=λi hi=>by
  rcases k i with e | e;exact absurd e hi;rw[e];exact hi
 refine⟨λt=>?_,λi=>?_,λi T b Y hi O=>h.dist i T b Y (hb i hi) (hb T O),K,h.sub,h.old,h.size,h.defers,h.cI,λi b hi H=>h.cB i b (hb i hi) H,λi v Z hi=>h.nm i v Z (hb i hi)⟩;rcases D t with e | e
 rw[e];trivial;rw[<-e];exact h.tmps t;rcases k i with e | e
 rw[e];trivial;rw[<-e];exact h.blks i
theorem z9E {S:AState}:∀{l:List (Nat×AV)},Cov S l->∀t,look AV.top l t= .top\/S.get t=look AV.top l t
 | [],_,_=> .inl rfl
 | (i,x)::l,h,t=>by
  rw[kL];by_cases e:i=t;simp only[e,dH];exact .inr (e▸h.1);simp only[e,cY];exact z9E h.2 t
theorem zNT {S:AState}:∀{l:List (Nat×Blk)},zP4 S l->∀t,look Blk.none l t= .none\/S.blk t=look Blk.none l t
 | [],_,_=> .inl rfl
 | (i,x)::l,h,t=>by
  rw[kL];by_cases e:i=t;simp only[e,dH];exact .inr (e▸h.1);simp only[e,cY];exact zNT h.2 t
def xO (T:List (Nat×Blk)) (ρ:Nat->Value) (b:Nat):Prop:= ∃id,look Blk.none T id≠ .none/\blockOf (ρ id)=some b
structure RndOk (E:Env) (w1:World) (Iall:Im) (C0:Nat->Prop):Prop where
 lt:∀b j,Iall b j->b<w1.heap.size
 sub:∀b j,E.I0 b j->Iall b j
 size:E.B<=w1.heap.size
def Env.rnd (E:Env) (w1:World) (Iall:Im) (X C0:Nat->Prop) (ab:List Nat) (ax:Nat->Value) (Y:List Deferred) (l D:Nat) (lp:Loop) (H:RndOk E w1 Iall C0):Env where
 B:=w1.heap.size
 I0:=Iall
 n:=E.n
 fr:=λ_ C w=>E.fr 0 C0 w/\Same Iall w1 w/\Kept (λb=>X b\/b=l) w1 w/\(∀b,C b↔C0 b)/\w.heap[l]? =some (.loop lp)/\(l<w1.heap.size/\D<w1.heap.size/\l≠D)/\w.heap[D]? =some (.deferred (some []))/\DefOk E.B E.wrB C0 w Y/\(∀d∈Y,∀q,d.target= .collected q->q<w1.heap.size)
 wrB:=E.wrB
 nle:=E.nle
 mine:=λb=>(X b/\E.mine b)\/w1.heap.size<=b
 mineB:=λ_ h=> .inr h
 nm:=λid=>if ab.contains id then some (ax id) else E.nm id
 size:=λ_ _ _ h=>h.2.2.1.size
 csize:=λ_ C w h b hb=>E.csize _ _ _ h.1 b ((h.2.2.2.1 b).1 hb)
 grow:=λ_ C w w' h hb=>by
  obtain⟨h1,h2,K,h4,Z,h8,h6,h7,h9⟩:=h;refine⟨E.grow _ _ _ _ h1 hb,λb j hi=>?_,⟨d9 K.size hb.size,λb k hn=>(hb.block b (eT k K.size)).trans (K.blk b k hn)⟩,h4,(hb.block l (cU.1 Z).1).trans Z,h8,(hb.block D (cU.1 h6).1).trans h6,h7.keep λq T=>(hb.block q (cU.1 T).1).trans T,h9⟩;exact(KeepB.of (hb.block b (eT (H.lt b j hi) K.size))).trans (h2 b j hi)
 wr:=λhE _ C w w' row h hg hr hs=>by
  obtain⟨h1,h2,K,h4,Z,h8,h6,h7,h9⟩:=h;have hm:∀b,row b->E.mine b/\¬C0 b/\∃o,w.heap[b]? =some o/\isData o=true:=λb hb=>by
   obtain⟨m1,m2,m3⟩:=hr b hb;refine⟨?_,λhc=>m2 ((h4 b).2 hc),m3⟩;rcases m1 with m1 | m1;exact m1.2;exact E.mineB b (d9 H.size m1)
  have O:∀q o,w.heap[q]? =some o->isData o=false->¬row q:=λq o T ho e=>by
   obtain⟨_,_,o',hc,hd⟩:=hr q e;rw[T] at hc;cases hc;rw[ho] at hd;cases hd
  refine⟨E.wr hE _ _ _ _ _ h1 hg hm (λb j hi=>hs b j (H.sub b j hi)),λb j hi=>(hs b j hi).trans (h2 b j hi),⟨d9 K.size hg.size,λb k hn=>?_⟩,h4,(hg.block l (cU.1 Z).1 (O l _ Z rfl)).trans Z,h8,(hg.block D (cU.1 h6).1 (O D _ h6 rfl)).trans h6,?_,h9⟩;refine(hg.block b (eT k K.size) (λe=>?_)).trans (K.blk b k hn);rcases (hr b e).1 with m | m
  exact hn (.inl m.1);omega;exact h7.keep λq T=>(hg.block q (cU.1 T).1 (O q _ T rfl)).trans T
 turn:=λhE _ C w w' q h T ht hs=>by
  obtain⟨h1,h2,K,h4,Z,h8,h6,h7,h9⟩:=h;refine⟨E.turn hE _ _ _ _ _ h1 (d9 H.size T) ht (λb j hi=>hs b j (H.sub b j hi)),λb j hi=>(hs b j hi).trans (h2 b j hi),⟨by rw[ht.size];exact K.size,λb k hn=>(ht.blk b (by omega)).trans (K.blk b k hn)⟩,h4,(ht.blk l (by omega)).trans Z,h8,(ht.blk D (by omega)).trans h6,?_,h9⟩
  refine⟨λdd hd=>?_,h7.dist,h7.wr⟩;obtain⟨u,e1,e2,e3,e4⟩:=h7.each dd hd;have:=h9 dd hd u e1;exact⟨u,e1,e2,e3,(ht.blk u (by omega)).trans e4⟩
 gdt:=E.gdt
 gl:=λ_ _ _ h=>(E.gl _ _ _ h.1).sub H.sub
theorem yE5 {w:World} {b j:Nat} (h:∀o,w.heap[b]? =some o->isData o=false):w.cell? ⟨b,j,none⟩=none:=by
 unfold World.cell?;cases hb:w.heap[b]? with
 | none=>rfl
 | some o=>
  cases o with
  | cells c e f=>have:=h _ hb;cases this
  | _=>rfl
theorem Turned.same {l:Nat} {w w':World} (h:Turned l w w') (I:Im):Same I w w':=by
 intro b j _;by_cases e:b=l;subst e;exact⟨by rw[yE5 h.no',yE5 h.no],λ_ _ q=>by have:=h.no _ q;cases this⟩
 exact KeepB.of (h.blk b e)
theorem SatAt.turn {E:Env} {S:AState} {a:Act} {w w':World} {I:Im} {ρ:Nat->Value} {C:Nat->Prop} (h:SatAt E S a w I ρ C) {l:Nat} (D:Turned l w w') (H:∀d∈a.defers,d.target≠ .collected l) (O:E.fr S.ghost C w'):SatAt E S a w' I ρ C:=by
 have Y:=D.same I;refine⟨λt=>(h.tmps t).mono Y (λ_ _ h=>h),λi=>?_,h.dist,O,h.sub,λb j hi=>⟨by rw[D.size];exact(h.old b j hi).1,(h.old b j hi).2⟩,h.size,⟨λdd k=>?_,h.defers.dist,h.defers.wr⟩,h.cI,h.cB,h.nm⟩
 cases Z:S.blk i with
 | none=>trivial
 | _=>
  rw[<-Z];refine(h.blks i).mono Y (λb K=>D.blk b ?_)
  rintro rfl
  obtain⟨o,hc,H⟩:=h.cellBlk (by rw[Z];simp) K
  rw[D.no o hc] at H;cases H
 obtain⟨q,T,e2,e3,e4⟩:=h.defers.each dd k;exact⟨q,T,e2,e3,(D.blk q (λe=>H dd k (e▸T))).trans e4⟩
theorem SatAt.turn2 {E E':Env} {S:AState} {a:Act} {w w':World} {I:Im} {ρ:Nat->Value} {C:Nat->Prop} (h:SatAt E S a w I ρ C) (eB:E'.B=E.B) (eI:E'.I0=E.I0) (en:E'.n=E.n) (Z:E'.mine=E.mine) (K:E'.nm=E.nm) (ew:E'.wrB=E.wrB)
  {l:Nat} (D:Turned l w w') (H:∀d∈a.defers,d.target≠ .collected l) (T:E'.fr S.ghost C w'):SatAt E' S a w' I ρ C:=by
 have hs:=D.same I;refine⟨λt=>(h.tmps t).mono hs (λ_ _ h=>h),λi=>?_,h.dist,T,by rw[eI];exact h.sub,λb j hi=>⟨by rw[D.size];exact(h.old b j hi).1,by rw[eI,Z];exact(h.old b j hi).2⟩,by rw[en];exact h.size,⟨λdd k=>?_,h.defers.dist,by rw[ew];exact h.defers.wr⟩,h.cI,h.cB,by rw[K];exact h.nm⟩
 ·rw[Z]
  cases hx:S.blk i with
  | none=>trivial
  | _=>
   rw[<-hx];refine(h.blks i).mono hs (λb O=>D.blk b ?_)
   rintro rfl
   obtain⟨o,hc,H⟩:=h.cellBlk (by rw[hx];simp) O
   rw[D.no o hc] at H;cases H
 ·obtain⟨q,Y,e2,e3,e4⟩:=h.defers.each dd k
  exact⟨q,Y,by rw[eB];exact e2,e3,(D.blk q (λe=>H dd k (e▸Y))).trans e4⟩
def zY3 (T:List (Nat×Blk)):Bool:=T.all λp=>match p.2 with
 | .row _ _ h _=>!h
 | .win _ _ _ _=>false
 | _=>true
theorem yBT {T:List (Nat×Blk)} (h:zY3 T=true) {id e size k:Nat} {cells:List DV} (hb:look Blk.none T id= .win e size k cells):False:=by
 induction T with
 | nil=>cases hb
 | cons p T H=>
  obtain⟨i,x⟩:=p;simp only[zY3,ij,dL] at h;rw[kL] at hb;by_cases D:i=id;simp only[D,dH] at hb;subst hb;simp at h;simp only[D,cY] at hb;exact H h.2 hb
theorem z6T {T:List (Nat×Blk)} (h:zY3 T=true) {id e size:Nat} {D:Bool} {cells:List DV} (hb:look Blk.none T id= .row e size D cells):D=false:=by
 induction T with
 | nil=>cases hb
 | cons p T H=>
  obtain⟨i,x⟩:=p;simp only[zY3,ij,dL] at h;rw[kL] at hb;by_cases k:i=id;simp only[k,dH] at hb;subst hb;simpa using h.1;simp only[k,cY] at hb;exact H h.2 hb
def zLC (h:List Nat):List (Nat×AV)->Bool
 | []=>true
 | (_,.d _)::r=>zLC h r
 | (_,.ptr id _)::r=>h.contains id&&zLC h r
 | _=>false
theorem zNU {k:List Nat}:∀{l:List (Nat×AV)},zLC k l=true->∀t,look AV.top l t= .top\/(∃y,look AV.top l t= .d y)\/∃id off,look AV.top l t= .ptr id off/\k.contains id=true
 | [],_,_=> .inl rfl
 | (i,x)::l,h,t=>by
  rw[kL];by_cases e:i=t;simp only[e,dH];cases x with
  | d y=>exact .inr (.inl ⟨y,rfl⟩)
  | ptr id off=>simp only[zLC,dL] at h;exact .inr (.inr ⟨id,off,rfl,h.1⟩)
  | _=>simp[zLC] at h
  simp only[e,cY];cases x with
  | d y=>exact zNU (l:=l) (by simpa[zLC] using h) t
  | ptr id off=>simp only[zLC,dL] at h;exact zNU h.2 t
  | _=>simp[zLC] at h
def yBU:List Tmp->List DV->List (Nat×AV)
 | p::h,x::xs=>yBU h xs++ [(p,.d x)]
 | _,_=>[]
theorem z3E {w:World} {I:Im} {ρ:Nat->Value} {n:Nat}:∀(K:List Tmp) (ys:List Value) (xs:List DV) (tm:Array Value) (l:List (Nat×AV)),K.length=xs.length->Reps w I ys xs->(∀p∈K,p<n)->tm.size=n->
  (∀t,Holds w I ρ (tm.getD t undef) (look AV.top l t))->
  ((K.zip ys).foldl (λ(tmps:Array Value) (q:Tmp×Value)=>tmps.setIfInBounds q.1 q.2) tm).size=n/\
  ∀t,Holds w I ρ (((K.zip ys).foldl (λ(tmps:Array Value) (q:Tmp×Value)=>tmps.setIfInBounds q.1 q.2) tm).getD t undef) (look AV.top (yBU K xs++l) t)
 | [],ys,xs,tm,l,H,k,O,D,h=>by
  have hx:xs= []:=cP (by simpa using H.symm);subst hx;have:ys= []:=cP k.1;subst this;exact⟨D,h⟩
 | p::K,ys,xs,tm,l,H,k,O,D,h=>by
  match xs,ys,H,k with
  | x::xs,y::ys,H,k=>
   have Y:Reps w I ys xs:=⟨by have:=k.1;simpa using this,λj u z hu hz=>k.2 (j+1) u z (by simpa using hu) (by simpa using hz)⟩
   have:=z3E K ys xs (tm.setIfInBounds p y) ((p,.d x)::l) (by simpa using H) Y (λq Z=>O q (by simp[Z])) (by simp[D]) (λt=>by
    rw[kL];have T:p<tm.size:=by rw[D];exact O p (by simp)
    by_cases e:p=t
    ·subst e
     simp only[dH];have:(tm.setIfInBounds p y).getD p undef=y:=by simp[dI,T]
     rw[this];exact k.2 0 y x rfl rfl
    ·simp only[e,cY]
     have:(tm.setIfInBounds p y).getD t undef=tm.getD t undef:=by
      rw[dI,dI,dX e]
     rw[this];exact h t)
   simp only[List.zip_cons_cons,io,yBU,c9,iA];exact this
  | [],_,H,_=>simp at H
  | _::_,[],_,k=>have:=k.1;simp at this
def yQ1 (P:Program) (l:Nat) (h:Env) (body:Code) (k:Exit->AState->Prop):Exit->AState->Prop
 | .normal,S=>Avc P (some l) h body k S
 | _,_=>False
def yQ2 (h:List (Nat×Blk)):Exit->AState->Prop
 | .normal,S=>zP4 S h
 | _,_=>False
def zPP:Exit->Nat->Nat->Bool
 | .normal,_,_=>false
 | _,n,k=>Nat.beq k n
def goF (h:Exit) (n k:Nat):Bool:=!zPP h n (k+1)
theorem yJX {D:Exit} {n k:Nat} (h:k<n):zPP D n k=false:=by
 have:Nat.beq k n=false:=by
  cases H:Nat.beq k n with
  | false=>rfl
  | true=>have:=iB H;omega
 cases D<;>first | rfl | exact this
def yBV:Exit->Option Code
 | .ret=>some .ret
 | .exit id=>some (.exit id)
 | _=>none
def z6U (h:Exit) (n k:Nat) (D:List (Nat×Blk)) (e:Exit) (S:AState):Prop:=cond (goF h n k) (yQ2 D e S) (e=h/\zP4 S D)
theorem zP6 (ad:Exit) {P:Program} {E:Env} {S:AState} {g:Operand} {ps:List Tmp} {assign body:Code} {f:FuncId} {ao:List DV} {xs:List (List DV)} {K:Exit->AState->Prop}
    (keep:List (Nat×AV)) (Z:List Nat) (T:Nat->List (Nat×Blk)) (hg:S.ev g= .d (.fn f ao)) (bn:ad= .normal\/((yBV ad).isSome=true/\xs.isEmpty=false)) (fv:zVV P f ao xs (goF ad xs.length)) (hE:E.wrB=true) (cr:∀k k' C w,E.fr k C w->E.fr k' C w)
    (cu:Cov S keep) (fk:zP4 S (T 0)) (fz:zLC Z keep=true) (eg:∀k,zY3 (T k)=true) (dp:∀k id,Z.contains id=true->look Blk.none (T k) id≠ .none) (gh:∀id,Z.contains id=true->E.nm id=none)
    (gk:∀x∈xs,ps.length=x.length) (gj:∀p∈ps,p<E.n)
    (round:∀w1 Iall X C0 ek ci l D gr gs bf k x,xs[k]? =some x->
      Avc P (some l) (Env.rnd E w1 Iall X C0 Z ek ci l D gr bf) assign (yQ1 P l (Env.rnd E w1 Iall X C0 Z ek ci l D gs bf) body (z6U ad xs.length k (T (k+1)))) ⟨yBU ps x++keep,T k⟩)
    (hK:K ad ⟨keep,T xs.length⟩) (hG:E.gdt=uB P:=by rfl):Avc P none E (.rangeFunc g ps.toArray assign body) K S:=by
  rintro a w ⟨I,ρ,C0,hs⟩
  obtain⟨⟨dj,ft,cc,ca⟩,ct⟩:=fv;have dy:=hs.ev g;rw[hg] at dy;have cm:Rep w I (a.eval g) (.fn f ao):=dy;generalize gq:a.eval g=vg at cm;cases cm with
  | fn f bz ao fp fo=>
  refine wpIn_rangeFunc λfn _=>?_
  let D:=w.heap.size
  let l:=w.heap.size+1
  let H:Loop:={state:= .ready,pending:=none,fn,tmps:=a.tmps,params:=ps.toArray,assign,body,defers:=D}
  let w1:=(w.alloc (.deferred (some []))).alloc (.loop H)
  let aq:Loop:={H with state:= .done,pending:=yBV ad}
  let aa:Nat->Loop:=λk=>cond (zPP ad xs.length k) aq H
  have ea:∀k,k<xs.length->aa k=H:=λk hk=>by
    simp only[aa,yJX hk,cN]
  have fw:aa 0=H:=by
    rcases bn with e | ⟨_,e⟩
    · simp only[aa,e,zPP,cN]
    · exact ea 0 (eU.2 λh=>by rw[h] at e;cases e)
  refine⟨l,[{target:= .collected D,args:= #[]}],w1,{target:= .fn (.func f) bz.toArray,args:= #[.func (.yield l) #[] #[]]},w1,f,(.func (.yield l) #[] #[]::bz).toArray,w1,?_,?_,λ_ _=>trivial,?_,by simp[fen,Fence.wide],?_⟩
  · simp[Instr.enterLoop,w1,l,D,H,fen]
  · have:(resolve a.eval (rangeCall g l) 0)=Deferred.ofValue (a.eval g) #[.func (.yield l) #[] #[]]:=by
      simp[resolve,rangeCall,Act.eval]
    rw[this,gq];simp[Deferred.ofValue]
  · have gf:¬dj.name= "runtime.NumGoroutine" :=by simpa using cc
    have gg:¬dj.body=none:=by intro e;simp[e] at ca
    simp[invoke,callFunc,ft,gf,gg]
  show CallsIn Fence.wide 0 P f _ w1 _;have hf:w1.heap.size=w.heap.size+2:=by simp[w1]
  have dk:Below w.heap.size w w1:=((Below.refl _ _).alloc (dC _) _).alloc (by simp) _;have ga:w1.heap[l]? =some (.loop H):=by
    have:=gP (w.alloc (.deferred (some []))) (.loop H);simpa[w1,l] using this
  have fe:w1.heap[D]? =some (.deferred (some [])):=by
    have h1:w1.heap[D]? =(w.alloc (.deferred (some []))).heap[D]?:=Below.heap_alloc _ _ _ (by simp[D]);rw[h1];exact gP w _
  let S0:Nat->AState:=λk=>⟨keep,T k⟩
  have dr:Reps w I bz ao:=⟨fp,fo⟩;have bk:∀dd∈a.defers,∀q,dd.target= .collected q->q<w.heap.size:=λdd hd q hq=>by
    obtain⟨u,e1,_,_,e4⟩:=hs.defers.each dd hd;rw[hq] at e1;cases e1;exact(cU.1 e4).1
  let J:Nat->(Nat->Prop)->World->Prop:=λk C w'=> ∃I' O,SatAt E (S0 k) a w' I' O C0/\(∀b j,I b j->I' b j)/\w1.heap.size<=w'.heap.size/\w'.heap[l]? =some (.loop (aa k))/\w'.heap[D]? =some (.deferred (some []))/\∀b,C b↔((C0 b\/xO (T k) O b)\/b=l)
  have fh:∀k C w',J k C w'->∀b,C b->b<w'.heap.size:=by
    rintro k C w' ⟨I',O,h1,_,_,h4,_,h6⟩ b hb
    rcases (h6 b).1 hb with (hc | ⟨id,h7,h8⟩) | rfl
    · exact E.csize _ _ _ h1.frame b hc
    · exact(h1.blt id b h7 h8).2
    · exact(cU.1 h4).1
  have fj:∀k C w' da,J k C w'->Below w'.heap.size w' da->J k C da:=by
    rintro k C w' da ⟨I',O,h1,h2,h3,h4,h5,h6⟩ hb
    exact⟨I',O,h1.grow hb,h2,d9 h3 hb.size,(hb.block l (cU.1 h4).1).trans h4,(hb.block D (cU.1 h5).1).trans h5,h6⟩
  have bq:SatAt E (S0 0) a w1 I ρ C0:=(hs.weak (S':=S0 0) (z9E cu) (zNT fk) (cr _ _ _ _ hs.frame)).grow dk;have cp:∀k w' (I':Im) O,SatAt E (S0 k) a w' I' O C0->∀b j,I' b j->¬xO (T k) O b:=by
    rintro k w' I' O h b j hi ⟨id,h1,h2⟩
    have hk:=h.blks id;have bi:(S0 k).blk id=look Blk.none (T k) id:=rfl;cases hx:look Blk.none (T k) id with
    | none=>exact h1 hx
    | row e size sh cells=>
      rw[bi,hx] at hk;obtain⟨hp,n,ys,hl,ee,_,_,fg⟩:=hk;have gp:=z6T (eg k) hx;subst gp;have gi:(O id).ownBlock=some b:=by
        rcases ee.2 with ⟨cy,_⟩ | ⟨gb,hr,hu,cy,_⟩
        · rw[cy] at h2;cases h2
        · rw[cy] at h2 ⊢;exact h2
      have:=(fg b j gi hi).1;cases this
    | box e cells=>
      rw[bi,hx] at hk;obtain⟨b',arr,bu,_,_,_,_,bl⟩:=hk;rw[bu] at h2;cases h2;exact bl j hi
    | map es=>
      rw[bi,hx] at hk;obtain⟨b',ents,cq,bu,_,_,_,bl,_⟩:=hk;rw[bu] at h2;cases h2;exact bl j hi
    | it es q=>
      rw[bi,hx] at hk;obtain⟨b',bm,ents,cq,ho,bu,_,_,bl,_⟩:=hk;rw[bu] at h2;cases h2;exact bl j hi
    | win e size k' cells=>exact yBT (eg k) hx
  refine gG.2 ((ct w1 I bz (λb=>(C0 b\/xO (T 0) ρ b)\/b=l) l J (λb j hi=>⟨by have:=(hs.old b j hi).1;omega,λhc=>?_⟩) (dr.mono (λb j hi=>KeepB.of (dk.block b (hs.old b j hi).1)) (λ_ _ h=>h)) fh fj (λk C w' ⟨I',O,h1,h2,_⟩ g' zs dx j=>⟨((hG▸h1.gl) g' zs dx j).1,((hG▸hs.gl) g' zs dx j).2⟩) ⟨I,ρ,bq,λ_ _ h=>h,dC _,(by rw[fw];exact ga),fe,λ_=>Iff.rfl⟩ ?_).mono ?_)
  · rcases hc with (hc | hc) | hc
    · exact hs.cI b j hi hc
    · exact cp 0 w1 I ρ bq b j hi hc
    · have:=(hs.old b j hi).1
      omega
  · -- a round
    rintro k C w' I1 ys x hx ⟨I',O,h1,h2,h3,h4,h5,h6⟩ ff bp
    have cn:ps.length=x.length:=gk x (eV hx);rw[ea k (c8.1 hx).1] at h4;have ei:ys.length=ps.length:=by rw[bp.1,cn]
    refine⟨fn,(ps.toArray.zip ys.toArray).foldl (λtmps (q:Tmp×Value)=>tmps.setIfInBounds q.1 q.2) a.tmps,assign,body,?_,?_⟩
    · have ii:¬ys.toArray.size≠ps.toArray.size:=by simpa using ei
      simp[Instr.yield,Instr.getLoop,getObj,Sem.run,h4,H,ei]
    let Iall:Im:=λb j=>I' b j\/I1 b j
    let X:Nat->Prop:=xO (T k) O
    have ai:∀b j,Iall b j->b<w'.heap.size/\¬C0 b/\¬X b/\(E.I0 b j\/E.mine b):=by
      rintro b j (hi | hi)
      · exact⟨(h1.old b j hi).1,h1.cI b j hi,cp k w' I' O h1 b j hi,(h1.old b j hi).2⟩
      · obtain⟨e1,e2,e3⟩:=ff b j hi
        refine⟨e1,λhc=>e2 ((h6 b).2 (.inl (.inl hc))),λhc=>e2 ((h6 b).2 (.inl (.inr hc))),?_⟩;rcases e3 with e3 | e3
        · exact(hs.old b j e3).2
        · exact .inr (E.mineB b (by have:=E.size _ _ _ hs.frame;omega))
    have bf:RndOk E w' Iall C0:=⟨λb j hi=>(ai b j hi).1,λb j hi=> .inl (h1.sub b j hi),E.size _ _ _ h1.frame⟩;have gc:l<w'.heap.size/\D<w'.heap.size/\l≠D:=⟨by omega,by omega,by simp[l,D]⟩;have dt:∀dd∈a.defers,∀q,dd.target= .collected q->q<w'.heap.size:=λdd hd q hq=>by have:=bk dd hd q hq;omega
    let ay:Loop:={H with state:= .busy}
    let E1:=Env.rnd E w' Iall X C0 Z O a.defers l D H bf
    let E2:=Env.rnd E w' Iall X C0 Z O a.defers l D ay bf
    have br:∀b j,I' b j->Iall b j:=λ_ _ h=> .inl h;have ef:=z3E (w:=w') (I:=Iall) (ρ:=O) (n:=E.n) ps ys x a.tmps keep cn (bp.mono (k6 I1 w') (λ_ _ h=> .inr h)) gj h1.size (λt=>(h1.tmps t).mono (k6 I' w') br);have ej:(ps.toArray.zip ys.toArray).foldl (λtmps (q:Tmp×Value)=>tmps.setIfInBounds q.1 q.2) a.tmps=(ps.zip ys).foldl (λtmps (q:Tmp×Value)=>tmps.setIfInBounds q.1 q.2) a.tmps:=by
      rw[<-Array.foldl_toList];simp
    have ce:Sat E1 ⟨yBU ps x++keep,T k⟩ {tmps:=(ps.toArray.zip ys.toArray).foldl (λtmps (q:Tmp×Value)=>tmps.setIfInBounds q.1 q.2) a.tmps,defers:=[]} w':=by
      rw[ej];refine⟨Iall,O,C0,⟨ef.2,λi=>?_,h1.dist,⟨cr _ _ _ _ h1.frame,k6 _ _,⟨dC _,λ_ _ _=>rfl⟩,λ_=>Iff.rfl,h4,gc,h5,h1.defers,dt⟩,λ_ _ h=>h,λb j hi=>⟨(ai b j hi).1,.inl hi⟩,ef.1,DefOk.nil,λb j hi=>(ai b j hi).2.1,h1.cB,λid v hv hi=>?_⟩⟩
      · have fy:=h1.blks i
        have bi:(S0 k).blk i=look Blk.none (T k) i:=rfl;show BlkOk w' Iall O E1.mine i (look Blk.none (T k) i);have dh:∀b j,look Blk.none (T k) i≠ .none->blockOf (O i)=some b->¬Iall b j:=λb j al be hi=>(ai b j hi).2.2.1 ⟨i,al,be⟩;have cw:∀b,look Blk.none (T k) i≠ .none->blockOf (O i)=some b->E.mine b->E1.mine b:=λb al be _=> .inl ⟨⟨i,al,be⟩,(h1.blt i b al be).1⟩;have ec:BlkOk w' I' O E.mine i (look Blk.none (T k) i):=fy;exact(ec.mineM cw).widenI br λb j al be hi=>absurd hi (dh b j al be)
      · simp only[E1,Env.rnd] at hv
        by_cases e:Z.contains id=true
        · rw[dG e] at hv;cases hv;rfl
        · rw[dN e] at hv;exact h1.nm id v hv hi
    refine roundIn_of_wpIn trivial ?_;have dm:=round w' Iall X C0 O a.defers l D H ay bf k x hx _ w' ce;refine gV dm ?_
    rintro e a2 w2 ⟨S2,dl,I2,el,C2,cz⟩
    cases e with
    | normal=>
      have fr:=cz.frame;obtain⟨f1,f2,f3,f4,f5,f6,f7,f8,f9⟩:=fr
      let w3:World:={w2 with heap:=w2.heap.setIfInBounds l (.loop ay)}
      have cb:l<w2.heap.size:=(cU.1 f5).1;have ah:Turned l w2 w3:=⟨rfl,rfl,rfl,by simp[w3],λq hq=>dX (λe=>hq e.symm),λo hc=>(by rw[f5] at hc;cases hc;rfl),λo hc=>(by simp[w3,cb] at hc;subst hc;rfl)⟩
      refine⟨w3,?_,?_⟩
      · simp[Instr.beginRound,Instr.getLoop,getObj,setObj,Sem.run,f5,H,w3,ay]
      · have fs:E2.fr S2.ghost C2 w3:=by
          refine⟨E.turn hE _ _ _ _ _ f1 (by have:=E.size _ _ _ hs.frame;omega) ah (ah.same _),λb j hi=>(ah.same Iall b j hi).trans (f2 b j hi),⟨by rw[ah.size];exact f3.size,λb cv hn=>(ah.blk b (λe=>hn (.inr e))).trans (f3.blk b cv hn)⟩,f4,by simp[w3,cb],f6,(ah.blk D (λe=>f6.2.2 e.symm)).trans f7,?_,f9⟩
          refine⟨λdd hd=>?_,f8.dist,f8.wr⟩;obtain⟨u,e1,e2,e3,e4⟩:=f8.each dd hd;have:=bk dd hd u e1;exact⟨u,e1,e2,e3,(ah.blk u (by omega)).trans e4⟩
        have gn:SatAt E2 S2 a2 w3 I2 el C2:=by
          have fq:∀d∈a2.defers,d.target≠ .collected l:=λdd hd e=>by
            obtain⟨u,e1,e2,_,_⟩:=cz.defers.each dd hd;rw[e] at e1;cases e1;have:w'.heap.size<=l:=e2;omega
          exact cz.turn2 (E':=E2) rfl rfl rfl rfl rfl rfl ah fq fs
        refine gV (dl a2 w3 ⟨I2,el,C2,gn⟩) ?_
        rintro e a4 w4 ⟨S4,aj,I4,bw,C4,Y⟩
        have dq:zP4 S4 (T (k+1)):=by
          unfold z6U at aj;cases ak:goF ad xs.length k with
          | true=>
            rw[ak] at aj;cases e with
            | normal=>exact aj
            | _=>exact aj.elim
          | false=>rw[ak] at aj;exact aj.2
        obtain⟨p1,p2,p3,p4,p5,p6,p7,p8,p9⟩:=Y.frame
        let w5:World:={w4 with heap:=w4.heap.setIfInBounds l (.loop (aa (k+1)))}
        have ed:l<w4.heap.size:=(cU.1 p5).1;have ac:Turned l w4 w5:=⟨rfl,rfl,rfl,by simp[w5],λq hq=>dX (λe=>hq e.symm),λo hc=>(by rw[p5] at hc;cases hc;rfl),λo hc=>(by simp[w5,ed] at hc;subst hc;rfl)⟩
        have dw:E.fr 0 C0 w5:=E.turn hE _ _ _ _ _ p1 (by have:=E.size _ _ _ hs.frame;omega) ac (ac.same _)
        have cd:Same Iall w' w5:=λb j hi=>(ac.same Iall b j hi).trans (p2 b j hi);have ax:∀b j,Iall b j->I4 b j:=Y.sub;have ab:∀i,look Blk.none (T (k+1)) i≠ .none->S4.blk i=look Blk.none (T (k+1)) i:=λi hi=>by
          rcases zNT dq i with e | e
          · exact absurd e hi
          · exact e
        have go:SatAt E (S0 (k+1)) a w5 I4 bw C0:=by
          refine⟨λt=>?_,λi=>?_,λi i' b hn hi dz=>Y.dist i i' b hn (by rw[ab i hi];exact hi) (by rw[ab i' dz];exact dz),cr _ _ _ _ dw,λb j hi=>ax b j (.inl (h1.sub b j hi)),λb j hi=>⟨by rw[ac.size];exact(Y.old b j hi).1,?_⟩,h1.size,?_,λb j hi hc=>Y.cI b j hi ((p4 b).2 hc),λi b hi hb hc=>Y.cB i b (by rw[ab i hi];exact hi) hb ((p4 b).2 hc),λi v hv hi=>?_⟩
          · have bb:Holds w' I' O (a.tmps.getD t undef) (look AV.top keep t):=h1.tmps t
            show Holds w5 I4 bw (a.tmps.getD t undef) (look AV.top keep t);rcases zNU fz t with e | ⟨y,e⟩ | ⟨id,off,e,bj⟩
            · rw[e];trivial
            · rw[e] at bb ⊢
              exact Rep.mono bb (λb j hi=>cd b j (.inl hi)) (λb j hi=>ax b j (.inl hi))
            · rw[e] at bb ⊢
              obtain⟨b,fl,fm⟩:=bb;refine⟨b,?_,fm⟩;have:=Y.nm id (O id) (by show (if Z.contains id then some (O id) else E.nm id)=_;rw[dG bj]) (by rw[ab id (dp (k+1) id bj)];exact dp (k+1) id bj)
              rw[this];exact fl
          · show BlkOk w5 I4 bw E.mine i (look Blk.none (T (k+1)) i)
            cases eh:look Blk.none (T (k+1)) i with
            | none=>trivial
            | _=>
              have al:look Blk.none (T (k+1)) i≠ .none:=by rw[eh];simp
              rw[<-eh];have dn:=Y.blks i;rw[ab i al] at dn;have ge:=dn.mono (ac.same I4) (λb hb=>ac.blk b (λe=>by
                obtain⟨o,hc,hd⟩:=Y.cellBlk (id:=i) (by rw[ab i al];exact al) hb
                rw[e,p5] at hc;cases hc;cases hd))
              refine ge.mineM λb _ _ m=>?_;rcases m with m | m
              · exact m.2
              · exact E.mineB b (by have:=E.size _ _ _ h1.frame;omega)
          · rcases (Y.old b j hi).2 with m | m | m
            · exact(ai b j m).2.2.2
            · exact .inr m.2
            · exact .inr (E.mineB b (by have:=E.size _ _ _ h1.frame;omega))
          · refine⟨λdd hd=>?_,p8.dist,p8.wr⟩
            obtain⟨u,e1,e2,e3,e4⟩:=p8.each dd hd;have:=bk dd hd u e1;exact⟨u,e1,e2,e3,(ac.blk u (by omega)).trans e4⟩
          · by_cases e:Z.contains i=true
            · rw[gh i e] at hv;cases hv
            · exact Y.nm i v (by show (if Z.contains i then some (O i) else E.nm i)=_;rw[dN e];exact hv) (by rw[ab i hi];exact hi)
        have bh:∃C',J (k+1) C' w5/\Kept C w' w5/\∀b,C' b->C b\/w'.heap.size<=b:=by
         refine⟨(λb=>(C0 b\/xO (T (k+1)) bw b)\/b=l),⟨I4,bw,go,λb j hi=>ax b j (.inl (h2 b j hi)),?_,by simp[w5,ed],(ac.blk D (by simp[D,l])).trans p7,λ_=>Iff.rfl⟩,⟨?_,λb cv hn=>?_⟩,?_⟩
         · rw[ac.size];exact d9 h3 p3.size
         · rw[ac.size];exact p3.size
         · by_cases e:b=l
           · exact absurd ((h6 b).2 (.inr e)) hn
           · refine(ac.blk b e).trans (p3.blk b cv ?_)
             rintro (hc | hc)
             · exact hn ((h6 b).2 (.inl (.inr hc)))
             · exact e hc
         · rintro b ((hc | ⟨id,hi,hb⟩) | rfl)
           · exact .inl ((h6 b).2 (.inl (.inl hc)))
           · rcases (Y.blt id b (by rw[ab id hi];exact hi) hb).1 with m | m
             · exact .inl ((h6 b).2 (.inl (.inr m.1)))
             · exact .inr m
           · exact .inl ((h6 _).2 (.inr rfl))
        unfold z6U at aj;cases ak:goF ad xs.length k with
        | true=>
          rw[ak] at aj;have ap:zPP ad xs.length (k+1)=false:=by unfold goF at ak;cases h:zPP ad xs.length (k+1) with | false=>rfl | true=>rw[h] at ak;cases ak
          cases e with
          | normal=>exact⟨.bool true,w5,by simp[Instr.endRound,Instr.getLoop,getObj,setObj,Sem.run,p5,ay,H,w5,aa,ap],rfl,bh⟩
          | _=>exact aj.elim
        | false=>
          rw[ak] at aj;have ap:zPP ad xs.length (k+1)=true:=by unfold goF at ak;cases h:zPP ad xs.length (k+1) with | true=>rfl | false=>rw[h] at ak;cases ak
          obtain⟨rfl,_⟩:=aj;rcases bn with h0 | ⟨h0,_⟩
          · subst h0;cases ap
          · cases e with
            | ret=>exact⟨.bool false,w5,by simp[Instr.endRound,Instr.getLoop,getObj,setObj,Sem.run,p5,ay,H,w5,aa,ap,aq,yBV],rfl,bh⟩
            | exit id=>exact⟨.bool false,w5,by simp[Instr.endRound,Instr.getLoop,getObj,setObj,Sem.run,p5,ay,H,w5,aa,ap,aq,yBV],rfl,bh⟩
            | _=>cases h0
    | _=>exact dl.elim
  · -- behind the loop
    rintro e w' ⟨rfl,C',I',O,h1,h2,h3,h4,h5,h6⟩
    let w4:World:={w' with heap:=w'.heap.setIfInBounds l (.loop {aa xs.length with state:= .exhausted})}
    have cb:l<w'.heap.size:=(cU.1 h4).1;have ht:Turned l w' w4:=⟨rfl,rfl,rfl,by simp[w4],λq hq=>dX (λe=>hq e.symm),λo hc=>(by rw[h4] at hc;cases hc;rfl),λo hc=>(by simp[w4,cb] at hc;subst hc;rfl)⟩
    have bv:yN2 E K ad {a with defers:={target:= .collected D,args:= #[]}::a.defers} w4:=by
      have du:=E.turn hE _ _ _ _ _ h1.frame (by have:=E.size _ _ _ hs.frame;omega) ht (ht.same _)
      have Y:=h1.turn ht (λdd hd e=>by have:=bk dd hd l e;omega) du
      refine⟨S0 xs.length,hK,I',O,C0,⟨Y.tmps,Y.blks,Y.dist,Y.frame,Y.sub,Y.old,Y.size,⟨?_,?_,λ_=>hE⟩,Y.cI,Y.cB,Y.nm⟩⟩
      · intro dd hd
        rcases dM.1 hd with rfl | hd
        · refine⟨D,rfl,by have:=E.size _ _ _ hs.frame;omega,λhc=>?_,(ht.blk D (by simp[D,l])).trans h5⟩
          have:=E.csize _ _ _ hs.frame D hc;omega
        · exact Y.defers.each dd hd
      · refine eZ.2 ⟨λdd hd q hq gm=>?_,Y.defers.dist⟩
        cases hq;have:=bk dd hd D gm;omega
    rcases bn with h0 | ⟨h0,_⟩
    · subst h0
      exact⟨none,w4,by simp[Instr.endLoop,Instr.getLoop,getObj,setObj,Sem.run,h4,H,w4,aa,zPP],bv⟩
    · have ap:zPP ad xs.length xs.length=true:=by
        cases ad with
        | normal=>cases h0
        | _=>exact Nat.beq_refl _
      cases ad with
      | ret=>exact⟨some .ret,w4,by simp[Instr.endLoop,Instr.getLoop,getObj,setObj,Sem.run,h4,H,w4,aa,ap,aq,yBV],wpIn_ret bv⟩
      | exit id=>exact⟨some (.exit id),w4,by simp[Instr.endLoop,Instr.getLoop,getObj,setObj,Sem.run,h4,H,w4,aa,ap,aq,yBV],wpIn_exit bv⟩
      | _=>cases h0
theorem zY4 {P:Program} {E:Env} {S:AState} {g:Operand} {ps:List Tmp} {H body:Code} {f:FuncId} {O:List DV} {xs:List (List DV)} {K:Exit->AState->Prop}
  (keep:List (Nat×AV)) (h:List Nat) (T:Nat->List (Nat×Blk)) (hg:S.ev g= .d (.fn f O)) (ai:zVV P f O xs) (hE:E.wrB=true) (ah:∀k k' C w,E.fr k C w->E.fr k' C w)
  (Z:Cov S keep) (ad:zP4 S (T 0)) (aj:zLC h keep=true) (an:∀k,zY3 (T k)=true) (ag:∀k id,h.contains id=true->look Blk.none (T k) id≠ .none) (ak:∀id,h.contains id=true->E.nm id=none)
  (am:∀x∈xs,ps.length=x.length) (al:∀p∈ps,p<E.n)
  (round:∀w1 Iall X C0 ab Y l D ao ap aa k x,xs[k]? =some x->
   Avc P (some l) (Env.rnd E w1 Iall X C0 h ab Y l D ao aa) H (yQ1 P l (Env.rnd E w1 Iall X C0 h ab Y l D ap aa) body (yQ2 (T (k+1)))) ⟨yBU ps x++keep,T k⟩)
  (hK:K .normal ⟨keep,T xs.length⟩) (hG:E.gdt=uB P:=by rfl):Avc P none E (.rangeFunc g ps.toArray H body) K S:=
 zP6 .normal keep h T hg (.inl rfl) ai hE ah Z ad aj an ag ak am al round hK hG
open Go.RowKit
section
variable {P:Program} {r:Option Nat} {E:Env} {S:AState} {d:Nat} {ty:TypeId} {pos:String} {af:Array Edge} {g:Option (Nat×Bool)}
theorem SatAt.rebox {a:Act} {w:World} {I:Im} {ρ:Nat->Value} {C:Nat->Prop} (h:SatAt E S a w I ρ C) {bid eb:Nat} {cells k:List AV} (hb:S.blk bid= .box eb cells) (hc:∀xs:List Value,Pw (Holds w I ρ) xs cells->Pw (Holds w I ρ) xs k):
  SatAt E (S.setBlk bid (.box eb k)) a w I ρ C:=by
 have K:S.blk bid≠ .none:=by rw[hb];simp
 have key:∀i,(S.setBlk bid (.box eb k)).blk i≠ .none->S.blk i≠ .none:=by
  intro i hi;rw[yQ] at hi;by_cases e:bid=i
  ·subst e;exact K
  ·simpa[e] using hi
 refine⟨h.tmps,λi=>?_,λi Z b hn hi H=>h.dist i Z b hn (key i hi) (key Z H),h.frame,h.sub,h.old,h.size,h.defers,h.cI,λi b hi D=>h.cB i b (key i hi) D,λi v hv hi=>h.nm i v hv (key i hi)⟩;rw[yQ];by_cases e:bid=i
 ·subst e
  simp only[dH];have Y:=h.blks bid;rw[hb] at Y;obtain⟨b,arr,T,hM,hh,h1,O,hI⟩:=Y;exact⟨b,arr,T,hM,hh,h1,hc _ O,hI⟩
 ·simp only[e,cY];exact h.blks i
theorem Pw.set_right {T D:Type} {R: T->D->Prop} {xs:List T} {ys:List D} (h:Pw R xs ys) {off:Nat} {y O: D} (Z:ys[off]? =some y) (Y:∀x,R x y->R x O):Pw R xs (ys.set off O):=by refine⟨by simp[h.1],λj u v K k=>?_⟩;rw[iy] at k;by_cases e:off=j;subst e;by_cases H:off<ys.length;simp[H] at k;subst k;exact Y u (h.2 off u y K Z);simp[H] at k;simp[e] at k;exact h.2 j u v K k
theorem zDF {bid eb off:Nat} {cells:List AV} (k e size:Nat) (Z:0<size) (D:k≠bid) (H:E.nm k=none) (hb:S.blk bid= .box eb cells) (Y:(cells.map (zFL k))[off]? =some (.d (.v (.slice none 0 0)))):
  zGS E S (((S.kill k).setBlk k (.row e size false [])).setBlk bid (.box eb ((cells.map (zFL k)).set off (.row k)))):=by
 rintro a w ⟨I,ρ,C,h⟩
 have T:=h.update (im w none) (id:=k) (u:= .slice none 0 0) (x:= .row e size false []) (by simp) (k6 I w) (by simp[blockOf])
  ⟨⟨Z,by simp[upd,Value.ownBlock]⟩,0,[],by simp,by simp only[upd,dH];exact hO w _ e size,by simp,Pw.nil,by simp[upd,Value.ownBlock]⟩ (.inl rfl) H
 refine⟨I,_,C,T.rebox (eb:=eb) (cells:=cells.map (zFL k)) ?_ λxs hx=>hx.set_right Y λx K=>?_⟩
 ·rw[yQ,dN D,zJG,hb];rfl
 ·have O:Rep w I x (.v (.slice none 0 0)):=K
  cases O;simp[Holds,upd]
theorem zF4 {bid eb off k e size:Nat} {sh:Bool} {cells:List AV} {T:List DV} (hb:S.blk bid= .box eb cells) (hc:cells[off]? =some (.row k)) (H:S.blk k= .row e size sh T):
  zGS E S ((S.setBlk k (.row e size true T)).setBlk bid (.box eb (cells.set off (.d (.sl size T))))):=by
 rintro a w ⟨I,ρ,C,h⟩
 have D:k≠bid:=by rintro rfl;rw[hb] at H;cases H
 obtain⟨Y,h1,Z,h3⟩:=h.shareRow H;refine⟨Y,ρ,C,Z.rebox (eb:=eb) (cells:=cells) (by rw[yQ,dN D];exact hb) λxs hx=>hx.set_right hc λx K=>?_⟩
 have O:x= ρ k:=K;rw[O];exact h3
theorem zBC {t D e size:Nat} {sh:Bool} {H:List DV} (T:t<E.n) (Z:S.get t= .row D) (Y:S.blk D= .row e size sh H):zGS E S ((S.setBlk D (.row e size true H)).put t (.d (.sl size H))):=by
 rintro a w ⟨I,ρ,C,h⟩
 obtain⟨K,h1,k,O⟩:=h.shareRow Y;refine⟨K,ρ,C,⟨λu=>?_,k.blks,k.dist,by rw[zDR _ _ T];exact k.frame,k.sub,k.old,k.size,k.defers,k.cI,k.cB,k.nm⟩⟩
 rw[zB1];by_cases e:t=u;subst e;simp only[dH];have:=h.tmps t;rw[Z] at this;have hv:a.tmps.getD t undef= ρ D:=this;rw[hv];exact O;simp only[e,cY];exact k.tmps u
theorem zG0 {t:Nat} (size:Nat) (D:t<E.n) (H:S.get t= .d (.v (.slice none 0 0))):zGS E S (S.put t (.d (.sl size []))):=by
 rintro a w ⟨I,ρ,C,h⟩
 refine⟨I,ρ,C,⟨λu=>?_,h.blks,h.dist,by rw[zDR _ _ D];exact h.frame,h.sub,h.old,h.size,h.defers,h.cI,h.cB,h.nm⟩⟩
 rw[zB1];by_cases e:t=u;subst e;simp only[dH];have:=h.tmps t;rw[H] at this;generalize a.tmps.getD t undef=v at this ⊢;have k:Rep w I v (.v (.slice none 0 0)):=this;cases k;exact .nil _ _ _;simp only[e,cY];exact h.tmps u
theorem AOp.int {o:Oper} {k:IntKind} {a b:Int} (h:AOp P r E S o d (.d (.v (.int k a)))) (e:a=b):AOp P r E S o d (.d (.v (.int k b))):=e▸h
theorem AOp.data {o:Oper} {a b:DV} (h:AOp P r E S o d (.d a)) (e:a=b):AOp P r E S o d (.d b):=e▸h
theorem AOp.bool {o:Oper} {a b:Bool} (h:AOp P r E S o d (.d (.v (.bool a)))) (e:a=b):AOp P r E S o d (.d (.v (.bool b))):=e▸h
theorem zHM {t u:Nat} {x y:DV} (h:S.dv (S.get t).un=some x) (k:S.dv (S.get u).un=some y):RetS P S [.tmp t,.tmp u] [x,y]:=⟨_,_,rfl,h,_,_,rfl,k,rfl⟩
theorem zY5 {t u v:Nat} {x y z:DV} (h:S.dv (S.get t).un=some x) (k:S.dv (S.get u).un=some y) (D:S.dv (S.get v).un=some z):RetS P S [.tmp t,.tmp u,.tmp v] [x,y,z]:=⟨_,_,rfl,h,_,_,rfl,k,_,_,rfl,D,rfl⟩
end
open Go.RowKit
structure DrawOkF (l:List Oper) (N:Nat):Prop where
 pos:1<=N
 lt:N<l.length
 aft:∀i o,l[i]? =some o->∀j∈aft o,j<i
 looks:∀i o,i<N->i≠0->l[i]? =some o->∀t∈o.looksAt l.toArray,∀j,j<N->j≠0->j≠i->dstAt l j=some t->if j<i then Reach l i j else Reach l j i
 free:∀i o,i<N->l[i]? =some o->∀t∈o.looksAt l.toArray,∀j,j<N->i=0\/j=0->dstAt l j≠some t
 dist:∀i o,i<N->l[i]? =some o->∀j,j<N->j≠i->dstAt l j≠o.dst
 tail:∀i o,N<=i->l[i]? =some o->∀j,j<i->¬(i=N/\j=0)->Reach l i j
open Go.RowKit
theorem zNV {P:Program} {tx:TypeId} (h:P.underlying tx=some .bool) (a b:Bool) (w:World):(Op.equal tx (.bool a) (.bool b)).run P w= .ok (a==b) w:=by show (Op.equalIn (9999+1) tx (.bool a) (.bool b)).run P w=_;unfold Op.equalIn;simp only[cQ,dJ h,cV];rfl
section
variable {P:Program} {r:Option Nat} {E:Env} {S:AState} {d:Nat} {ty:TypeId} {pos:String} {af:Array Edge} {g:Option (Nat×Bool)}
theorem yOA {x y:Operand} {a b:Bool} {tx tz:TypeId} (k:d<E.n) (K:P.underlying tx=some .bool) (O:S.ev x= .d (.v (.bool a))) (T:S.ev y= .d (.v (.bool b))):
  AOp P r E S ⟨some d,.binOp .eql tx x y tz,ty,pos,af,g⟩ d (.d (.v (.bool (a==b)))):=
 ⟨rfl,k,λ_ h=>jI rfl k (by simp) λA w I ρ C D=>by
  simp only[execOp,D.val ((h.ev (by simp[Op.operands])).trans O),D.val ((h.ev (by simp[Op.operands])).trans T)];have hb:binOp .eql tx (.bool a) (.bool b)=(do pure (.bool (<-Op.equal tx (.bool a) (.bool b)))):=rfl;have H:eqGuard .eql tx x y (.bool a) (.bool b)=pure ():=rfl;rw[hb,H];simp only[cQ,dT,cV,zNV K]⟩
end
open Go.RowKit
structure FldTy (P:Program) (s k off n:Nat) (t:TypeId):Prop where
 fld:∃fields f,P.underlying s=some (.struct fields)/\fields[k]? =some f/\f.offset=off/\f.type=t
 size:∀w,(sizeOf t).run P w= .ok n w
 pos:0<n
theorem zNW {P:Program} {s k off n:Nat} {t:TypeId} (h:FldTy P s k off n t) (w:World) (b o:Nat):
  (Instr.fieldAt s (.pointer (some ⟨b,o,none⟩)) k).run P w= .ok (.pointer (some ⟨b,o+off,none⟩)) w:=by
 obtain⟨H,f,Y,O,rfl,rfl⟩:=h.fld;have Z:=h.pos;have T:=h.size w;have K:¬n=0:=by omega
 have D:(⟨b,o,none⟩:Addr).add f.offset=⟨b,o+f.offset,none⟩:=by
  unfold Addr.add;split
  ·rename_i e;rw[e];rfl
  ·rfl
 simp[Instr.fieldAt,dJ Y,O,Instr.sureAddr,fieldPlace,T,K,D]
theorem z3F {w:World} {I:Im} {ρ:Nat->Value} {cells:List AV} {ds:List DV} {xs:List Value} (h:Pw (Holds w I ρ) xs cells) (k:unD cells=some ds):Reps w I xs ds:=by
 induction cells generalizing xs ds with
 | nil=>simp[unD] at k;subst k;have:xs= []:=cP h.1;subst this;exact Pw.nil
 | cons c cells K=>
  cases xs with
  | nil=>have:=h.1;simp at this
  | cons x xs=>
   cases c with
   | d y=>
    simp only[unD] at k;cases D:unD cells with
    | none=>simp[D] at k
    | some ys=>
     simp[D] at k;subst k;exact Pw.cons (h.2 0 x (.d y) rfl rfl) (K ⟨by have:=h.1;simpa using this,λj u z D H=>h.2 (j+1) u z (by simpa using D) (by simpa using H)⟩ D)
   | _=>simp[unD] at k
theorem yOB {w:World} {I:Im} {ρ:Nat->Value} {ds:List DV} {xs:List Value} (h:Reps w I xs ds):Pw (Holds w I ρ) xs (ds.map AV.d):=by refine⟨by rw[h.1,e7],λj x c D k=>?_⟩;simp only[dW,fa] at k;obtain⟨y,H,rfl⟩:=k;exact h.2 j x y D H
section
variable {P:Program} {r:Option Nat} {E:Env} {S:AState} {d:Nat} {ty:TypeId} {pos:String} {af:Array Edge} {g:Option (Nat×Bool)}
theorem zAM {s k off n id o:Nat} {t:TypeId} {x:Operand} (H:d<E.n) (K:FldTy P s k off n t) (Z:S.ev x= .ptr id o):
  AOp P r E S ⟨some d,.fieldAddr s x k,ty,pos,af,g⟩ d (.ptr id (o+off)):=
 ⟨rfl,H,λS' O=>z7 rfl H (by simp) λA w I ρ C T=>by
  have h:=T.ev x;rw[(O.ev (by simp[Op.operands])).trans Z] at h;obtain⟨b,D,Y⟩:=h;refine⟨.pointer (some ⟨b,o+off,none⟩),?_,b,D,rfl⟩;simp only[execOp,Y,cQ,zNW K w b o];rfl⟩
theorem wX {s k off n o:Nat} {t:TypeId} {x:Operand} {cells:List DV} (K:d<E.n) (T:FldTy P s k off n t) (hx:S.ev x= .ip cells o):
  AOp P r E S ⟨some d,.fieldAddr s x k,ty,pos,af,g⟩ d (.ip cells (o+off)):=
 ⟨rfl,K,λS' Y=>z7 rfl K (by simp) λA w I ρ C hs=>by
  have h:=hs.ev x;rw[(Y.ev (by simp[Op.operands])).trans hx] at h;obtain⟨b,H,xs,hv,Z,O,D⟩:=h;refine⟨.pointer (some ⟨b,H+(o+off),none⟩),?_,b,H,xs,rfl,Z,O,D⟩;simp only[execOp,hv,cQ,zNW T w b (H+o),fV];rfl⟩
theorem k7 {t n id eb:Nat} {x:Operand} {cells:List AV} {ds:List DV} (Z:d<E.n) (hT:AggTy P t n) (hx:S.ev x= .ptr id 0) (hb:S.blk id= .box eb cells) (hd:unD cells=some ds) (hl:cells.length=n):
  AOp P r E S ⟨some d,.load t x,ty,pos,af,g⟩ d (.d (.agg ds)):=
 ⟨rfl,Z,λS' Y=>z7 rfl Z (by simp) λA w I ρ C hs=>by
  have h:=hs.ev x;rw[(Y.ev (by simp[Op.operands])).trans hx] at h;obtain⟨b,D,hv⟩:=h;have H:=hs.blks id;rw[(Y.blk id).trans hb] at H;obtain⟨T,arr,O,hB,hh,h1,hr,hI⟩:=H;rw[O] at D;simp[blockOf] at D;subst D;have k:Reps w I arr.toList ds:=z3F hr hd;have K:arr.toList.length=n:=by rw[hr.1];exact hl
  refine⟨.agg arr.toList.toArray,?_,.agg _ _ k.1 (λu hu=>h1 u hu) k.2⟩;simp only[execOp,hv,cQ];rw[zEC w hT T 0 arr.toList K (λj v hj=>by rw[e9 w T _ arr eb (0,0) hh];simpa using hj)]
  rfl⟩
theorem yBW {k:TypeId} {x:Operand} {ds:List DV} (Z:d<E.n) (hx:S.ev x= .d (.agg ds)) (K:E.nm d=none):
  jQ P r E ⟨some d,.box k x,ty,pos,af,g⟩ S (((S.kill d).setBlk d (.box k (ds.map AV.d))).put d (.ptr d 0)):=
 zAQ (by simp) λA w I ρ C T=>by
  have h:=T.ev x;rw[hx] at h;have O:Rep w I (A.eval x) (.agg ds):=h;generalize hv:A.eval x=v at O;cases O with
  | agg xs cells H Y hr=>
   have hb:=T.newBox (id:=d) (e:=k) (arr:=xs.toArray) (cells:=ds.map AV.d) (yOB ⟨H,hr⟩) (by simpa using Y) K;have D:(ds.map AV.d).map (zFL d)=ds.map AV.d:=by
    rw[List.map_map];rfl
   rw[D] at hb;refine⟨.pointer (some ⟨w.heap.size,0,none⟩),w.alloc (.cells xs.toArray k),?_,I,_,C,hb.put Z (show Holds _ _ _ (.pointer (some ⟨w.heap.size,0,none⟩)) (AV.ptr d 0) from ⟨w.heap.size,by simp[upd,blockOf],rfl⟩)⟩;simp only[execOp,hv,Instr.box,newVar];simp[newRow,Value.cells]
theorem z9F {s k off:Nat} {t:TypeId} {x:Operand} {cells:List DV} {y:DV} (Z:d<E.n) (hT:FldTy P s k off 1 t) (h1:OneTy P t) (hx:S.ev x= .d (.agg cells)) (Y:cells[off]? =some y):
  AOp P r E S ⟨some d,.field s x k,ty,pos,af,g⟩ d (.d y):=
 ⟨rfl,Z,λS' ha=>z7 rfl Z (by simp) λA w I ρ C hs=>by
  have h:=hs.ev x;rw[(ha.ev (by simp[Op.operands])).trans hx] at h;have T:Rep w I (A.eval x) (.agg cells):=h;generalize hv:A.eval x=v at T;cases T with
  | agg xs cells K ho hr=>
   obtain⟨H,f,hu,hf,rfl,rfl⟩:=hT.fld;have D:f.offset<xs.length:=by rw[K];exact(c8.1 Y).1
   have O:=cS D;refine⟨xs[f.offset],?_,hr f.offset _ y O Y⟩;simp[execOp,hv,Instr.field,dJ hu,hf,asAgg,part,h1.agg,D]⟩
end
open Go.RowKit
def zP7 (w:World):Im:=λb _=>b<w.heap.size
theorem zQ5 {P:Program} {f:FuncId} {ds:List DV} (H:zE P f ds [.v (.bool true)]) {w:World} {vs:List Value} (hG:GlI (uB P) w (zP7 w)) (K:Reps w (zP7 w) vs ds):
  Calls P f vs.toArray w λe w'=>e= .returned (.bool true)/\Below w.heap.size w w':=by
 refine(H.2 w (zP7 w) vs (λ_ _ h=>h) hG K).mono ?_
 rintro e w' ⟨v,D,rfl,hb,_,_,k⟩
 refine⟨?_,hb⟩;have h:Rep w' D v (.v (.bool true)):=k;cases h;rfl
theorem zNX (w:World) (I:Im):Reps w I [] []:=Pw.nil
theorem zLN {w:World} {I:Im} {v:Value} {vs:List Value} {d:DV} {ds:List DV} (h:Rep w I v d) (H:Reps w I vs ds):Reps w I (v::vs) (d::ds):=by
 refine⟨by simp[H.1],λj x y k D=>?_⟩;cases j with
 | zero=>simp at k D;subst k;subst D;exact h
 | succ j=>exact H.2 j x y (by simpa using k) (by simpa using D)
theorem lq {a b:Nat} (h:Nat.ble a b=true):a<=b:=gZ h
end Go.AV
namespace Go.M
abbrev Str:=List UInt8
def yD {h:Type} (l:List h) (i:Int):Option h:=if 0<=i then l[i.toNat]? else none
def zBD {h:Type} (l:List h) (i:Int) (x: h):Option (List h):=if 0<=i/\i.toNat<l.length then some (l.set i.toNat x) else none
def slc {h:Type} (l:List h) (lo hi:Int):Option (List h):=if 0<=lo/\lo<=hi/\hi.toNat<=l.length then some ((l.take hi.toNat).drop lo.toNat) else none
def LIM:Nat:=4294967296
def app {h:Type} (l m:List h):Option (List h):=if l.length+m.length<=LIM then some (l++m) else none
def mkM {h:Type} (z: h) (n:Int):Option (List h):=if 0<=n/\n.toNat<=LIM then some (List.replicate n.toNat z) else none
def gM {h:Type} [Inhabited h] (g:Bool) (m:Option h):Option h:=cond g m (some default)
def pv {h:Type} (x: h):Option h:=some x
def zNY (k:Int->Int) (a b:Int):Option Int:=if b=0 then none else some (k (a.tdiv b))
def zKJ (a b:Int):Option Int:=if b=0 then none else some (a.tmod b)
def z3G (s:Str) (i:Int):Option Int:=(yD s i).map λb=>(b.toNat:Int)
def mget {h D:Type} [DecidableEq h] (m:List (h×D)) (k: h):Option D:=match m with
 | []=>none
 | (H,v)::r=>if k=H then some v else mget r k
def vD {h D:Type} [DecidableEq h] (m:List (h×D)) (k: h) (v: D):List (h×D):=match m with
 | []=>[(k,v)]
 | (H,K)::r=>if k=H then (k,v)::r else (H,K)::vD r k v
def mgetD {h D:Type} [DecidableEq h] (m:List (h×D)) (k: h) (z: D): D:=(mget m k).getD z
def zDM {h D:Type} [DecidableEq h] (m:List (h×D)) (k: h):Bool:=(mget m k).isSome
inductive Stp (X Y:Type) where
 | next (x:X)
 | done (y:Y)
def iter {X Y:Type} (body:X->Option (Stp X Y)):Nat->X->Option Y
 | 0,_=>none
 | n+1,x=>match body x with
  | none=>none
  | some (.next x')=>iter body n x'
  | some (.done y)=>some y
theorem zY7 {X Y:Type} {body:X->Option (Stp X Y)} {y:Y}:∀{n m:Nat} {x:X},n<=m->iter body n x=some y->iter body m x=some y:=by
 intro n
 induction n with
 | zero=>intro m x _ h;cases h
 | succ n k=>
  intro m x D h;cases m with
  | zero=>omega
  | succ m=>
   simp only[iter] at h ⊢;cases hb:body x with
   | none=>rw[hb] at h;cases h
   | some s=>
    rw[hb] at h;cases s with
    | next x'=>exact k (by omega) h
    | done H=>exact h
open Classical in
noncomputable def zF {X Y:Type} (body:X->Option (Stp X Y)) (x:X):Option Y:=
 if h:∃n y,iter body n x=some y then some (Classical.choose (Classical.choose_spec h)) else none
theorem zMF {X Y:Type} {body:X->Option (Stp X Y)} {x:X} {y:Y}:zF body x=some y↔∃n,iter body n x=some y:=by
 unfold zF;constructor;intro h;split at h;rename_i k;have:=Classical.choose_spec (Classical.choose_spec k);cases h;exact⟨_,this⟩;cases h
 rintro⟨n,H⟩
 have k:∃n y,iter body n x=some y:=⟨n,y,H⟩;rw[dif_pos k];have K:=Classical.choose_spec (Classical.choose_spec k);have O:=zY7 (Nat.le_max_left (Classical.choose k) n) K;have D:=zY7 (Nat.le_max_right (Classical.choose k) n) H;rw[O] at D;exact D
theorem xK {X Y:Type} (body:X->Option (Stp X Y)) (x:X):zF body x=match body x with
  | none=>none
  | some (.next x')=>zF body x'
  | some (.done y)=>some y:=by
 apply Option.ext;intro y;rw[zMF];constructor
 ·rintro⟨n,k⟩
  cases n with
  | zero=>cases k
  | succ n=>
   simp only[iter] at k;cases hb:body x with
   | none=>rw[hb] at k;cases k
   | some s=>
    rw[hb] at k;cases s with
    | next x'=>exact zMF.2 ⟨n,k⟩
    | done D=>exact k
 ·intro h
  cases hb:body x with
  | none=>rw[hb] at h;cases h
  | some s=>
   rw[hb] at h;cases s with
   | next x'=>
    obtain⟨n,k⟩:=zMF.1 h;exact⟨n+1,by simp only[iter,hb];exact k⟩
   | done D=>exact⟨1,by simp only[iter,hb];exact h⟩
theorem bE {k D:Type} {o:Option k} {f: k->Option D} {b: D} (h:o.bind f=some b):∃a,o=some a/\f a=some b:=Option.bind_eq_some_iff.1 h
theorem cT {k:Type} {c:Bool} {A B:Option k} {r:Option k} (D:c=true) (h:cond c A B=r):A=r:=by subst D;exact h
theorem cF {k:Type} {c:Bool} {A B:Option k} {r:Option k} (D:c=false) (h:cond c A B=r):B=r:=by subst D;exact h
theorem eL {D H k:Type} {f: D->k} {g: H->k} {y: D} {r: k} (h:Sum.elim f g (Sum.inl y)=r):f y=r:=h
theorem eR {H D k:Type} {f: H->k} {g: D->k} {y: D} {r: k} (h:Sum.elim f g (Sum.inr y)=r):g y=r:=h
end Go.M
namespace Go.AV
open Go.RowKit
structure Frag (w:World) (I:Im) (ρ:Nat->Value) (T:List (Nat×Blk)):Prop where
 ok:∀id,BlkOk w I ρ (λ_=>True) id (look Blk.none T id)
 dist:∀id id' b,id≠id'->look Blk.none T id≠ .none->look Blk.none T id'≠ .none->blockOf (ρ id)=some b->blockOf (ρ id')≠some b
def yOC (w:World) (I:Im) (ρ:Nat->Value) (v:Value):List Cap->Prop
 | [x]=>HoldsC w I ρ v x
 | xs=> ∃ys,v= .tuple ys.toArray/\Pw (HoldsC w I ρ) ys xs
def GC (P:Program) (f:FuncId) (args:List Cap) (T:List (Nat×Blk)) (keep:List Nat) (k:List Cap) (H:List (Nat×Blk)):Prop:=
 (∃K,P.funcs[f]? =some K/\(K.name== "runtime.NumGoroutine")=false/\K.body.isNone=false)/\
 ∀(w:World) (I:Im) (ρ:Nat->Value) (vs:List Value),(∀b j,I b j->b<w.heap.size)->GlI (uB P) w I->Frag w I ρ T->Pw (HoldsC w I ρ) vs args->
  Calls P f vs.toArray w λe w'=> ∃v D h,e= .returned v/\Chg w w' (xO T ρ)/\Same I w w'/\(∀b j,I b j->D b j)/\
   (∀b j,D b j->b<w'.heap.size/\(I b j\/w.heap.size<=b\/xO T ρ b))/\Frag w' D h H/\yOC w' D h v k/\
   (∀b,xO H h b->b<w'.heap.size/\(w.heap.size<=b\/xO T ρ b))/\(∀id,keep.contains id=true->look Blk.none H id≠ .none->h id= ρ id)
def GCA (P:Program) (f:FuncId) (args:List Cap) (T:List (Nat×Blk)) (keep:List Nat) (K:AV) (D:List (Nat×Blk)):Prop:=
 (∃H,P.funcs[f]? =some H/\(H.name== "runtime.NumGoroutine")=false/\H.body.isNone=false)/\
 ∀(w:World) (I:Im) (ρ:Nat->Value) (vs:List Value),(∀b j,I b j->b<w.heap.size)->GlI (uB P) w I->Frag w I ρ T->Pw (HoldsC w I ρ) vs args->
  Calls P f vs.toArray w λe w'=> ∃v k h,e= .returned v/\Chg w w' (xO T ρ)/\Same I w w'/\(∀b j,I b j->k b j)/\
   (∀b j,k b j->b<w'.heap.size/\(I b j\/w.heap.size<=b\/xO T ρ b))/\Frag w' k h D/\Holds w' k h v K/\
   (∀b,xO D h b->b<w'.heap.size/\(w.heap.size<=b\/xO T ρ b))/\(∀id,keep.contains id=true->look Blk.none D id≠ .none->h id= ρ id)
def Cap.av:Cap->AV
 | .top=> .top
 | .d x=> .d x
 | .ptr i o=> .ptr i o
 | .row i=> .row i
theorem Cap.holds {w:World} {I:Im} {ρ:Nat->Value} {v:Value} {c:Cap} (h:HoldsC w I ρ v c):Holds w I ρ v c.av:=by cases c<;>exact h
def zPQ:List Cap->Nat->List (Nat×AV)
 | [],_=>[]
 | x::r,k=>(k,x.av)::zPQ r (k+1)
theorem z6V (cs:List Cap):∀(k t:Nat),(k<=t/\∃x,cs[t-k]? =some x/\look AV.top (zPQ cs k) t=x.av)\/look AV.top (zPQ cs k) t= .top:=by
 induction cs with
 | nil=>intro k t;exact .inr rfl
 | cons x ds K=>
  intro k t;simp only[zPQ,kL];by_cases e:k=t;subst e;simp;simp only[e,cY];rcases K (k+1) t with ⟨O,y,H,D⟩ | h
  refine .inl ⟨by omega,y,?_,D⟩;have:t-k=(t-(k+1))+1:=by omega
  rw[this];simpa using H;exact .inr h
theorem Chg.refl (w:World) (O:Nat->Prop):Chg w w O:=⟨rfl,rfl,rfl,dC _,λ_ _ _=>rfl⟩
def Env.gen (gdt:Nat->Option (List Value)) (w0:World) (I0:Im) (hG:GlI gdt w0 I0) (Y:Nat->Value) (T:List (Nat×Blk)) (keep:List Nat) (n:Nat) (hn:n<=1000000):Env where
 B:=w0.heap.size
 I0:=I0
 n:=n
 fr:=λ_ C w=>(Chg w0 w (xO T Y)/\Same I0 w0 w)/\(∀b j,I0 b j->b<w0.heap.size)/\∀b,¬C b
 wrB:=true
 nle:=hn
 mine:=λb=>w0.heap.size<=b\/xO T Y b
 mineB:=λ_ h=> .inl h
 nm:=λid=>if keep.contains id then some (Y id) else none
 size:=λ_ _ _ h=>h.1.1.size
 csize:=λ_ _ _ h b hb=>absurd hb (h.2.2 b)
 grow:=λ_ _ w w' h hb=>⟨⟨⟨hb.os.trans h.1.1.os,hb.tape.trans h.1.1.tape,hb.output.trans h.1.1.output,d9 h.1.1.size hb.size,λk K D=>(hb.block k (eT K h.1.1.size)).trans (h.1.1.block k K D)⟩,
  λb j hi=>(KeepB.of (hb.block b (eT (h.2.1 b j hi) h.1.1.size))).trans (h.1.2 b j hi)⟩,h.2⟩
 wr:=λ_ _ _ w w' O h H hr hs=>⟨⟨⟨H.os.trans h.1.1.os,H.tape.trans h.1.1.tape,H.output.trans h.1.1.output,d9 h.1.1.size H.size,λk K D=>(H.block k (eT K h.1.1.size) (λe=>by
   rcases (hr k e).1 with h1 | h1
   ·omega
   ·exact D h1)).trans (h.1.1.block k K D)⟩,λb j hi=>(hs b j hi).trans (h.1.2 b j hi)⟩,h.2⟩
 turn:=λ_ _ _ w w' l h hl Z hs=>⟨⟨⟨Z.os.trans h.1.1.os,Z.tape.trans h.1.1.tape,Z.output.trans h.1.1.output,by rw[Z.size];exact h.1.1.size,λk K D=>(Z.blk k (by omega)).trans (h.1.1.block k K D)⟩,λb j hi=>(hs b j hi).trans (h.1.2 b j hi)⟩,h.2⟩
 gdt:=gdt
 gl:=λ_ _ w h g zs H j=>⟨(h.1.2 g j (hG g zs H j).2).cell.trans (hG g zs H j).1,(hG g zs H j).2⟩
def CapOf:AV->Cap->Prop
 | _,.top=>True
 | av,c=>av=c.av
theorem CapOf.holds {w:World} {I:Im} {ρ:Nat->Value} {v:Value} {av:AV} {c:Cap} (h:CapOf av c) (k:Holds w I ρ v av):HoldsC w I ρ v c:=by
 cases c with
 | top=>trivial
 | _=>have e:av=_:=h;rw[e] at k;exact k
section
variable {P:Program} {r:Option Nat} {E:Env} {S:AState} {d:Nat} {ty:TypeId} {pos:String} {af:Array Edge} {g:Option (Nat×Bool)}
def RetGS (P:Program) (S:AState):List ResultVar->List Cap->Prop
 | [],ys=>ys= []
 | .tmp t::h,ys=> ∃y zs,ys=y::zs/\CapOf (S.get t).un y/\RetGS P S h zs
 | .cell a t::h,ys=> ∃y zs id e cells,ys=y::zs/\(S.get a).un= .ptr id 0/\S.blk id= .box e cells/\
   ((OneTy P t/\∃av,cells= [av]/\CapOf av y)\/(∃ds,AggTy P t cells.length/\unD cells=some ds/\y= .d (.agg ds)))/\RetGS P S h zs
def yQ4 (P:Program) (D:Func) (h:List Cap) (k:List (Nat×Blk)):Exit->AState->Prop
 | .ret,S | .normal,S=>RetGS P S D.results.toList h/\zP4 S k
 | _,_=>False
theorem RetGS.holds {a:Act} {w:World} {I:Im} {ρ:Nat->Value} {C:Nat->Prop} (h:SatAt E S a w I ρ C):∀(l:List ResultVar) (rs:List Cap) (_:RetGS P S l rs),
  ∃xs:List Value,(l.mapM (zVS a.tmps)).run P w= .ok xs w/\Pw (HoldsC w I ρ) xs rs:=by
 intro l
 induction l with
 | nil=>intro rs hr;cases hr;exact⟨[],by simp,Pw.nil⟩
 | cons x l ih=>
  intro rs hr;cases x with
  | tmp t=>
   obtain⟨y,ys,rfl,h1,h2⟩:=hr;obtain⟨xs,O,k⟩:=ih ys h2;exact⟨_::xs,by simp[hZ,zVS,O],Pw.cons (h1.holds (h.tmps t).un) k⟩
  | cell ad t=>
   obtain⟨y,ys,id,e,cells,rfl,h1,h2,h3,h4⟩:=hr;obtain⟨xs,O,k⟩:=ih ys h4;have hp:=(h.tmps ad).un;rw[h1] at hp;obtain⟨b,ac,hv⟩:=hp;have Y:=h.blks id;rw[h2] at Y;obtain⟨b',arr,ag,hB,hh,al,K,hI⟩:=Y;have an:b'=b:=by rw[ag] at ac;simpa[blockOf] using ac
   subst an;have D:∀(j:Nat) v,arr.toList[j]? =some v->w.cell? ⟨b',0+j,none⟩=some v:=λj v hj=>by
    rw[em,e9 w b' j arr e (0,0) hh];simpa using hj
   rcases h3 with ⟨ho,av,hc,hd⟩ | ⟨ds,ha,hd,rfl⟩
   ·subst hc
    have aa:=K.1
    match T:arr.toList,aa with
    | [v0],_=>
     rw[T] at K D;refine⟨v0::xs,?_,Pw.cons (hd.holds (K.2 0 v0 av rfl rfl)) k⟩;have Z:=D 0 v0 rfl;simp only[fE] at Z;simp[hZ,zVS,hv,asAddr,loadVar,ho.agg,run_load,Z,O]
   ·have ab:=z3F K hd
    refine⟨.agg arr.toList.toArray::xs,?_,Pw.cons (.agg _ _ ab.1 al ab.2) k⟩;have H:=zEC (P:=P) w ha b' 0 arr.toList K.1 D;simp only[Instr.loadAt,Instr.sureAddr,cQ,dT,cV] at H;simp only[hZ,zVS,hv,asAddr,cQ,dT,cV,H,O]
theorem RetGS.run {a:Act} {w:World} {I:Im} {ρ:Nat->Value} {C:Nat->Prop} {T:Func} {O:List Cap} (h:SatAt E S a w I ρ C) (H:RetGS P S T.results.toList O):
  ∃v,(results T a.tmps).run P w= .ok v w/\yOC w I ρ v O:=by
 obtain⟨xs,K,k⟩:=RetGS.holds h _ _ H;refine⟨_,zNQ K,?_⟩;have Y:=k.1
 match xs,O,Y,k with
 | [],[],_,D=>exact⟨_,rfl,D⟩
 | [x],[y],_,D=>exact D.2 0 _ y rfl rfl
 | x::u::xs,y::z::ys,_,D=>exact⟨x::u::xs,by simp,D⟩
def GCX (P:Program) (f:FuncId) (args:List Cap) (T:List (Nat×Blk)) (keep:List Nat) (R:World->Im->(Nat->Value)->Value->Prop) (D:List (Nat×Blk)):Prop:=
 (∃H,P.funcs[f]? =some H/\(H.name== "runtime.NumGoroutine")=false/\H.body.isNone=false)/\
 ∀(w:World) (I:Im) (ρ:Nat->Value) (vs:List Value),(∀b j,I b j->b<w.heap.size)->GlI (uB P) w I->Frag w I ρ T->Pw (HoldsC w I ρ) vs args->
  Calls P f vs.toArray w λe w'=> ∃v k h,e= .returned v/\Chg w w' (xO T ρ)/\Same I w w'/\(∀b j,I b j->k b j)/\
   (∀b j,k b j->b<w'.heap.size/\(I b j\/w.heap.size<=b\/xO T ρ b))/\Frag w' k h D/\R w' k h v/\
   (∀b,xO D h b->b<w'.heap.size/\(w.heap.size<=b\/xO T ρ b))/\(∀id,keep.contains id=true->look Blk.none D id≠ .none->h id= ρ id)
def yM6 (h:AState->Prop) (k:List (Nat×Blk)):Exit->AState->Prop
 | .ret,S | .normal,S=>h S/\zP4 S k
 | _,_=>False
theorem yE6 {f:FuncId} {O:Func} {c:Code} {args:List Cap} {T T':List (Nat×Blk)} {keep:List Nat} (R:World->Im->(Nat->Value)->Value->Prop) (RS:AState->Prop) (bb:∀(E:Env) (S:AState) (a:Act) (w:World) (I:Im) (ρ:Nat->Value) (C:Nat->Prop),SatAt E S a w I ρ C->RS S->∃v,(results O a.tmps).run P w= .ok v w/\R w I ρ v) (hf:P.funcs[f]? =some O) (aj:(O.name== "runtime.NumGoroutine")=false) (hb:O.body=some c) (hn:args.length<=O.ntmps) (ai:O.ntmps<=1000000)
  (h:∀w0 I0 hG bd,Avc P none (Env.gen (uB P) w0 I0 hG bd T keep O.ntmps ai) c (yM6 RS T') ⟨zPQ args 0,T⟩):GCX P f args T keep R T':=by
 refine⟨⟨O,hf,aj,by simp[hb]⟩,λw I ρ vs hI hG Z ap=>?_⟩;refine gG (n:=0) |>.1 (callsIn_of_wp_marks hf hb trivial ?_)
 have am:vs.length=args.length:=ap.1;have ao:Sat (Env.gen (uB P) w I hG ρ T keep O.ntmps ai) ⟨zPQ args 0,T⟩ {tmps:=vs.toArray++Array.replicate (O.ntmps-vs.toArray.size) undef,defers:=[]} w:=by
  refine⟨I,ρ,λ_=>False,⟨λt=>?_,λi=>?_,Z.dist,⟨⟨Chg.refl _ _,k6 I w⟩,hI,λ_ h=>h⟩,λ_ _ h=>h,λb j h=>⟨hI b j h,.inl h⟩,by simp[Env.gen];omega,DefOk.nil,λ_ _ _ h=>h,λ_ _ _ _ h=>h,λid v hv _=>?_⟩⟩
  ·rcases z6V args 0 t with ⟨_,x,hx,hl⟩ | hl
   ·show Holds _ _ _ _ (look AV.top (zPQ args 0) t)
    rw[hl];simp only[Nat.sub_zero] at hx;have ht:t<vs.length:=by rw[am];exact(c8.1 hx).1
    refine Cap.holds (ap.2 t _ x ?_ hx);simp[dI,Array.getElem?_append,ht]
   ·show Holds _ _ _ _ (look AV.top (zPQ args 0) t)
    rw[hl];trivial
  ·exact(Z.ok i).mineM λb D ag _=> .inr ⟨i,D,ag⟩
  ·simp only[Env.gen] at hv
   split at hv
   ·cases hv;rfl
   ·cases hv
 refine gV (h w I hG ρ _ w ao) ?_
 rintro e a w' ⟨S,hK,I1,be,C,hs⟩
 have ak:RS S/\zP4 S T'->LeavesInM (fen none) 0 P O a.tmps (λe w'=> ∃v I' ac,e= .returned v/\Chg w w' (xO T ρ)/\Same I w w'/\(∀b j,I b j->I' b j)/\
   (∀b j,I' b j->b<w'.heap.size/\(I b j\/w.heap.size<=b\/xO T ρ b))/\Frag w' I' ac T'/\R w' I' ac v/\
   (∀b,xO T' ac b->b<w'.heap.size/\(w.heap.size<=b\/xO T ρ b))/\(∀id,keep.contains id=true->look Blk.none T' id≠ .none->ac id= ρ id)) a.defers .returning w':=by
  rintro⟨an,ad⟩
  refine zQ0 (B:=w.heap.size) a.defers w' hs.defers λw2 Y al=>?_;have ah:(Env.gen (uB P) w I hG ρ T keep O.ntmps ai).fr S.ghost C w2:=by
   refine⟨⟨⟨Y.os.trans hs.frame.1.1.os,Y.tape.trans hs.frame.1.1.tape,Y.output.trans hs.frame.1.1.output,d9 hs.frame.1.1.size Y.size,λk hk D=>(Y.block k hk).trans (hs.frame.1.1.block k hk D)⟩,λb j hi=>(al.same (I:=I) b j hi).trans (hs.frame.1.2 b j hi)⟩,hs.frame.2⟩
  have H:=hs.taken al ah;obtain⟨v,h1,h2⟩:=bb _ _ _ _ _ _ _ H an;have key:∀id,look Blk.none T' id≠ .none->S.blk id=look Blk.none T' id:=λid D=>by
   rcases zNT ad id with h | h
   ·exact absurd h D
   ·exact h
  have K:∀id,look Blk.none T' id≠ .none->S.blk id≠ .none:=λid D=>by rw[key id D];exact D
  refine⟨v,h1,v,I1,be,rfl,ah.1.1,ah.1.2,λb j hi=>H.sub b j hi,λb j hi=>⟨(H.old b j hi).1,?_⟩,⟨λid=>?_,λid aq b D h1 h2=>H.dist id aq b D (K id h1) (K aq h2)⟩,h2,λb hb=>?_,λid hk D=>?_⟩
  ·rcases (H.old b j hi).2 with h | h
   ·exact .inl h
   ·exact .inr h
  ·rcases zNT ad id with h | h
   ·rw[h];trivial
   ·rw[<-h];exact(H.blks id).mineM λ_ _ _ _=>trivial
  ·obtain⟨id,D,ag⟩:=hb
   have:=H.blt id b (K id D) ag;exact⟨this.2,this.1⟩
  ·refine H.nm id (ρ id) ?_ (K id D)
   simp only[Env.gen];rw[dG hk]
 cases e with
 | normal=>exact ak hK
 | ret=>exact ak hK
 | _=>exact hK.elim
theorem zD4 {f:FuncId} {D:Func} {c:Code} {args k:List Cap} {T Y:List (Nat×Blk)} {keep:List Nat} (hf:P.funcs[f]? =some D) (H:(D.name== "runtime.NumGoroutine")=false) (hb:D.body=some c) (hn:args.length<=D.ntmps) (K:D.ntmps<=1000000)
  (h:∀w0 Z hG O,Avc P none (Env.gen (uB P) w0 Z hG O T keep D.ntmps K) c (yQ4 P D k Y) ⟨zPQ args 0,T⟩):GC P f args T keep k Y:=
 yE6 (λw I ρ v=>yOC w I ρ v k) (λS=>RetGS P S D.results.toList k) (λ_ _ _ _ _ _ _ hs hr=>RetGS.run hs hr) hf H hb hn K h
theorem yE7 {f:FuncId} {D:Func} {c:Code} {args:List Cap} {k:AV} {Y:Nat} {T T':List (Nat×Blk)} {keep:List Nat} (hf:P.funcs[f]? =some D) (H:(D.name== "runtime.NumGoroutine")=false) (hb:D.body=some c) (hn:args.length<=D.ntmps) (K:D.ntmps<=1000000) (O:D.results= #[.tmp Y])
  (h:∀w0 I0 hG Z,Avc P none (Env.gen (uB P) w0 I0 hG Z T keep D.ntmps K) c (yM6 (λS=>(S.get Y).un=k) T') ⟨zPQ args 0,T⟩):GCA P f args T keep k T':=
 yE6 (λw I ρ v=>Holds w I ρ v k) (λS=>(S.get Y).un=k) (λE S a w I ρ C hs hr=>⟨_,zNQ (xs:=[a.tmps.getD Y undef]) (by rw[O];simp[zVS]),by
  have:=(hs.tmps Y).un;rw[hr] at this;exact this⟩) hf H hb hn K h
end
open Go.RowKit
def Cap.ren (σ:List (Nat×Nat)):Cap->Cap
 | .ptr i o=> .ptr (look 0 σ i) o
 | .row i=> .row (look 0 σ i)
 | c=>c
def AV.ren (σ:List (Nat×Nat)):AV->AV
 | .row i=> .row (look 0 σ i)
 | .ptr i o=> .ptr (look 0 σ i) o
 | .rs i o n=> .rs (look 0 σ i) o n
 | .wp i o=> .wp (look 0 σ i) o
 | .ws i o n tt=> .ws (look 0 σ i) o n tt
 | .cond g x=> .cond g (x.ren σ)
 | .clo f h=> .clo f (h.map (Cap.ren σ))
 | .tupc h=> .tupc (h.map (Cap.ren σ))
 | .aggc h=> .aggc (h.map (Cap.ren σ))
 | x=>x
def Blk.ren (σ:List (Nat×Nat)):Blk->Blk
 | .box e cells=> .box e (cells.map (AV.ren σ))
 | b=>b
def renL (σ:List (Nat×Nat)) (T:List (Nat×Blk)):List (Nat×Blk):=T.map λp=>(look 0 σ p.1,p.2.ren σ)
def wR (σ:List (Nat×Nat)) (k:Nat):Bool:=σ.any λp=>Nat.beq p.1 k
def Cap.idsLt (σ:List (Nat×Nat)):Cap->Bool
 | .ptr i _=>wR σ i
 | .row i=>wR σ i
 | _=>true
def AV.idsLt (σ:List (Nat×Nat)):AV->Bool
 | .row i=>wR σ i
 | .ptr i _=>wR σ i
 | .rs i _ _=>wR σ i
 | .wp i _=>wR σ i
 | .ws i _ _ _=>wR σ i
 | .cond _ x=>x.idsLt σ
 | .clo _ h=>h.all (Cap.idsLt σ)
 | .tupc h=>h.all (Cap.idsLt σ)
 | .aggc h=>h.all (Cap.idsLt σ)
 | _=>true
def Blk.idsLt (σ:List (Nat×Nat)):Blk->Bool
 | .box _ cells=>cells.all (AV.idsLt σ)
 | _=>true
section
variable {w:World} {I:Im}
theorem HoldsC.ren {σ:List (Nat×Nat)} {ρ D:Nat->Value} {v:Value} {c:Cap} (h:∀k,wR σ k=true->D (look 0 σ k)= ρ k) (H:c.idsLt σ =true):HoldsC w I ρ v c↔HoldsC w I D v (c.ren σ):=by
 cases c with
 | top=>exact Iff.rfl
 | d x=>exact Iff.rfl
 | ptr i o=>
  have:wR σ i=true:=H;simp only[HoldsC,Cap.ren,h i this]
 | row i=>
  have:wR σ i=true:=H;simp only[HoldsC,Cap.ren,h i this]
theorem zQ6 {T Y γ:Type} {R: T->Y->Prop} {R': T->γ->Prop} {f: Y->γ} {xs:List T} {ys:List Y} (h:∀x y,y∈ys->(R x y↔R' x (f y))):Pw R xs ys↔Pw R' xs (ys.map f):=by
 constructor
 rintro⟨H,K⟩
 refine⟨by simpa using H,λj x y O k=>?_⟩;rw[dW] at k;cases D:ys[j]? with
 | none=>simp[D] at k
 | some Z=>simp[D] at k;subst k;exact(h x Z (eV D)).1 (K j x Z O D)
 rintro⟨H,K⟩
 refine⟨by simpa using H,λj x y O k=>?_⟩;exact(h x y (eV k)).2 (K j x (f y) O (by simp[k]))
theorem HoldsC.renL {σ:List (Nat×Nat)} {ρ h:Nat->Value} (D:∀k,wR σ k=true->h (look 0 σ k)= ρ k) {xs:List Value} {cs:List Cap} (H:cs.all (Cap.idsLt σ)=true):Pw (HoldsC w I ρ) xs cs↔Pw (HoldsC w I h) xs (cs.map (Cap.ren σ)):=
 zQ6 λx y K=>HoldsC.ren D (eC.1 H y K)
theorem Holds.ren {σ : List (Nat × Nat)} {ρ ρ' : Nat -> Value} (hρ : ∀ k, wR σ k = true -> ρ' (look 0 σ k) = ρ k) {v : Value} : ∀ {x : AV}, x.idsLt σ = true -> (Holds w I ρ v x ↔ Holds w I ρ' v (x.ren σ)) := by
  intro x
  induction x with
  | row i => intro hn; have : wR σ i = true := hn
             simp only[Holds, AV.ren, hρ i this]
  | ptr i o => intro hn; have : wR σ i = true := hn
               simp only[Holds, AV.ren, hρ i this]
  | rs i o m => intro hn; have : wR σ i = true := hn
                simp only[Holds, AV.ren, hρ i this]
  | wp i o => intro hn; have : wR σ i = true := hn
              simp only[Holds, AV.ren, hρ i this]
  | ws i o m tt => intro hn; have : wR σ i = true := hn
                   simp only[Holds, AV.ren, hρ i this]
  | cond g x ih => intro hn; simp only[Holds, AV.ren, ih hn]
  | clo f caps => intro hn; simp only[Holds, AV.ren]; constructor
                  · rintro⟨xs, h1, h2⟩; exact⟨xs, h1, (HoldsC.renL hρ hn).1 h2⟩
                  · rintro⟨xs, h1, h2⟩; exact⟨xs, h1, (HoldsC.renL hρ hn).2 h2⟩
  | tupc caps => intro hn; simp only[Holds, AV.ren]; constructor
                 · rintro⟨xs, h1, h2⟩; exact⟨xs, h1, (HoldsC.renL hρ hn).1 h2⟩
                 · rintro⟨xs, h1, h2⟩; exact⟨xs, h1, (HoldsC.renL hρ hn).2 h2⟩
  | aggc caps => intro hn; simp only[Holds, AV.ren]; constructor
                 · rintro⟨xs, h1, h2, h3⟩; exact⟨xs, h1, (HoldsC.renL hρ hn).1 h2, h3⟩
                 · rintro⟨xs, h1, h2, h3⟩; exact⟨xs, h1, (HoldsC.renL hρ hn).2 h2, h3⟩
  | top => intro _; exact Iff.rfl
  | d x => intro _; exact Iff.rfl
  | ip c o => intro _; exact Iff.rfl
  | tup ds => intro _; exact Iff.rfl
  | gh k => intro _; exact Iff.rfl
theorem BlkOk.ren {σ:List (Nat×Nat)} {ρ D:Nat->Value} {k:Nat} {M:Nat->Prop} (h:∀k,wR σ k=true->D (look 0 σ k)= ρ k) (H:wR σ k=true) {x:Blk} (hn:x.idsLt σ =true):BlkOk w I ρ M k x↔BlkOk w I D M (look 0 σ k) (x.ren σ):=by
 cases x with
 | none=>exact Iff.rfl
 | row e size sh cells=>simp only[BlkOk,Blk.ren,h k H]
 | map es=>simp only[BlkOk,Blk.ren,h k H]
 | it es q=>simp only[BlkOk,Blk.ren,h k H]
 | win e size k' cells=>simp only[BlkOk,Blk.ren,h k H]
 | box e cells=>
  simp only[BlkOk,Blk.ren,h k H];have:∀arr:Array Value,Pw (Holds w I ρ) arr.toList cells↔Pw (Holds w I D) arr.toList (cells.map (AV.ren σ)):=λarr=>
   zQ6 λx y hy=>Holds.ren h (eC.1 hn y hy)
  constructor
  rintro⟨b,arr,K,O,T,Y,Z,h6⟩;exact⟨b,arr,K,O,T,Y,(this arr).1 Z,h6⟩
  rintro⟨b,arr,K,O,T,Y,Z,h6⟩;exact⟨b,arr,K,O,T,Y,(this arr).2 Z,h6⟩
theorem HoldsC.agree {ρ k:Nat->Value} {v:Value} {c:Cap} (h:HoldsC w I ρ v c) (D:∀id,c.mentions id=true->k id= ρ id):HoldsC w I k v c:=by
 cases c with
 | top=>trivial
 | d x=>exact h
 | ptr i o=>simpa only[HoldsC,D i (by simp[Cap.mentions])] using h
 | row i=>simpa only[HoldsC,D i (by simp[Cap.mentions])] using h
theorem Holds.agree {ρ aa:Nat->Value} {v:Value}:∀{x:AV},Holds w I ρ v x->(∀id,x.mentions id=true->aa id= ρ id)->Holds w I aa v x:=by
 intro x
 induction x with
 | row i=>intro h D;simpa only[Holds,D i (by simp[AV.mentions])] using h
 | ptr i o=>intro h D;simpa only[Holds,D i (by simp[AV.mentions])] using h
 | rs i o m=>intro h D;simpa only[Holds,D i (by simp[AV.mentions])] using h
 | wp i o=>intro h D;simpa only[Holds,D i (by simp[AV.mentions])] using h
 | ws i o m tt=>intro h D;simpa only[Holds,D i (by simp[AV.mentions])] using h
 | cond g x ih=>intro h D;exact⟨λhg=>ih (h.1 hg) (λid T=>D id (by simpa[AV.mentions] using T)),h.2⟩
 | clo f H=>
  rintro⟨xs,Y,K⟩ D
  exact⟨xs,Y,K.1,λj x c Z O=>(K.2 j x c Z O).agree λid T=>D id (by simp only[AV.mentions,fU];exact⟨c,eV O,T⟩)⟩
 | tupc H=>
  rintro⟨xs,Y,K⟩ D
  exact⟨xs,Y,K.1,λj x c Z O=>(K.2 j x c Z O).agree λid T=>D id (by simp only[AV.mentions,fU];exact⟨c,eV O,T⟩)⟩
 | aggc H=>
  rintro⟨xs,Y,K,h3⟩ D
  exact⟨xs,Y,⟨K.1,λj x c Z O=>(K.2 j x c Z O).agree λid T=>D id (by simp only[AV.mentions,fU];exact⟨c,eV O,T⟩)⟩,h3⟩
 | top=>intro h _;exact h
 | d x=>intro h _;exact h
 | ip c o=>intro h _;exact h
 | tup ds=>intro h _;exact h
 | gh k=>intro h _;exact h
end
def zKR (h:List Nat) (x:AV):AV:=if h.any (λk=>x.mentions k) then .top else x
def zED (h:List Nat):Blk->Blk
 | .box e cells=> .box e (cells.map (zKR h))
 | b=>b
def AState.killL (S:AState) (h:List Nat):AState:=
 {tmps:=S.tmps.map λp=>(p.1,zKR h p.2),blks:=S.blks.map λp=>(p.1,zED h p.2)}
theorem zY8 (S:AState) (h:List Nat) (t:Nat):(S.killL h).get t=zKR h (S.get t):=zQY _ _ (by simp[zKR,AV.mentions]) _ _
theorem zY9 (S:AState) (h:List Nat) (i:Nat):(S.killL h).blk i=zED h (S.blk i):=zQY _ _ rfl _ _
theorem zPR {w:World} {I:Im} {ρ k:Nat->Value} {H:List Nat} {v:Value} {x:AV} (h:Holds w I ρ v x) (K:∀id,H.contains id=false->k id= ρ id):Holds w I k v (zKR H x):=by
 unfold zKR;split;trivial;rename_i T;refine h.agree λid D=>K id ?_;cases O:H.contains id with
 | false=>rfl
 | true=>
  exfalso;apply T;simp only[fU];exact⟨id,by simpa using O,D⟩
theorem yE8 (D:List Nat) (x:AV):(match zKR D x with | .gh k=>k | _=>0)=(match x with | .gh k=>k | _=>0):=by
 unfold zKR;by_cases h:(D.any λk=>x.mentions k)=true;simp only[h,dH];cases x<;>first | rfl | (simp[AV.mentions] at h)
 simp only[h];rfl
def AState.setL (S:AState) (T:List (Nat×Blk)):AState:={S with blks:=T++S.blks}
theorem zKS {H:Type} (D: H) (l m:List (Nat×H)) (k:Nat):look D (l++m) k=if l.any (λp=>Nat.beq p.1 k) then look D l k else look D m k:=by
 induction l with
 | nil=>simp[look]
 | cons p l O=>
  obtain⟨i,x⟩:=p;simp only[fH,look,ik];by_cases h:Nat.beq i k=true;simp[h];have K:Nat.beq i k=false:=Bool.eq_false_iff.2 h;simp only[K,O,eY];simp
def ArgsAs (σ:List (Nat×Nat)):List AV->List Cap->Prop
 | [],[]=>True
 | x::xs,c::cs=>CapOf x (c.ren σ)/\ArgsAs σ xs cs
 | _,_=>False
theorem ArgsAs.holds {w:World} {I:Im} {ρ H:Nat->Value} {σ:List (Nat×Nat)} (O:∀k,wR σ k=true->H (look 0 σ k)= ρ k):∀{vs:List Value} {xs:List AV} {cs:List Cap},ArgsAs σ xs cs->cs.all (Cap.idsLt σ)=true->Pw (Holds w I H) vs xs->Pw (HoldsC w I ρ) vs cs:=by
 intro vs xs
 induction xs generalizing vs with
 | nil=>
  intro cs h _ D;cases cs with
  | nil=>exact⟨D.1,λj x y hx Y=>by simp at Y⟩
  | cons c cs=>exact h.elim
 | cons x xs Z=>
  intro cs h K D;cases cs with
  | nil=>exact h.elim
  | cons c cs=>
   cases vs with
   | nil=>have:=D.1;simp at this
   | cons v vs=>
    simp only[ij,dL] at K;refine Pw.cons ((HoldsC.ren O K.1).2 (h.1.holds (D.2 0 v x rfl rfl))) (Z h.2 K.2 ⟨by have:=D.1;simpa using this,λj a b T hb=>D.2 (j+1) a b (by simpa using T) (by simpa using hb)⟩)
def BlksAs (S:AState) (σ:List (Nat×Nat)):List (Nat×Blk)->Prop
 | []=>True
 | (k,x)::T=>S.blk (look 0 σ k)=x.ren σ/\BlksAs S σ T
theorem BlksAs.look {S:AState} {σ:List (Nat×Nat)}:∀{T:List (Nat×Blk)},BlksAs S σ T->∀k,look Blk.none T k≠ .none->S.blk (look 0 σ k)=(look Blk.none T k).ren σ
 | [],_,k,h=>absurd rfl h
 | (i,x)::T,h,k,D=>by
  rw[kL] at D ⊢;by_cases e:i=k;subst e;simp only[dH];exact h.1;simp only[e,cY] at D ⊢;exact BlksAs.look h.2 k D
def zP8:List Cap->AV
 | [c]=>c.av
 | cs=> .tupc cs
theorem yOD {σ:List (Nat×Nat)} {x:Blk}:x.ren σ≠ .none↔x≠ .none:=by cases x<;>simp[Blk.ren]
def zLD (σ:List (Nat×Nat)) (keep:List Nat) (h:List (Nat×Blk)):List Nat:=
 σ.filterMap λq=>if keep.contains q.1&&h.any (λp=>Nat.beq p.1 q.1) then none else some q.2
def zPD (σ:List (Nat×Nat)) (T h:List (Nat×Blk)):List (Nat×Blk):=
 (T.filter λp=>!h.any (λq=>Nat.beq q.1 p.1)).map λp=>(look 0 σ p.1,Blk.none)
theorem BlkOk.agree {w:World} {I:Im} {ρ H:Nat->Value} {M:Nat->Prop} {i:Nat} {x:Blk} {Y:List Nat} (h:BlkOk w I ρ M i x) (hi: H i= ρ i) (ha:∀id,Y.contains id=false->H id= ρ id):BlkOk w I H M i (zED Y x):=by
 cases x with
 | none=>trivial
 | row e size sh cells=>simpa only[BlkOk,zED,hi] using h
 | map es=>simpa only[BlkOk,zED,hi] using h
 | it es q=>simpa only[BlkOk,zED,hi] using h
 | win e size k cells=>simpa only[BlkOk,zED,hi] using h
 | box e cells=>
  obtain⟨b,arr,Z,h2,h3,h4,T,h6⟩:=h;refine⟨b,arr,by rw[hi];exact Z,h2,h3,h4,⟨by simpa using T.1,λj y av hj D=>?_⟩,h6⟩
  rw[dW] at D;cases O:cells[j]? with
  | none=>simp[O] at D
  | some K=>simp[O] at D;subst D;exact zPR (T.2 j y K hj O) ha
theorem yJY {h:List Nat} {x:Blk}:zED h x≠ .none↔x≠ .none:=by cases x<;>simp[zED]
structure Ren (σ:List (Nat×Nat)):Prop where
 keys:(σ.map Prod.fst).Nodup
 vals:(σ.map Prod.snd).Nodup
theorem zFS {σ:List (Nat×Nat)} {k:Nat} (h:wR σ k=true):(k,look 0 σ k)∈σ:=by
 induction σ with
 | nil=>simp[wR] at h
 | cons p σ D=>
  obtain⟨i,x⟩:=p;rw[kL];by_cases e:i=k;subst e;simp;simp only[e,cY];have hb:Nat.beq i k=false:=Bool.eq_false_iff.2 λh=>e (iB h);simp only[wR,ik,hb,eY] at h;exact iE _ (D h)
theorem yBY {σ:List (Nat×Nat)} {k x:Nat} (h:(k,x)∈σ):wR σ k=true:=by simp only[wR,fU];exact⟨(k,x),h,by simp[hP]⟩
theorem z3H {σ:List (Nat×Nat)} (D:(σ.map Prod.fst).Nodup) {k x:Nat} (h:(k,x)∈σ):look 0 σ k=x:=by
 induction σ with
 | nil=>simp at h
 | cons p σ H=>
  obtain⟨i,y⟩:=p;rw[kL];simp only[eA,List.nodup_cons] at D;rcases dM.1 h with h | h;cases h;simp;have:i≠k:=λe=>D.1 (eM.2 ⟨(k,x),h,e.symm⟩);simp only[this,cY];exact H D.2 h
theorem yJZ {σ:List (Nat×Nat)} (D:(σ.map Prod.snd).Nodup) {k K x:Nat} (h:(k,x)∈σ) (O:(K,x)∈σ):k=K:=by
 induction σ with
 | nil=>simp at h
 | cons p σ T=>
  simp only[eA,List.nodup_cons] at D;rcases dM.1 h with H | H<;>rcases dM.1 O with h2 | h2
  rw[<-H] at h2;exact(Prod.mk.inj h2).1.symm;exact absurd (eM.2 ⟨_,h2,by rw[<-H]⟩) D.1;exact absurd (eM.2 ⟨_,H,by rw[<-h2]⟩) D.1;exact T D.2 H h2
theorem z3I {σ:List (Nat×Nat)} (h:Ren σ) {k H:Nat} (K:wR σ k=true) (D:wR σ H=true) (e:look 0 σ k=look 0 σ H):k=H:=
 yJZ h.vals (zFS K) (by rw[e];exact zFS D)
theorem zI0 {σ:List (Nat×Nat)} {k:Nat} (h:wR σ k=true):look 0 σ k∈σ.map Prod.snd:=eM.2 ⟨_,zFS h,rfl⟩
theorem z3J {σ:List (Nat×Nat)} (D:Ren σ) {i:Nat} (h:i∈σ.map Prod.snd):∃k,wR σ k=true/\look 0 σ k=i:=by obtain⟨⟨k,x⟩,H,rfl⟩:=eM.1 h;exact⟨k,yBY H,z3H D.keys H⟩
theorem zSN {σ:List (Nat×Nat)} (D:Ren σ):∀{T:List (Nat×Blk)},(∀p∈T,wR σ p.1=true)->∀{k:Nat},wR σ k=true->look Blk.none (renL σ T) (look 0 σ k)=(look Blk.none T k).ren σ
 | [],_,k,_=>rfl
 | (i,x)::T,h,k,H=>by
  show look Blk.none ((look 0 σ i,x.ren σ)::renL σ T) (look 0 σ k)=_;rw[kL,kL];by_cases e:i=k;subst e;simp;have:look 0 σ i≠look 0 σ k:=λK=>e (z3I D (h (i,x) (by simp)) H K);simp only[this,e,cY];exact zSN D (λp O=>h p (by simp[O])) H
theorem z3K {T:List (Nat×Blk)} (h:∀p∈T,p.2≠ .none) (k:Nat):T.any (λp=>Nat.beq p.1 k)=true↔look Blk.none T k≠ .none:=by
 induction T with
 | nil=>simp[look]
 | cons p T H=>
  obtain⟨i,x⟩:=p;rw[kL,ik];by_cases e:i=k;subst e;simp[hP,h (i,x) (by simp)];have:Nat.beq i k=false:=Bool.eq_false_iff.2 λh=>e (iB h);simp only[this,eY,e,cY];exact H λp D=>h p (by simp[D])
def Blk.isSome:Blk->Bool
 | .none=>false
 | _=>true
def zDG (σ:List (Nat×Nat)) (T:List (Nat×Blk)):Bool:=T.all λp=>wR σ p.1&&p.2.idsLt σ &&p.2.isSome
theorem zTO {σ:List (Nat×Nat)} {T:List (Nat×Blk)} (h:zDG σ T=true):∀p∈T,wR σ p.1=true/\p.2.idsLt σ =true/\p.2≠ .none:=by intro p k;have:=eC.1 h p k;simp only[dL] at this;refine⟨this.1.1,this.1.2,λe=>?_⟩;rw[e] at this;simp[Blk.isSome] at this
theorem zNZ {T:List (Nat×Blk)} {k:Nat} (h:look Blk.none T k≠ .none):(k,look Blk.none T k)∈T:=by
 induction T with
 | nil=>exact absurd rfl h
 | cons p T D=>
  obtain⟨i,x⟩:=p;rw[kL] at h ⊢;by_cases e:i=k;subst e;simp;simp only[e,cY] at h ⊢;exact iE _ (D h)
theorem yBZ {σ:List (Nat×Nat)} {T h:List (Nat×Blk)} (i:Nat):look Blk.none (zPD σ T h) i= .none:=by
 unfold zPD
 induction (T.filter λp=>!h.any (λq=>Nat.beq q.1 p.1)) with
 | nil=>rfl
 | cons p l k=>rw[eA,kL];split;rfl;exact k
def zQ7 (S:AState) (σ:List (Nat×Nat)) (T:List (Nat×Blk)):Prop:= ∀k,wR σ k=true->look Blk.none T k= .none->S.blk (look 0 σ k)= .none
section
variable {P:Program} {r:Option Nat} {E:Env} {S:AState} {d:Nat} {ty:TypeId} {pos:String} {af:Array Edge} {g:Option (Nat×Bool)}
theorem zZA {f:FuncId} {xf:Operand} {extra:List AV} {xs:List Operand} {ats:Array TypeId} {args:List Cap} {bv:AV} {T Y:List (Nat×Blk)} {keep:List Nat} (σ:List (Nat×Nat)) (hn:d<E.n) (aq:Ren σ)
  (cr:∀A w I ρ C,SatAt E S A w I ρ C->∃au:List Value,A.eval xf= .func (.func f) #[] au.toArray/\Pw (Holds w I ρ) au extra) (bm:ArgsAs σ (xs.map S.ev++extra) args) (cn:args.all (Cap.idsLt σ)=true) (cz:bv.idsLt σ =true) (hT:BlksAs S σ T) (cm:zDG σ T=true) (bx:zDG σ Y=true)
  (ct:zQ7 S σ T) (cx:∀k,wR σ k=true->E.nm (look 0 σ k)=none\/(keep.contains k=true/\look Blk.none T k≠ .none/\look Blk.none Y k≠ .none)) (hc:GCA P f args T keep bv Y) (hE:E.wrB=true) (hG:E.gdt=uB P:=by rfl):
  jQ P r E ⟨some d,.call {callee:= .value xf,args:=xs.toArray,argTypes:=ats},ty,pos,af,g⟩ S
   (((S.killL (zLD σ keep Y)).setL (renL σ Y++zPD σ T Y)).put d (bv.ren σ)):=by
 rintro A w K Q ⟨I,ρ,C,hs⟩ hk
 obtain⟨⟨fn,hf,br,bn⟩,bo⟩:=hc;have bb:=zTO cm;have H:=zTO bx
 let ar:Nat->Value:=λk=>ρ (look 0 σ k)
 have bh:∀k,wR σ k=true->ρ (look 0 σ k)= ar k:=λ_ _=>rfl;have ba:∀k,look Blk.none T k≠ .none->wR σ k=true/\(look Blk.none T k).idsLt σ =true/\S.blk (look 0 σ k)=(look Blk.none T k).ren σ/\S.blk (look 0 σ k)≠ .none:=λk h=>by
  have:=bb _ (zNZ h);have h2:=hT.look k h;exact⟨this.1,this.2.1,h2,by rw[h2];exact yOD.2 h⟩
 have bp:Frag w I ar T:=by
  refine⟨λk=>?_,λk k' b h h1 h2 hb=>?_⟩
  ·by_cases h:look Blk.none T k= .none
   ·rw[h];trivial
   ·obtain⟨t1,t2,t3,_⟩:=ba k h
    have:=hs.blks (look 0 σ k);rw[t3] at this;exact((BlkOk.ren bh t1 t2).2 this).mineM λ_ _ _ _=>trivial
  ·obtain⟨t1,_,_,t4⟩:=ba k h1
   obtain⟨u1,_,_,u4⟩:=ba k' h2;exact hs.dist _ _ b (λe=>h (z3I aq t1 u1 e)) t4 u4 hb
 obtain⟨au,da,cq⟩:=cr A w I ρ C hs;have cp:=bo w I ar (xs.map A.eval++au) (λb j hi=>(hs.old b j hi).1) (hG▸hs.gl) bp (ArgsAs.holds bh bm cn (Pw.append (zCC hs xs) cq));refine⟨λf _=>trivial,?_⟩;rw[Oper.semAt_eq _ _ _ (by simp)];have cf:(execOp A.eval ⟨some d,.call {callee:= .value xf,args:=xs.toArray,argTypes:=ats},ty,pos,af,g⟩).run P w= .ok (.enter f (xs.map A.eval++au).toArray) w:=by
  simp only[execOp,resolve,da,Deferred.ofValue];have cv:¬fn.name= "runtime.NumGoroutine" :=by simpa using br
  have cw:¬fn.body=none:=by intro e;simp[e] at bn
  simp[invoke,callFunc,hf,cv,cw,eO]
 rw[cf];refine⟨by simp[fen,Fence.wide],?_⟩;show CallsIn Fence.wide 0 P f _ w _;refine gG.2 (cp.mono ?_)
 rintro e w' ⟨v,I',bj,rfl,aw,an,az,ap,ao,ce,ak,ay⟩
 let dc:Nat->Nat:=λi=>look 0 (σ.map λp=>(p.2,p.1)) i
 let am:Nat->Value:=λi=>if i∈σ.map Prod.snd then bj (dc i) else ρ i
 have ab:∀k,wR σ k=true->am (look 0 σ k)= bj k:=λk hk=>by
  simp only[am,zI0 hk,dH];congr 1;refine z3H (σ:=σ.map λp=>(p.2,p.1)) ?_ (eM.2 ⟨_,zFS hk,rfl⟩);rw[List.map_map];exact aq.vals
 have ai:∀i,i∉σ.map Prod.snd->am i= ρ i:=λi hi=>by simp only[am,hi,cY]
 have agree:∀id,(zLD σ keep Y).contains id=false->am id= ρ id:=by
  intro id hl;by_cases hm:id∈σ.map Prod.snd
  ·obtain⟨k,hk,rfl⟩:=z3J aq hm
   rw[ab k hk];by_cases be:(keep.contains k&&Y.any (λp=>Nat.beq p.1 k))=true
   ·simp only[dL] at be
    exact ay k be.1 ((z3K (λp hp=>(H p hp).2.2) k).1 be.2)
   ·exfalso
    have:(zLD σ keep Y).contains (look 0 σ k)=true:=by
     rw[List.contains_iff_mem];unfold zLD;rw[List.mem_filterMap];exact⟨_,zFS hk,by rw[dN be]⟩
    rw[this] at hl;cases hl
  ·exact ai id hm
 have bi:∀b,xO T ar b->∃k,wR σ k=true/\look Blk.none T k≠ .none/\S.blk (look 0 σ k)≠ .none/\blockOf (ρ (look 0 σ k))=some b:=by
  rintro b ⟨k,h1,h2⟩
  obtain⟨t1,_,_,t4⟩:=ba k h1;exact⟨k,t1,h1,t4,h2⟩
 have D:∀b,xO T ar b->E.mine b/\b<w.heap.size/\¬C b/\∃o,w.heap[b]? =some o/\isData o=true:=by
  intro b hb;obtain⟨k,_,_,h3,h4⟩:=bi b hb;exact⟨(hs.blt _ b h3 h4).1,(hs.blt _ b h3 h4).2,hs.cB _ b h3 h4,hs.cellBlk h3 h4⟩
 let S1:=(S.killL (zLD σ keep Y)).setL (renL σ Y++zPD σ T Y)
 have bl:∀k,look Blk.none Y k≠ .none->S1.blk (look 0 σ k)=(look Blk.none Y k).ren σ/\wR σ k=true:=by
  intro k h;have hm:=H _ (zNZ h);refine⟨?_,hm.1⟩;show look Blk.none ((renL σ Y++zPD σ T Y)++(S.killL (zLD σ keep Y)).blks) (look 0 σ k)=_;have ha:(renL σ Y).any (λp=>Nat.beq p.1 (look 0 σ k))=true:=by
   simp only[fU];exact⟨(look 0 σ k,(look Blk.none Y k).ren σ),eM.2 ⟨_,zNZ h,rfl⟩,by simp[hP]⟩
  rw[c9,zKS,dG ha,zSN aq (λp hp=>(H p hp).1) hm.1]
 have Z:∀i,S1.blk i≠ .none->(∃k,wR σ k=true/\look Blk.none Y k≠ .none/\i=look 0 σ k)\/(i∉σ.map Prod.snd/\S1.blk i=zED (zLD σ keep Y) (S.blk i)/\S.blk i≠ .none):=by
  intro i h;by_cases hm:i∈σ.map Prod.snd
  ·obtain⟨k,hk,rfl⟩:=z3J aq hm
   by_cases ac:look Blk.none Y k= .none
   ·exfalso
    apply h;show look Blk.none ((renL σ Y++zPD σ T Y)++(S.killL (zLD σ keep Y)).blks) (look 0 σ k)=_;rw[c9,zKS];split
    ·rw[zSN aq (λp hp=>(H p hp).1) hk,ac];rfl
    ·rw[zKS]
     split
     ·exact yBZ _
     ·rename_i hg
      show (S.killL (zLD σ keep Y)).blk (look 0 σ k)=_;rw[zY9];by_cases cd:look Blk.none T k= .none
      ·rw[ct k hk cd];rfl
      ·exfalso
       apply hg;simp only[fU];refine⟨(look 0 σ k,Blk.none),eM.2 ⟨(k,look Blk.none T k),fb.2 ⟨zNZ cd,?_⟩,rfl⟩,by simp[hP]⟩;cases hx:Y.any (λq=>Nat.beq q.1 k) with
       | false=>simp[hx]
       | true=>exact absurd ac ((z3K (λp hp=>(H p hp).2.2) k).1 hx)
   ·exact .inl ⟨k,hk,ac,rfl⟩
  ·have hb:S1.blk i=zED (zLD σ keep Y) (S.blk i):=by
    show look Blk.none ((renL σ Y++zPD σ T Y)++(S.killL (zLD σ keep Y)).blks) i=_;have h1:(renL σ Y++zPD σ T Y).any (λp=>Nat.beq p.1 i)=false:=by
     rw[gJ];intro p hp;have:p.1∈σ.map Prod.snd:=by
      rcases eK.1 hp with hp | hp
      ·obtain⟨q,hq,rfl⟩:=eM.1 hp;exact zI0 (H q hq).1
      ·obtain⟨q,hq,rfl⟩:=eM.1 hp;exact zI0 (bb q (fb.1 hq).1).1
     simp only[hP];intro e;exact hm (e▸this)
    rw[zKS,h1];exact zY9 _ _ _
   exact .inr ⟨hm,hb,by rw[hb] at h;exact yJY.1 h⟩
 have ag:∀i b,i∉σ.map Prod.snd->S.blk i≠ .none->blockOf (ρ i)=some b->¬xO T ar b:=by
  intro i b hm h hb ho;obtain⟨k,hk,_,h3,h4⟩:=bi b ho;exact hs.dist i (look 0 σ k) b (λe=>hm (e▸zI0 hk)) h h3 hb h4
 have ch:SatAt E S1 A w' I' am C:=by
  refine⟨λt=>?_,λi=>?_,λi i' b h hi cc hb=>?_,?_,λb j hi=>az b j (hs.sub b j hi),λb j hi=>⟨(ap b j hi).1,?_⟩,hs.size,hs.defers.keep λq hq=>?_,λb j hi=>?_,λi b hi hb=>?_,λi u hu hi=>?_⟩
  ·show Holds w' I' am _ ((S.killL (zLD σ keep Y)).get t)
   rw[zY8];exact zPR ((hs.tmps t).mono an az) agree
  ·by_cases h:S1.blk i= .none
   ·rw[h];trivial
   ·rcases Z i h with ⟨k,hk,ac,rfl⟩ | ⟨hm,hb,O⟩
    ·rw[(bl k ac).1]
     have hm:=H _ (zNZ ac);refine((BlkOk.ren (M:=λ_=>True) ab hk hm.2.1).1 (ao.ok k)).mineM λb _ al _=>?_;rw[ab k hk] at al;rcases (ak b ⟨k,ac,al⟩).2 with h1 | h1
     ·exact E.mineB b (d9 (E.size _ _ _ hs.frame) h1)
     ·exact(D b h1).1
    ·rw[hb]
     refine BlkOk.agree ?_ (ai i hm) agree;refine((hs.blks i).mono an λb al=>aw.block b (hs.blt i b O al).2 (ag i b hm O al)).widenI az λb j _ al hi=>?_;rcases (ap b j hi).2 with h1 | h1 | h1
     ·exact h1
     ·have:=(hs.blt i b O al).2;omega
     ·exact absurd h1 (ag i b hm O al)
  ·rcases Z i hi with ⟨k,hk,ac,rfl⟩ | ⟨hm,bz,O⟩
   ·rw[ab k hk] at hb
    rcases Z i' cc with ⟨k2,bq,ax,rfl⟩ | ⟨bf,ca,aj⟩
    ·rw[ab k2 bq]
     exact ao.dist k k2 b (λe=>h (by rw[e])) ac ax hb
    ·rw[ai i' bf]
     intro bd;rcases (ak b ⟨k,ac,hb⟩).2 with h1 | h1
     ·have:=(hs.blt i' b aj bd).2;omega
     ·exact ag i' b bf aj bd h1
   ·rw[ai i hm] at hb
    rcases Z i' cc with ⟨k2,bq,ax,rfl⟩ | ⟨bf,ca,aj⟩
    ·rw[ab k2 bq]
     intro bd;rcases (ak b ⟨k2,ax,bd⟩).2 with h1 | h1
     ·have:=(hs.blt i b O hb).2;omega
     ·exact ag i b hm O hb h1
    ·rw[ai i' bf]
     exact hs.dist i i' b h O aj hb
  ·have cu:S1.ghost=S.ghost:=by
    unfold AState.ghost;show (match (S.killL (zLD σ keep Y)).get GT with | .gh k=>k | _=>0)=_;rw[zY8];exact yE8 _ _
   rw[cu];exact E.wr hE _ _ _ _ _ hs.frame aw (λb hb=>⟨(D b hb).1,(D b hb).2.2⟩) (λb j hi=>an b j (hs.sub b j hi))
  ·rcases (ap b j hi).2 with h1 | h1 | h1
   ·exact(hs.old b j h1).2
   ·exact .inr (E.mineB b (d9 (E.size _ _ _ hs.frame) h1))
   ·exact .inr (D b h1).1
  ·refine(aw.block q (cU.1 hq).1 λho=>?_).trans hq
   obtain⟨o,h1,h2⟩:=(D q ho).2.2.2;rw[hq] at h1;cases h1;cases h2
  ·rcases (ap b j hi).2 with h1 | h1 | h1
   ·exact hs.cI b j h1
   ·intro hc;have:=E.csize _ _ _ hs.frame _ hc;omega
   ·exact(D b h1).2.2.1
  ·rcases Z i hi with ⟨k,hk,ac,rfl⟩ | ⟨hm,bz,O⟩
   ·rw[ab k hk] at hb
    rcases (ak b ⟨k,ac,hb⟩).2 with h1 | h1
    ·intro hc;have:=E.csize _ _ _ hs.frame _ hc;omega
    ·exact(D b h1).2.2.1
   ·rw[ai i hm] at hb;exact hs.cB i b O hb
  ·rcases Z i hi with ⟨k,hk,ac,rfl⟩ | ⟨hm,bz,O⟩
   ·rcases cx k hk with h0 | ⟨h1,h2,h3⟩
    ·rw[h0] at hu;cases hu
    ·rw[ab k hk,ay k h1 h3]
     exact hs.nm _ u hu (ba k h2).2.2.2
   ·rw[ai i hm];exact hs.nm i u hu O
 exact hk _ _ ⟨I',am,C,ch.put hn ((Holds.ren ab cz).1 ce)⟩
theorem z3L {f:FuncId} {xf:Operand} {extra:List AV} {xs:List Operand} {ats:Array TypeId} {args D:List Cap} {T K:List (Nat×Blk)} {keep:List Nat} (σ:List (Nat×Nat)) (hn:d<E.n) (al:Ren σ)
  (ag:∀A w I ρ C,SatAt E S A w I ρ C->∃O:List Value,A.eval xf= .func (.func f) #[] O.toArray/\Pw (Holds w I ρ) O extra) (H:ArgsAs σ (xs.map S.ev++extra) args) (ad:args.all (Cap.idsLt σ)=true) (ak:D.all (Cap.idsLt σ)=true) (hT:BlksAs S σ T) (ac:zDG σ T=true) (aa:zDG σ K=true)
  (ah:zQ7 S σ T) (aj:∀k,wR σ k=true->E.nm (look 0 σ k)=none\/(keep.contains k=true/\look Blk.none T k≠ .none/\look Blk.none K k≠ .none)) (hc:GC P f args T keep D K) (hE:E.wrB=true) (hG:E.gdt=uB P:=by rfl):
  jQ P r E ⟨some d,.call {callee:= .value xf,args:=xs.toArray,argTypes:=ats},ty,pos,af,g⟩ S
   (((S.killL (zLD σ keep K)).setL (renL σ K++zPD σ T K)).put d ((zP8 D).ren σ)):=zZA σ hn al ag H ad (by
  match D,ak with
  | [],_=>rfl
  | [x],hl=>
   have hx:x.idsLt σ =true:=by simpa using hl
   cases x<;>exact hx
  | x::y::zs,hl=>exact hl) hT ac aa ah aj ⟨hc.1,λw I ρ vs Y Z h3 h4=>(hc.2 w I ρ vs Y Z h3 h4).mono (by
   rintro e w' ⟨v,I',am,rfl,a1,a2,a3,a4,a5,ab,a6,a7⟩
   refine⟨v,I',am,rfl,a1,a2,a3,a4,a5,?_,a6,a7⟩
   match D,ab with
   | [],⟨ys,Y,Z⟩=>exact⟨ys,Y,Z⟩
   | [x],h=>exact Cap.holds h
   | x::y::zs,⟨ys,Y,Z⟩=>exact⟨ys,Y,Z⟩)⟩ hE hG
theorem z9G {f:FuncId} {xs:List Operand} {ats:Array TypeId} {args h:List Cap} {T H:List (Nat×Blk)} {keep:List Nat} (σ:List (Nat×Nat)) (hn:d<E.n) (ac:Ren σ)
  (D:ArgsAs σ (xs.map S.ev) args) (Y:args.all (Cap.idsLt σ)=true) (ab:h.all (Cap.idsLt σ)=true) (hT:BlksAs S σ T) (O:zDG σ T=true) (K:zDG σ H=true)
  (Z:zQ7 S σ T) (aa:∀k,wR σ k=true->E.nm (look 0 σ k)=none\/(keep.contains k=true/\look Blk.none T k≠ .none/\look Blk.none H k≠ .none)) (hc:GC P f args T keep h H) (hE:E.wrB=true) (hG:E.gdt=uB P:=by rfl):
  jQ P r E ⟨some d,.call {callee:= .value (.func f),args:=xs.toArray,argTypes:=ats},ty,pos,af,g⟩ S
   (((S.killL (zLD σ keep H)).setL (renL σ H++zPD σ T H)).put d ((zP8 h).ren σ)):=
 z3L σ hn ac (extra:=[]) (λA w I ρ C _=>⟨[],by simp[Act.eval],Pw.nil⟩) (by rw[et];exact D) Y ab hT O K Z aa hc hE hG
theorem z3M {f:FuncId} {xf:Operand} {cs:List Cap} {xs:List Operand} {ats:Array TypeId} {args D:List Cap} {T K:List (Nat×Blk)} {keep:List Nat} (σ:List (Nat×Nat)) (hn:d<E.n) (ah:Ren σ) (ag:S.ev xf= .clo f cs)
  (H:ArgsAs σ (xs.map S.ev++cs.map Cap.av) args) (Z:args.all (Cap.idsLt σ)=true) (ad:D.all (Cap.idsLt σ)=true) (hT:BlksAs S σ T) (Y:zDG σ T=true) (O:zDG σ K=true)
  (ab:zQ7 S σ T) (ac:∀k,wR σ k=true->E.nm (look 0 σ k)=none\/(keep.contains k=true/\look Blk.none T k≠ .none/\look Blk.none K k≠ .none)) (hc:GC P f args T keep D K) (hE:E.wrB=true) (hG:E.gdt=uB P:=by rfl):
  jQ P r E ⟨some d,.call {callee:= .value xf,args:=xs.toArray,argTypes:=ats},ty,pos,af,g⟩ S
   (((S.killL (zLD σ keep K)).setL (renL σ K++zPD σ T K)).put d ((zP8 D).ren σ)):=
 z3L σ hn ah (extra:=cs.map Cap.av) (λA w I ρ C hs=>by
  have h:=hs.ev xf;rw[ag] at h;obtain⟨ys,h1,h2⟩:=h;refine⟨ys,h1,by simpa using h2.1,λj x y hx hy=>?_⟩;rw[dW] at hy;obtain⟨c,hc,rfl⟩:=fa.1 hy;exact Cap.holds (h2.2 j x c hx hc)) H Z ad hT Y O ab ac hc hE hG
end
open Go.RowKit Go.M
def outK (E:Env) (e:Exit) (S2:AState):Exit->AState->Prop:=λh S'=>h=e/\zGS E S' S2
def yOE {X Y:Type} (E:Env) (T:X->AState) (y:Y) (K:Exit->AState->Prop):Stp X Y->Exit->AState->Prop
 | .next x',.normal,S=>zGS E S (T x')
 | .next _,_,_=>False
 | .done _,.normal,_=>False
 | .done h,e,S=>h=y->K e S
section
variable {P:Program} {r:Option Nat} {E:Env} {S S2:AState} {K:Exit->AState->Prop}
theorem z6W {e:Exit} (h:zGS E S S2):outK E e S2 e S:=⟨rfl,h⟩
theorem zVW {c:Code} {e:Exit} (D:Avc P r E c (outK E e S2) S) (H:K e S2):Avc P r E c K S:=λa w T=>
 gV (D a w T) λZ k w' ⟨S',O,h⟩=>by
  obtain⟨rfl,Y⟩:=O;exact⟨S2,H,Y k w' h⟩
theorem zD {c:Code} {X Y:Type} {body:X->Option (Stp X Y)} {x0:X} {y:Y} (T:X->AState) (h:zF body x0=some y) (H:zGS E S (T x0))
  (round:∀x s,body x=some s->Avc P r E c (yOE E T y K s) (T x)):Avc P r E (.loop c) K S:=by
 obtain⟨n,O⟩:=zMF.1 h;refine yET (ι:=Nat×X) (λq=>T q.2) (λq=>iter body q.1 q.2=some y) (λq=>q.1) (n,x0) O H ?_
 rintro⟨m,x⟩ k
 cases m with
 | zero=>cases k
 | succ m=>
  simp only[iter] at k;cases hb:body x with
  | none=>rw[hb] at k;cases k
  | some s=>
   rw[hb] at k;refine z2S (round x s hb) λe S' D=>?_;cases s with
   | next x'=>
    cases e with
    | normal=>exact⟨(m,x'),k,Nat.lt_succ_self m,D⟩
    | _=>exact D.elim
   | done y'=>
    have Z:y'=y:=by simpa using k
    cases e with
    | normal=>exact D.elim
    | _=>exact D Z
end
def ds (s:Str):DV:= .v (.string ⟨s.toArray⟩)
structure En (α:Type) where
 dv: α->DV
 size:Nat
 ok:∀x,okDV size (dv x)=true
def En.cells {h:Type} (e:En h) (x: h):List DV:=vN (e.dv x)
theorem zVX {size:Nat} {d:DV} (h:okDV size d=true):(vN d).length=size:=by cases d<;>simp_all [okDV,vN]
theorem En.len {h:Type} (e:En h) (x: h):(e.cells x).length=e.size:=zVX (e.ok x)
def eI:En Int:=⟨di,1,λ_=>rfl⟩
def e8:En Int:=⟨dby,1,λ_=>rfl⟩
def eB:En Bool:=⟨db,1,λ_=>rfl⟩
def eS:En Str:=⟨ds,1,λ_=>rfl⟩
def En.all {h:Type} (e:En h) (l:List h):List DV:=l.flatMap e.cells
def zI {h:Type} (e:En h) (l:List h):DV:= .sl e.size (e.all l)
def eL {h:Type} (e:En h):En (List h):=⟨zI e,1,λ_=>rfl⟩
section
variable {α:Type} (e:En α)
theorem jH (l:List α):(e.all l).length=l.length*e.size:=by
 induction l with
 | nil=>simp[En.all]
 | cons x l h=>simp only[En.all,d5,cX,dR] at h ⊢;rw[h,e.len,eG];omega
theorem zMG (l m:List α):e.all (l++m)=e.all l++e.all m:=by simp[En.all]
theorem zF5 (l:List α) (k:Nat):(e.all l).drop (k*e.size)=e.all (l.drop k):=by
 induction k generalizing l with
 | zero=>simp
 | succ k h=>
  cases l with
  | nil=>simp[En.all]
  | cons x l=>
   rw[List.drop_succ_cons,<-h l];show (e.cells x++e.all l).drop ((k+1)*e.size)=_;have:(k+1)*e.size=(e.cells x).length+k*e.size:=by rw[e.len,eG];omega
   rw[this,List.drop_length_add_append]
theorem zDN (l:List α) (k:Nat):(e.all l).take (k*e.size)=e.all (l.take k):=by
 induction k generalizing l with
 | zero=>simp[En.all]
 | succ k h=>
  cases l with
  | nil=>simp[En.all]
  | cons x l=>
   rw[List.take_succ_cons];show (e.cells x++e.all l).take ((k+1)*e.size)=e.cells x++e.all (l.take k);have:(k+1)*e.size=(e.cells x).length+k*e.size:=by rw[e.len,eG];omega
   rw[this,List.take_length_add_append,h]
theorem zOS {l:List α} {k:Nat} {x: α} (h:l[k]? =some x) (off:Nat) (K:off<e.size):(e.all l)[k*e.size+off]? =(e.cells x)[off]?:=by
 have H:(e.all l)[k*e.size+off]? =((e.all l).drop (k*e.size))[off]?:=by rw[eQ]
 rw[H,zF5];obtain⟨D,O⟩:=c8.1 h;rw[cW D,O];show (e.cells x++e.all (l.drop (k+1)))[off]? =_;rw[dY (by rw[e.len];exact K)]
theorem z0K {l:List α} {k:Nat} {x: α} (h:l[k]? =some x) (off n:Nat) (K:off+n<=e.size):((e.all l).drop (k*e.size+off)).take n=((e.cells x).drop off).take n:=by rw[<-List.drop_drop,zF5];obtain⟨D,H⟩:=c8.1 h;rw[cW D,H];show ((e.cells x++e.all (l.drop (k+1))).drop off).take n=_;rw[List.drop_append_of_le_length (by rw[e.len];omega),List.take_append_of_le_length (by simp only[eH,e.len];omega)]
theorem yJ0 {l:List α} {k:Nat} {x: α} (h:l[k]? =some x) {y: α} {off:Nat} {d:DV} (D:off<e.size) (H:(e.cells x).set off d=e.cells y):(e.all l).set (k*e.size+off) d=e.all (l.set k y):=by
 induction l generalizing k with
 | nil=>simp at h
 | cons z l K=>
  cases k with
  | zero=>
   simp at h;subst h;show (e.cells z++e.all l).set (0*e.size+off) d=e.cells y++e.all l;rw[gz,em,List.set_append_left _ _ (by rw[e.len];exact D),H]
  | succ k=>
   simp at h;show (e.cells z++e.all l).set ((k+1)*e.size+off) d=e.cells z++e.all (l.set k y);rw[<-K h];have:(k+1)*e.size+off=(e.cells z).length+(k*e.size+off):=by rw[e.len,eG];omega
   rw[this,List.set_append_right _ _ (by omega)];simp
end
theorem wY {k:Type} {l:List k} {i:Int} {v: k} (h:yD l i=some v):0<=i/\i=(i.toNat:Int)/\i.toNat<l.length/\l[i.toNat]? =some v:=by unfold yD at h;split at h;rename_i hi;exact⟨hi,by omega,(c8.1 h).1,h⟩;cases h
theorem zP9 (s:Str):(⟨s.toArray⟩:ByteArray).toList=s:=by rw[ByteArray.toList_eq]
open Go.RowKit Go.M
section
variable {P:Program} {r:Option Nat} {E:Env} {S:AState} {d:Nat} {ty:TypeId} {pos:String} {af:Array Edge} {g:Option (Nat×Bool)}
section ints
variable {k:IntKind} {x y:Operand} {a b:Int} {tx tz:TypeId} (hn:d<E.n) (hx:S.ev x= .d (.v (.int k a))) (hy:S.ev y= .d (.v (.int k b)))
include hn hx hy
theorem zZB:AOp P r E S ⟨some d,.binOp .add tx x y tz,ty,pos,af,g⟩ d (.d (.v (.int k (k.wrap (a+b))))):=
 ⟨rfl,hn,λS' h=>jI rfl hn (by simp) λA w I ρ C D=>by
  simp only[execOp,D.val ((h.ev (by simp[Op.operands])).trans hx),D.val ((h.ev (by simp[Op.operands])).trans hy)];simp[binOp,eqGuard,Op.intArith]⟩
theorem zTP:AOp P r E S ⟨some d,.binOp .sub tx x y tz,ty,pos,af,g⟩ d (.d (.v (.int k (k.wrap (a-b))))):=
 ⟨rfl,hn,λS' h=>jI rfl hn (by simp) λA w I ρ C D=>by
  simp only[execOp,D.val ((h.ev (by simp[Op.operands])).trans hx),D.val ((h.ev (by simp[Op.operands])).trans hy)];simp[binOp,eqGuard,Op.intArith]⟩
theorem yE9:AOp P r E S ⟨some d,.binOp .mul tx x y tz,ty,pos,af,g⟩ d (.d (.v (.int k (k.wrap (a*b))))):=
 ⟨rfl,hn,λS' h=>jI rfl hn (by simp) λA w I ρ C D=>by
  simp only[execOp,D.val ((h.ev (by simp[Op.operands])).trans hx),D.val ((h.ev (by simp[Op.operands])).trans hy)];simp[binOp,eqGuard,Op.intArith]⟩
theorem yM7 {c:Int} (D:zNY k.wrap a b=some c):AOp P r E S ⟨some d,.binOp .quo tx x y tz,ty,pos,af,g⟩ d (.d (.v (.int k c))):=
 ⟨rfl,hn,λS' h=>jI rfl hn (by simp) λA w I ρ C H=>by
  unfold zNY at D;split at D;cases D;rename_i hb;cases D;simp only[execOp,H.val ((h.ev (by simp[Op.operands])).trans hx),H.val ((h.ev (by simp[Op.operands])).trans hy)];simp[binOp,eqGuard,Op.intDiv,hb]⟩
theorem yM8 {c:Int} (D:zKJ a b=some c):AOp P r E S ⟨some d,.binOp .rem tx x y tz,ty,pos,af,g⟩ d (.d (.v (.int k c))):=
 ⟨rfl,hn,λS' h=>jI rfl hn (by simp) λA w I ρ C H=>by
  unfold zKJ at D;split at D;cases D;rename_i hb;cases D;simp only[execOp,H.val ((h.ev (by simp[Op.operands])).trans hx),H.val ((h.ev (by simp[Op.operands])).trans hy)];simp[binOp,eqGuard,Op.intDiv,hb]⟩
end ints
theorem yOF {k h:IntKind} {x:Operand} {a:Int} {D td:TypeId} {ds:TypeDesc} (K:d<E.n) (O:P.underlying D=some ds) (H:P.underlying td=some (.int h)) (T:S.ev x= .d (.v (.int k a))):
  AOp P r E S ⟨some d,.convert D td x,ty,pos,af,g⟩ d (.d (.v (.int h (h.wrap a)))):=z6O K O H T
section strs
variable {x y:Operand} {a b:Str} {tx tz:TypeId} (hn:d<E.n) (hx:S.ev x= .d (ds a)) (hy:S.ev y= .d (ds b))
include hn hx hy
theorem zQA:AOp P r E S ⟨some d,.binOp .eql tx x y tz,ty,pos,af,g⟩ d (.d (.v (.bool (a==b)))):=by
 have:=yN4 (P:=P) (r:=r) (ty:=ty) (pos:=pos) (af:=af) (g:=g) (tx:=tx) (tz:=tz) hn hx hy
 rwa [zP9,zP9] at this
theorem z6X:AOp P r E S ⟨some d,.binOp .neq tx x y tz,ty,pos,af,g⟩ d (.d (.v (.bool (!(a==b))))):=by
 have:=yN5 (P:=P) (r:=r) (ty:=ty) (pos:=pos) (af:=af) (g:=g) (tx:=tx) (tz:=tz) hn hx hy
 rwa [zP9,zP9] at this
theorem yFA:AOp P r E S ⟨some d,.binOp .lss tx x y tz,ty,pos,af,g⟩ d (.d (.v (.bool (Op.bytesLess a b)))):=by
 have:=yN6 (P:=P) (r:=r) (ty:=ty) (pos:=pos) (af:=af) (g:=g) (tx:=tx) (tz:=tz) hn hx hy
 rwa [zP9,zP9] at this
theorem yOG:AOp P r E S ⟨some d,.binOp .gtr tx x y tz,ty,pos,af,g⟩ d (.d (.v (.bool (!Op.bytesLess a b&& !(a==b))))):=
 ⟨rfl,hn,λS' h=>jI rfl hn (by simp) λA w I ρ C k=>by
  have D:A.eval x= .string ⟨a.toArray⟩:=k.val ((h.ev (by simp[Op.operands])).trans hx);have H:A.eval y= .string ⟨b.toArray⟩:=k.val ((h.ev (by simp[Op.operands])).trans hy);simp only[execOp,D,H];simp[binOp,eqGuard,Op.stringOp,zP9]⟩
end strs
theorem zVY {t:TypeId} {x:Operand} {s:Str} (h:d<E.n) (k:P.underlying t=some .string) (D:S.ev x= .d (ds s)):
  AOp P r E S ⟨some d,.call {callee:= .builtin .len,args:= #[x],argTypes:= #[t]},ty,pos,af,g⟩ d (.d (.v (.int .i64 s.length))):=by
 have:=yBO (P:=P) (r:=r) (ty:=ty) (pos:=pos) (af:=af) (g:=g) h k D;have e:(⟨s.toArray⟩:ByteArray).size=s.length:=by simp[ByteArray.size]
 rwa [e] at this
theorem yFB {t:TypeId} {x k:Operand} {s:Str} {kk:IntKind} {i c:Int} (T:d<E.n) (Y:P.underlying t=some .string) (Z:S.ev x= .d (ds s)) (hi:S.ev k= .d (.v (.int kk i))) (h:z3G s i=some c):
  AOp P r E S ⟨some d,.index t x k,ty,pos,af,g⟩ d (.d (.v (.int .u8 c))):=by
 unfold z3G at h;cases hb:yD s i with
 | none=>rw[hb] at h;cases h
 | some b=>
  rw[hb] at h;cases h;obtain⟨h0,H,K,O⟩:=wY hb;have e:(⟨s.toArray⟩:ByteArray).size=s.length:=by simp[ByteArray.size]
  have:=yE2 (P:=P) (r:=r) (ty:=ty) (pos:=pos) (af:=af) (g:=g) T Y Z hi H (by rw[e];exact K)
  have D:(s.toArray.toList.getD i.toNat 0)=b:=by simp[fI,O]
  simp only[D] at this;exact this
section sl
variable {α:Type} {en:En α} {t e bytes:Nat} {z:Value} {l:List α} {x:Operand}
theorem z3N (k:d<E.n) (h:SlTy P t e en.size bytes z) (D:S.ev x= .d (zI en l)):
  AOp P r E S ⟨some d,.call {callee:= .builtin .len,args:= #[x],argTypes:= #[t]},ty,pos,af,g⟩ d (.d (.v (.int .i64 l.length))):=
 yJU k h D (jH en l)
theorem yOH {id:Nat} {H:Bool} (k:d<E.n) (h:SlTy P t e en.size bytes z) (D:S.ev x= .row id) (hb:S.blk id= .row e en.size H (en.all l)):
  AOp P r E S ⟨some d,.call {callee:= .builtin .len,args:= #[x],argTypes:= #[t]},ty,pos,af,g⟩ d (.d (.v (.int .i64 l.length))):=
 yBN k h D hb (jH en l)
theorem kX {k:Operand} {O:IntKind} {i:Int} {v: α} (H:d<E.n) (D:SlTy P t e en.size bytes z) (K:S.ev x= .d (zI en l)) (hi:S.ev k= .d (.v (.int O i))) (h:yD l i=some v):
  AOp P r E S ⟨some d,.indexAddr t x k,ty,pos,af,g⟩ d (.ip (en.all l) (i.toNat*en.size)):=
 yBP H D K hi (wY h).2.1 (jH en l) (wY h).2.2.1
theorem zF6 {id:Nat} {T:Bool} {k:Operand} {O:IntKind} {i:Int} {v: α} (H:d<E.n) (D:SlTy P t e en.size bytes z) (K:S.ev x= .row id) (hb:S.blk id= .row e en.size T (en.all l)) (hi:S.ev k= .d (.v (.int O i))) (h:yD l i=some v):
  AOp P r E S ⟨some d,.indexAddr t x k,ty,pos,af,g⟩ d (.ptr id (i.toNat*en.size)):=
 z2X H D K hb hi (wY h).2.1 (jH en l) (wY h).2.2.1
theorem yA {tt:TypeId} {i:Int} {v: α} {off:Nat} {y:DV} (D:d<E.n) (k:OneTy P tt) (K:S.ev x= .ip (en.all l) (i.toNat*en.size+off)) (H:yD l i=some v) (h:(en.cells v)[off]? =some y):
  AOp P r E S ⟨some d,.load tt x,ty,pos,af,g⟩ d (.d y):=
 vC D k K (by rw[zOS en (wY H).2.2.2 off (by rw[<-en.len v];exact(c8.1 h).1)];exact h)
theorem vE {tt:TypeId} {id:Nat} {O:Bool} {i:Int} {v: α} {off:Nat} {y:DV} (D:d<E.n) (k:OneTy P tt) (K:S.ev x= .ptr id (i.toNat*en.size+off)) (hb:S.blk id= .row e en.size O (en.all l)) (H:yD l i=some v) (h:(en.cells v)[off]? =some y):
  AOp P r E S ⟨some d,.load tt x,ty,pos,af,g⟩ d (.d y):=
 z6P D k K hb (by rw[zOS en (wY H).2.2.2 off (by rw[<-en.len v];exact(c8.1 h).1)];exact h)
theorem uC {tt n:Nat} {i:Int} {v: α} {off:Nat} {es:List DV} (D:d<E.n) (h:AggTy P tt n) (O:S.ev x= .ip (en.all l) (i.toNat*en.size+off)) (K:yD l i=some v) (T:((en.cells v).drop off).take n=es) (k:es.length=n) (H:off+n<=en.size):
  AOp P r E S ⟨some d,.load tt x,ty,pos,af,g⟩ d (.d (.agg es)):=
 zFN D h O (by rw[z0K en (wY K).2.2.2 off n H];exact T) k
theorem uG {tt n:Nat} {id:Nat} {Y:Bool} {i:Int} {v: α} {off:Nat} {es:List DV} (D:d<E.n) (h:AggTy P tt n) (O:S.ev x= .ptr id (i.toNat*en.size+off)) (hb:S.blk id= .row e en.size Y (en.all l)) (K:yD l i=some v) (T:((en.cells v).drop off).take n=es) (k:es.length=n) (H:off+n<=en.size):
  AOp P r E S ⟨some d,.load tt x,ty,pos,af,g⟩ d (.d (.agg es)):=
 z2Y D h O hb (by rw[z0K en (wY K).2.2.2 off n H];exact T) k
end sl
theorem yFC {w:World} {I:Im} {ρ:Nat->Value} {v:Value} {cells:List DV} (h:Rep w I v (.pt cells)):Holds w I ρ v (.ip cells 0):=by
 cases h with
 | pt b off xs cells K D k H=>exact⟨b,off,xs,rfl,⟨K,H⟩,k,D⟩
theorem uH {s k off n:Nat} {t:TypeId} {x:Operand} {cells:List DV} (K:d<E.n) (T:FldTy P s k off n t) (hx:S.ev x= .d (.pt cells)):
  AOp P r E S ⟨some d,.fieldAddr s x k,ty,pos,af,g⟩ d (.ip cells (0+off)):=
 ⟨rfl,K,λS' Y=>z7 rfl K (by simp) λA w I ρ C hs=>by
  have h:=hs.ev x;rw[(Y.ev (by simp[Op.operands])).trans hx] at h;obtain⟨b,H,xs,hv,Z,O,D⟩:=yFC (ρ:=ρ) h;refine⟨.pointer (some ⟨b,H+(0+off),none⟩),?_,b,H,xs,rfl,Z,O,D⟩;simp only[execOp,hv,cQ,zNW T w b (H+0),fV];rfl⟩
theorem zLO {t n:Nat} {x:Operand} {cells:List DV} (H:d<E.n) (O:AggTy P t n) (hx:S.ev x= .d (.pt cells)) (Z:cells.length=n):
  AOp P r E S ⟨some d,.load t x,ty,pos,af,g⟩ d (.d (.agg cells)):=
 ⟨rfl,H,λS' T=>z7 rfl H (by simp) λA w I ρ C hs=>by
  have h:=hs.ev x;rw[(T.ev (by simp[Op.operands])).trans hx] at h;obtain⟨b,o',xs,hv,D,K,k⟩:=yFC (ρ:=ρ) h;refine⟨.agg xs.toArray,?_,.agg _ _ D.1 K D.2⟩;simp only[execOp,hv,cQ,fE];rw[zEC w O b o' xs (by rw[D.1];exact Z) (λj v Y=>(k j v Y).1)]
  rfl⟩
theorem zOT {t:TypeId} {x:Operand} {e:DV} (k:d<E.n) (h:OneTy P t) (D:S.ev x= .d (.pt [e])):
  AOp P r E S ⟨some d,.load t x,ty,pos,af,g⟩ d (.d e):=yBS k h D rfl
theorem SatAt.newPt {A:Act} {w:World} {I:Im} {ρ:Nat->Value} {C:Nat->Prop} (K:SatAt E S A w I ρ C) {e:Nat} {xs:List Value} {cells:List DV} (T:Reps w I xs cells) (h1:∀x∈xs,x.oneCell'=true):
  ∃H:Im,SatAt E S A (w.alloc (.cells xs.toArray e)) H ρ C/\Rep (w.alloc (.cells xs.toArray e)) H (.pointer (some ⟨w.heap.size,0,none⟩)) (.pt cells):=by
 have Y:∀b j,I b j->b<w.heap.size:=λb j h=>(K.old b j h).1;have hB:Below w.heap.size w (w.alloc (.cells xs.toArray e)):=⟨rfl,rfl,rfl,by simp,λk hk=>_root_.Go.heap_alloc_old w _ hk⟩
 let H:Im:=λb j=>I b j\/b=w.heap.size
 have D:∀b j,I b j->H b j:=λb j h=> .inl h;have O:=K.grow hB;refine⟨H,O.widen (B:=w.heap.size) D (λb j hi=>?_) (λi b hi hb=>(K.blt i b hi hb).2) (E.size _ _ _ K.frame) (λb hc=>E.csize _ _ _ K.frame b hc),?_⟩
 ·rcases hi with hi | rfl
  ·exact⟨by have:=Y b j hi;simp;omega,.inl hi⟩
  ·exact⟨by simp,.inr (dC _)⟩
 ·have Z:=T.mono (zFM (.cells xs.toArray e) Y) D
  refine .pt _ _ xs cells Z.1 (λj x hj=>⟨?_,.inr rfl⟩) h1 Z.2;rw[em,e9 _ _ j xs.toArray e (0,0) (gP w _)];simpa using hj
theorem zZC {k:TypeId} {x:Operand} {u:DV} {size:Nat} (K:d<E.n) (hx:S.ev x= .d u) (D:okDV size u=true):
  AOp P r E S ⟨some d,.box k x,ty,pos,af,g⟩ d (.d (.pt (vN u))):=
 ⟨rfl,K,λS' ha=>zAQ (by simp) λA w I ρ C O=>by
  have h:=O.ev x;rw[(ha.ev (by simp[Op.operands])).trans hx] at h;obtain⟨Y,Z,_⟩:=Rep.flat h D;obtain⟨T,H,hr⟩:=O.newPt (e:=k) Y Z;refine⟨.pointer (some ⟨w.heap.size,0,none⟩),_,?_,T,ρ,C,H.put K hr⟩;simp[execOp,Instr.box,newVar,newRow]⟩
structure StTy (P:Program) (t:TypeId) (places:List (Nat×Nat)) (zs:List Value):Prop where
 und:∃fields,P.underlying t=some (.struct fields)/\∀w,(fields.mapM λ(f:Field)=>do pure (f.offset,<-sizeOf f.type)).run P w= .ok places.toArray w
 zero:∀w,(zeroValue t).run P w= .ok (.agg zs.toArray) w
 one:∀x∈zs,x.oneCell'=true
def zPS (places:List (Nat×Nat)):List DV->List (Nat×DV)->Option (List DV)
 | cells,[]=>some cells
 | cells,(i,v)::rest=>match places[i]? with
  | none=>none
  | some (off,size)=>if okDV size v&&Nat.ble (off+size) cells.length then zPS places (cells.take off++vN v++cells.drop (off+size)) rest else none
theorem zQ8 {w:World} {I:Im} {places:List (Nat×Nat)}:∀(ds:List (Nat×DV)) (vs:List (Nat×Value)) (arr:Array Value) (cells h:List DV),Reps w I arr.toList cells->(∀x∈arr.toList,x.oneCell'=true)->
  Pw (λ(v:Nat×Value) (y:Nat×DV)=>v.1=y.1/\Rep w I v.2 y.2) vs ds->zPS places cells ds=some h->
  ∃k,Instr.fill (λi=>places[i]?) arr vs=some k/\Reps w I k.toList h/\∀x∈k.toList,x.oneCell'=true:=by
 intro ds
 induction ds with
 | nil=>
  intro vs arr cells h T Y K D;have:vs= []:=cP K.1;subst this;simp only[zPS,fC] at D;subst D;exact⟨arr,rfl,T,Y⟩
 | cons p ds ih=>
  intro vs arr cells h T Y K D;obtain⟨i,y⟩:=p;cases vs with
  | nil=>have:=K.1;simp at this
  | cons q vs=>
   obtain⟨i',v⟩:=q;obtain⟨hi,hv⟩:=K.2 0 (i',v) (i,y) rfl rfl;simp only at hi hv;subst hi;simp only[zPS] at D;cases H:places[i']? with
   | none=>simp[H] at D
   | some os=>
    obtain⟨off,size⟩:=os;simp only[H] at D;split at D
    ·rename_i hc
     simp only[dL] at hc;obtain⟨O,ad,ag⟩:=Rep.flat hv hc.1;have ah:off+size<=cells.length:=gZ hc.2;have ak:v.cells.size=size:=by rw[<-eN,O.1,ag]
     have ab:arr.toList.length=cells.length:=T.1;have ai:Reps w I (arr.toList.take off++v.cells.toList++arr.toList.drop (off+size)) (cells.take off++vN y++cells.drop (off+size)):=
      Pw.append (Pw.append (T.take off) O) (T.drop (off+size))
     obtain⟨k,ha,aj,Z⟩:=ih vs (arr.toList.take off++v.cells.toList++arr.toList.drop (off+size)).toArray _ h (by simpa using ai) (by
      intro x hx;simp only[eK] at hx;rcases hx with (hx | hx) | hx
      ·exact Y x (eD hx)
      ·exact ad x hx
      ·exact Y x (eP hx)) ⟨by have:=K.1;simpa using this,λj a b ha hb=>K.2 (j+1) a b (by simpa using ha) (by simpa using hb)⟩ D
     refine⟨k,?_,aj,Z⟩;rw[z2V (off:=off) (size:=size) H ak (by rw[<-eN,ab];exact ah)]
     exact ha
    ·cases D
def dvP (S:AState):List (Nat×Operand)->Option (List (Nat×DV))
 | []=>some []
 | (i,x)::r=>match S.ev x,dvP S r with
  | .d y,some ys=>some ((i,y)::ys)
  | _,_=>none
theorem zLP {A:Act} {w:World} {I:Im} {ρ:Nat->Value} {C:Nat->Prop} (D:SatAt E S A w I ρ C):∀{K:List (Nat×Operand)} {ds:List (Nat×DV)},dvP S K=some ds->
  Pw (λ(v:Nat×Value) (y:Nat×DV)=>v.1=y.1/\Rep w I v.2 y.2) (K.map λp=>(p.1,A.eval p.2)) ds
 | [],ds,h=>by simp[dvP] at h;subst h;exact Pw.nil
 | (i,x)::r,ds,h=>by
  simp only[dvP] at h;split at h
  ·rename_i y ys O k
   cases h;have H:=D.ev x;rw[O] at H;exact Pw.cons ⟨rfl,H⟩ (zLP D k)
  ·cases h
theorem zLQ {S':AState} {o:Oper} (D:Agree S S' o):∀{k:List (Nat×Operand)},(∀p∈k,p.2∈o.op.operands)->dvP S' k=dvP S k
 | [],_=>rfl
 | (i,x)::r,h=>by
  simp only[dvP];rw[D.ev (h (i,x) (by simp)),zLQ D λp H=>h p (by simp[H])]
theorem zFJ {t:TypeId} {places:List (Nat×Nat)} {zs:List Value} {H:List (Nat×Operand)} {ds:List (Nat×DV)} {cells:List DV} (Z:d<E.n) (K:StTy P t places zs) (O:dvP S H=some ds) (hf:zPS places (zs.map DV.v) ds=some cells):
  AOp P r E S ⟨some d,.build t H.toArray,ty,pos,af,g⟩ d (.d (.agg cells)):=
 ⟨rfl,Z,λS' ha=>z7 rfl Z (by simp) λA w I ρ C hs=>by
  obtain⟨D,hu,T⟩:=K.und;have k:dvP S' H=some ds:=(zLQ ha (λp T=>by simp only[Op.operands];simp;exact⟨p.1,T⟩)).trans O
  obtain⟨h,h1,Y,h3⟩:=zQ8 (places:=places) ds (H.map λp=>(p.1,A.eval p.2)) zs.toArray (zs.map DV.v) cells (by simpa using zP3 w I zs) (by simpa using K.one) (zLP hs k) hf;refine⟨.agg h,?_,by have:=Rep.agg (w:=w) (I:=I) h.toList cells Y.1 h3 Y.2;rw[Array.toArray_toList] at this;exact this⟩
  have hz:=K.zero w;simp only[execOp,Instr.build,eO,cQ,hz,cV,dJ hu,T w,Value.cells,eX,h1,dT]⟩
end
open Go.RowKit Go.M
section
variable {P:Program} {r:Option Nat} {E:Env} {S:AState} {d:Nat} {ty:TypeId} {pos:String} {af:Array Edge} {g:Option (Nat×Bool)}
variable {α:Type} {en:En α} {t e bytes:Nat} {z:Value} {l m l':List α} {x s:Operand}
theorem zQ9 (h:app l m=some l'):l'=l++m/\l.length+m.length<=LIM:=by unfold app at h;split at h;rename_i k;exact⟨(g6 h).symm,k⟩;cases h
theorem zZD (hb:bytes<=32768) (h:l.length+m.length<=LIM):(l.length+m.length)*bytes<=140737488355328:=by have k:(l.length+m.length)*bytes<=4294967296*bytes:=dU _ h;have D:4294967296*bytes<=4294967296*32768:=gN _ hb;omega
theorem yFD {id:Nat} {h:Bool} {cells:List DV} (hb:S.blk id= .row e en.size h cells) (news:List DV):(S.kill id).app id news=(S.kill id).setBlk id (.row e en.size h (cells++news)):=by unfold AState.app;rw[zJG,hb];rfl
theorem yI {id:Nat} {K:Bool} (Z:d<E.n) (T:SlTy P t e en.size bytes z) (hs:S.ev s= .row id) (hb:S.blk id= .row e en.size K (en.all l)) (hx:S.ev x= .d (zI en m)) (Y:app l m=some l') (k:0<bytes) (h:bytes<=32768)
  (O:E.wrB=true) (H:E.nm id=none):
  jQ P r E ⟨some d,.call {callee:= .builtin .append,args:= #[s,x],argTypes:= #[t,t]},ty,pos,af,g⟩ S (((S.kill id).setBlk id (.row e en.size K (en.all l'))).put d (.row id)):=by
 obtain⟨rfl,D⟩:=zQ9 Y;have:=z6Q (P:=P) (r:=r) (ty:=ty) (pos:=pos) (af:=af) (g:=g) Z T hs hb hx (jH en l) (jH en m) k (zZD h D) O H;rw[yFD hb] at this;rw[zMG];exact this
theorem z6Z {n:Int} {zero: α} (hn:d<E.n) (hT:SlTy P t e en.size bytes z) (hx:S.ev x= .d (.v (.int .i64 n))) (hz:z.cells.toList.map DV.v=en.cells zero) (D:mkM zero n=some l) (h:bytes<=32768) (H:E.nm d=none):
  jQ P r E ⟨some d,.makeSlice t x x,ty,pos,af,g⟩ S (((S.kill d).setBlk d (.row e en.size false (en.all l))).put d (.row d)):=by
 unfold mkM at D;split at D
 ·rename_i T
  cases D;have K:n=((n.toNat:Nat):Int):=by omega
  have O:n.toNat*bytes<=140737488355328:=by
   have K:n.toNat*bytes<=4294967296*bytes:=dU _ T.2;have O:4294967296*bytes<=4294967296*32768:=gN _ h;omega
  have:=zYU (P:=P) (r:=r) (ty:=ty) (pos:=pos) (af:=af) (g:=g) hn hT hx K O (by have:=T.2;unfold LIM at this;unfold maxLen;omega) H
  have Z:zKO z n.toNat=en.all (List.replicate n.toNat zero):=by
   unfold zKO;rw[hz]
   induction n.toNat with
   | zero=>rfl
   | succ k Y=>simp only[List.replicate_succ,gK,En.all,d5] at Y ⊢;rw[Y]
  rw[Z] at this;exact this
 ·cases D
theorem zOU {i:Int} {v: α} (h:zBD l i v=some l'):l'=l.set i.toNat v/\0<=i/\i.toNat<l.length:=by unfold zBD at h;split at h;rename_i k;exact⟨(g6 h).symm,k⟩;cases h
theorem uR {tt:TypeId} {y:Operand} {id off:Nat} {i:Int} {v k: α} {u:DV} (K:OneTy P tt) (hx:S.ev x= .ptr id (i.toNat*en.size+off)) (hb:S.blk id= .row e en.size false (en.all l)) (hy:S.ev y= .d u) (Z:yD l i=some v)
  (Y:(en.cells v).set off u=en.cells k) (O:off<en.size) (T:zBD l i k=some l') (D:(AV.d u).one=true) (H:E.wrB=true):
  jQ P r E ⟨none,.store tt x y,ty,pos,af,g⟩ S (S.setBlk id (.row e en.size false (en.all l'))):=by
 obtain⟨rfl,h0,h⟩:=zOU T;rw[<-yJ0 en (wY Z).2.2.2 O Y];refine zVP K hx hb ?_ hy D H;rw[jH];have:(i.toNat+1)*en.size<=l.length*en.size:=dU _ h;rw[eG] at this;omega
theorem zCM {lo hi:Int} (h:slc l lo hi=some l'):l'=(l.take hi.toNat).drop lo.toNat/\0<=lo/\lo<=hi/\hi.toNat<=l.length:=by unfold slc at h;split at h;rename_i k;exact⟨(g6 h).symm,k⟩;cases h
theorem z0L {lo hi:Operand} {H K:IntKind} {a b:Int} (Y:d<E.n) (T:SlTy P t e en.size bytes z) (Z:S.ev x= .d (zI en l)) (D:S.ev lo= .d (.v (.int H a))) (k:S.ev hi= .d (.v (.int K b))) (h:slc l a b=some l'):
  AOp P r E S ⟨some d,.slice t x (some lo) (some hi) none,ty,pos,af,g⟩ d (.d (zI en l')):=by
 obtain⟨rfl,h1,h2,O⟩:=zCM h;exact zSM Y T Z (jH en l) (l:=a.toNat) (h:=b.toNat) ⟨⟨H,a,D,by omega⟩,⟨K,b,k,by omega⟩,by omega,O⟩ (by rw[zDN,zF5])
theorem zVZ {lo:Operand} {D:IntKind} {a:Int} (K:d<E.n) (H:SlTy P t e en.size bytes z) (O:S.ev x= .d (zI en l)) (k:S.ev lo= .d (.v (.int D a))) (h:slc l a l.length=some l'):
  AOp P r E S ⟨some d,.slice t x (some lo) none none,ty,pos,af,g⟩ d (.d (zI en l')):=by
 obtain⟨rfl,T,Y,Z⟩:=zCM h;exact zSM K H O (jH en l) (l:=a.toNat) (h:=l.length) ⟨⟨D,a,k,by omega⟩,rfl,by omega,by omega⟩ (by rw[zDN,zF5];simp)
theorem zV0 {hi:Operand} {D:IntKind} {b:Int} (O:d<E.n) (K:SlTy P t e en.size bytes z) (T:S.ev x= .d (zI en l)) (k:S.ev hi= .d (.v (.int D b))) (h:slc l 0 b=some l'):
  AOp P r E S ⟨some d,.slice t x none (some hi) none,ty,pos,af,g⟩ d (.d (zI en l')):=by
 obtain⟨rfl,Y,Z,H⟩:=zCM h;exact zSM O K T (jH en l) (l:=0) (h:=b.toNat) ⟨rfl,⟨D,b,k,by omega⟩,by omega,H⟩ (by rw[zDN];simp)
def findAt {h:Type} [DecidableEq h] (a: h):List h->List MapEntry->Nat->Option (Nat×Value)
 | k::D,x::es,i=>if a=k then some (i,x.val) else findAt a D es (i+1)
 | _,_,_=>none
structure KeyTy {κ:Type} [DecidableEq κ] (P:Program) (kt:TypeId) (kv: κ->Value):Prop where
 same:∀a,Instr.sameBits 10000 (kv a) (kv a)=true
 check:∀a b w,(Instr.checkKey b 10000 kt (kv a)).run P w= .ok () w
 find:∀a (ks:List κ) (es:List MapEntry) w,Pw (λ(x:MapEntry) k=>x.key=kv k) es ks->(Instr.findKey kt (kv a) es).run P w= .ok (findAt a ks es 0) w
theorem zI1 {α k:Type} {R: α->k->Prop} {x: α} {y: k} {xs:List α} {ys:List k} (h:Pw R (x::xs) (y::ys)):R x y/\Pw R xs ys:=
 ⟨h.2 0 x y rfl rfl,by have:=h.1;simpa using this,λj a b D hb=>h.2 (j+1) a b (by simpa using D) (by simpa using hb)⟩
theorem zN0 {H:Type} [DecidableEq H] {kv: H->Value} {td:TypeDesc} (K:∀a b,Instr.sameNow td (kv a) (kv b)=some (decide (a=b))) (a: H):∀(es:List MapEntry) (D:List H) (i:Nat),Pw (λ(x:MapEntry) k=>x.key=kv k) es D->
  Instr.findNow td (kv a) es i=some (findAt a D es i)
 | [],D,i,h=>by
  cases D with
  | nil=>rfl
  | cons k D=>have:=h.1;simp at this
 | x::es,D,i,h=>by
  cases D with
  | nil=>have:=h.1;simp at this
  | cons k D=>
   obtain⟨O,T⟩:=zI1 h;simp only[Instr.findNow,O,K,findAt];by_cases e:a=k
   ·simp[e]
   ·simp only[e,dF,cY]
    exact zN0 K a es D (i+1) T
def kI (n:Int):Value:= .int .i64 n
def kS (s:Str):Value:= .string ⟨s.toArray⟩
theorem yB0 {h:TypeId} (k:P.underlying h=some (.int .i64)) (n:Nat) (a:Int) (b:Bool) (w:World):(Instr.checkKey b (n+1) h (kI a)).run P w= .ok () w:=by simp only[kI,Instr.checkKey,cQ,dJ k,cV];rfl
theorem yB1 {h:TypeId} (k:P.underlying h=some .string) (n:Nat) (a:Str) (b:Bool) (w:World):(Instr.checkKey b (n+1) h (kS a)).run P w= .ok () w:=by simp only[kS,Instr.checkKey,cQ,dJ k,cV];rfl
theorem yOI {D:TypeId} (k:P.underlying D=some (.int .i64)):KeyTy P D kI where
 same:=λa=>by simp[kI,Instr.sameBits]
 check:=λa b w=>yB0 k 9999 a b w
 find:=λa H es w h=>by
  have:=zN0 (kv:=kI) (td:= .int .i64) (λa b=>by simp only[kI,Instr.sameNow,dH];rfl) a es H 0 h
  simp only[Instr.findKey,cQ,dJ k,cV];rw[this];rfl
theorem zV1 (a b:Str):((⟨a.toArray⟩:ByteArray)==⟨b.toArray⟩)=decide (a=b):=by show (a.toArray==b.toArray)=_;rw[g7];simp
theorem yOJ {D:TypeId} (k:P.underlying D=some .string):KeyTy P D kS where
 same:=λa=>by simp only[kS,Instr.sameBits,zV1];simp
 check:=λa b w=>yB1 k 9999 a b w
 find:=λa H es w h=>by
  have:=zN0 (kv:=kS) (td:= .string) (λa b=>by simp only[kS,Instr.sameNow,zV1]) a es H 0 h;simp only[Instr.findKey,cQ,dJ k,cV];rw[this];rfl
theorem z3O {w:World} {I:Im} (vs:List Value) (h:vs.all Value.oneCell'=true):Rep w I (.agg vs.toArray) (.agg (vs.map DV.v)):=
 .agg vs _ (by simp) (λx k=>eC.1 h x k) (zP3 w I vs).2
def wK {h k:Type} (kv: h->Value) (ev:En k) (m:List (h×k)):List (Value×DV):=m.map λp=>(kv p.1,ev.dv p.2)
structure MapTy (P:Program) (t kt vt:TypeId) (zv:Value):Prop where
 und:P.underlying t=some (.map kt vt)
 zero:∀w,(zeroValue vt).run P w= .ok zv w
section
variable {κ ν:Type} [DecidableEq κ] {kv: κ->Value} {ev:En ν} {mp:List (κ×ν)} {k: κ} {kt vt:TypeId} {zv:Value} {zero: ν} {km kk:Operand} {id:Nat}
theorem zJM {w:World} {I:Im} {a: κ}:∀{m:List (κ×ν)} {es:List MapEntry} {i:Nat},Pw (λ(x:MapEntry) (y:Value×DV)=>x.key=y.1/\Rep w I x.val y.2) es (wK kv ev m)->
  (mget m a=none/\findAt a (m.map Prod.fst) es i=none)\/∃v j x,mget m a=some v/\findAt a (m.map Prod.fst) es i=some (i+j,x)/\Rep w I x (ev.dv v)/\(∃y,es[j]? =some y/\y.key=kv a/\y.val=x)/\
   ∀(u:Value) (D: ν) (f:MapEntry->MapEntry),(∀y,(f y).key=y.key\/(f y).key=kv a)->(∀y,(f y).val=u)->Rep w I u (ev.dv D)->Pw (λ(x:MapEntry) (y:Value×DV)=>x.key=y.1/\Rep w I x.val y.2) (es.modify j f) (wK kv ev (vD m a D))
 | [],es,i,h=>by left;exact⟨rfl,by cases es<;>rfl⟩
 | (k',D)::m,[],i,h=>by have:=h.1;simp[wK] at this
 | (k',D)::m,x::es,i,h=>by
  obtain⟨K,h2⟩:=zI1 h;simp only[eA,findAt,mget,vD];by_cases e:a=k'
  ·subst e
   right;refine⟨D,0,x.val,by simp,by simp,K.2,⟨x,rfl,K.1,rfl⟩,λu H f hk Z Y=>?_⟩;simp only[dH,List.modify_zero_cons];refine Pw.cons ⟨?_,by rw[Z];exact Y⟩ h2
   rcases hk x with hk | hk
   ·rw[hk];exact K.1
   ·exact hk
  ·simp only[e,cY]
   rcases zJM (a:=a) (m:=m) (es:=es) (i:=i+1) h2 with ⟨O,T⟩ | ⟨v,j,y,O,T,e3,⟨q,q1,q2,q3⟩,e4⟩
   ·left;exact⟨O,T⟩
   ·right
    refine⟨v,j+1,y,O,by rw[T];congr 2;omega,e3,⟨q,by simpa using q1,q2,q3⟩,λu H f hk Z Y=>?_⟩
    simp only[List.modify_succ_cons];exact Pw.cons K (e4 u H f hk Z Y)
theorem zV2 {m:List (κ×ν)} {a: κ} (h:mget m a=none) (v: ν):vD m a v=m++ [(a,v)]:=by
 induction m with
 | nil=>rfl
 | cons p m D=>
  obtain⟨H,K⟩:=p;simp only[mget,vD] at h ⊢;split at h;cases h;rename_i e;simp only[e,cY,D h,fH]
omit [DecidableEq κ] in
theorem zUX {w:World} {I:Im} {m:List (κ×ν)} {es:List MapEntry} (h:Pw (λ(x:MapEntry) (y:Value×DV)=>x.key=y.1/\Rep w I x.val y.2) es (wK kv ev m)):Pw (λ(x:MapEntry) k=>x.key=kv k) es (m.map Prod.fst):=by
 refine⟨by rw[h.1];simp[wK],λj x k K D=>?_⟩
 rw[dW] at D;cases H:m[j]? with
 | none=>simp[H] at D
 | some p=>
  simp[H] at D;subst D;exact(h.2 j x (kv p.1,ev.dv p.2) K (by simp[wK,H])).1
theorem zJN {w:World} {I:Im} {b h:Nat} {ents:Array MapEntry} (Y:MapTy P t kt vt zv) (T:KeyTy P kt kv) (hh:w.heap[b]? =some (.map ents h)) (Z:Pw (λ(x:MapEntry) (y:Value×DV)=>x.key=y.1/\Rep w I x.val y.2) ents.toList (wK kv ev mp)) (hz:Rep w I zv (ev.dv zero)) (ok:Bool):
  ∃v,(Instr.lookup t (.map (some b)) (kv k) ok).run P w= .ok (if ok then .tuple #[v,.bool (zDM mp k)] else v) w/\Rep w I v (ev.dv (mgetD mp k zero)):=by
 have K:=T.find k _ ents.toList w (zUX Z);have D:(getObj b).run P w= .ok (.map ents h) w:=by simp[getObj,Sem.run,hh]
 rcases zJM (a:=k) (i:=0) Z with ⟨H,O⟩ | ⟨v,j,x,H,O,e3,_,_⟩
 ·rw[O] at K
  refine⟨zv,?_,by simpa[mgetD,H] using hz⟩;simp only[Instr.lookup,cQ,dJ Y.und,cV,D,dT,T.check,K,Y.zero,zDM,H];rfl
 ·rw[O] at K
  refine⟨x,?_,by simpa[mgetD,H] using e3⟩;simp only[Instr.lookup,cQ,dJ Y.und,cV,D,dT,T.check,K,zDM,H];rfl
theorem yFE (hn:d<E.n) (hT:MapTy P t kt vt zv) (hK:KeyTy P kt kv) (hm:S.ev km= .row id) (hb:S.blk id= .map (wK kv ev mp)) (hk:S.ev kk= .d (.v (kv k))) (hz:∀w I,Rep w I zv (ev.dv zero)):
  AOp P r E S ⟨some d,.lookup t km kk false,ty,pos,af,g⟩ d (.d (ev.dv (mgetD mp k zero))):=
 ⟨rfl,hn,λS' H=>z7 rfl hn (by simp) λA w I ρ C O=>by
  have h:=O.blks id;rw[(H.blk id).trans hb] at h;obtain⟨b,ents,D,Z,_,hh,hp,_⟩:=h;have hv:=O.ev km;rw[(H.ev (by simp[Op.operands])).trans hm] at hv;have T:A.eval km= .map (some b):=Eq.trans hv Z;have K:=O.val ((H.ev (x:=kk) (by simp[Op.operands])).trans hk);have Y:=hz w I;obtain⟨v,h1,h2⟩:=zJN (w:=w) (I:=I) hT hK hh hp Y false;refine⟨v,?_,h2⟩;simp only[execOp,T,K,cQ,h1];rfl⟩
theorem zZE (hn:d<E.n) (hT:MapTy P t kt vt zv) (hK:KeyTy P kt kv) (hm:S.ev km= .row id) (hb:S.blk id= .map (wK kv ev mp)) (hk:S.ev kk= .d (.v (kv k))) (hz:∀w I,Rep w I zv (ev.dv zero)):
  AOp P r E S ⟨some d,.lookup t km kk true,ty,pos,af,g⟩ d (.tup [ev.dv (mgetD mp k zero),db (zDM mp k)]):=
 ⟨rfl,hn,λS' H=>z7 rfl hn (by simp) λA w I ρ C O=>by
  have h:=O.blks id;rw[(H.blk id).trans hb] at h;obtain⟨b,ents,D,Z,_,hh,hp,_⟩:=h;have hv:=O.ev km;rw[(H.ev (by simp[Op.operands])).trans hm] at hv;have T:A.eval km= .map (some b):=Eq.trans hv Z;have K:=O.val ((H.ev (x:=kk) (by simp[Op.operands])).trans hk);have Y:=hz w I;obtain⟨v,h1,h2⟩:=zJN (w:=w) (I:=I) hT hK hh hp Y true;refine⟨.tuple #[v,.bool (zDM mp k)],?_,[v,.bool (zDM mp k)],rfl,Pw.cons h2 (Pw.cons (.v _) Pw.nil)⟩;simp only[execOp,T,K,cQ,h1];rfl⟩
theorem yB2 (T:d<E.n) (D:E.nm d=none):jQ P r E ⟨some d,.makeMap t none,ty,pos,af,g⟩ S (((S.kill d).setBlk d (.map [])).put d (.row d)):=
 zAQ (by simp) λA w I ρ C H=>by
  have K:∀b j,I b j->b<w.heap.size:=λb j h=>(H.old b j h).1;have hb:=H.update (zJI w (.map #[] 0)) (id:=d) (u:= .map (some w.heap.size)) (x:= .map []) (by simp) (zFM _ K) (λb hb=> .inl (by simp[blockOf] at hb;omega))
   ⟨w.heap.size,#[],0,by simp[upd],E.mineB _ (E.size _ _ _ H.frame),gP w _,Pw.nil,λj O=>by have:=K _ j O;omega,.nil⟩ (.inl rfl) D
  refine⟨.map (some w.heap.size),w.alloc (.map #[] 0),?_,I,_,C,hb.put T (by simp[Holds,upd])⟩;simp only[execOp,Instr.makeMap,gv,cQ,run_newObj_alloc,cV,dT]
theorem zFO {w:World} {b D:Nat} {ents:Array MapEntry} {H:Obj} (h:w.heap[b]? =some (.map ents D)):(setObj b H).run P w= .ok () {w with heap:=w.heap.setIfInBounds b H}:=by simp[setObj,Sem.run,h]
theorem z3P {x:Operand} {v: ν} {u:DV} (hT:MapTy P t kt vt zv) (hK:KeyTy P kt kv) (hm:S.ev km= .row id) (hb:S.blk id= .map (wK kv ev mp)) (hk:S.ev kk= .d (.v (kv k))) (hx:S.ev x= .d u) (hu:u=ev.dv v) (hE:E.wrB=true):
    jQ P r E ⟨none,.mapUpdate t km kk x,ty,pos,af,g⟩ S (S.setBlk id (.map (wK kv ev (vD mp k v)))):=
  zGX rfl (by simp) λA w I ρ C hs=>by
    subst hu;have ab:=hs.blks id;rw[hb] at ab;obtain⟨b,ents,K,Z,hM,hh,hp,hI,hN⟩:=ab;have hv:=hs.ev km;rw[hm] at hv;have ah:A.eval km= .map (some b):=Eq.trans hv Z;have ad:=hs.val hk;have Y:=hs.ev x;rw[hx] at Y;have an:=(cU.1 hh).1;have hf:=hK.find k _ ents.toList w (zUX hp);have T:(getObj b).run P w= .ok (.map ents K) w:=by simp[getObj,Sem.run,hh]
    have aa:∀(H:Array MapEntry) (D:Nat),Pw (λ(x:MapEntry) (y:Value×DV)=>x.key=y.1/\Rep w I x.val y.2) H.toList (wK kv ev (vD mp k v))->Born H D->
        Sat E (S.setBlk id (.map (wK kv ev (vD mp k v)))) A {w with heap:=w.heap.setIfInBounds b (.map H D)}:=by
      intro H D ap am;have hg:w.grownBy {w with heap:=w.heap.setIfInBounds b (.map H D)} (some b):=
        ⟨rfl,rfl,rfl,by simp,λq _ hq=>dX (λe=>hq (by rw[e]))⟩
      have O:Same I w {w with heap:=w.heap.setIfInBounds b (.map H D)}:=λb' j hi=>by
        have:b'≠b:=λe=>hI j (e▸hi);exact KeepB.of (dX (λe=>this e.symm))
      refine⟨I,ρ,C,hs.modify hg (by rw[hb];simp) (by rw[Z];rfl) O ⟨b,H,D,Z,hM,by simp[an],ap.imp λ_ _ h=>⟨h.1,h.2.mono O (λ_ _ h=>h)⟩,hI,am⟩ hE⟩
    rcases zJM (a:=k) (i:=0) hp with ⟨e1,e2⟩ | ⟨v0,j,x0,e1,e2,e3,⟨q,q1,q2,q3⟩,e4⟩
    · rw[e2] at hf
      refine⟨_,?_,aa (ents.push {key:=kv k,val:=A.eval x,born:=K}) (K+1) ?_ hN.push⟩
      · simp only[execOp,ah,ad,Instr.mapUpdate,cQ,dJ hT.und,cV,T,hK.check,hf,zFO hh,dT]
      · rw[zV2 e1]
        simp only[wK,gW,iw,eA,fD];exact Pw.append hp (Pw.cons ⟨rfl,Y⟩ Pw.nil)
    · rw[e2] at hf
      have hq:ents[0+j]? =some q:=by rw[em];simpa using q1
      have ac:(Instr.keyThatStays (((ents[0+j]?).map (·.key)).getD (kv k)) (kv k)).run P w= .ok (kv k) w:=by
        rw[hq];simp only[e6,gR,q2,Instr.keyThatStays,hK.same,dH,dT]
      refine⟨_,?_,aa (ents.modify (0+j) λe=>{e with key:=kv k,val:=A.eval x}) K ?_ (hN.modify λ_=>rfl)⟩
      · simp only[execOp,ah,ad,Instr.mapUpdate,cQ,dJ hT.und,cV,T,hK.check,hf,ac,zFO hh,dT]
      · rw[em,gL]
        exact e4 (A.eval x) v _ (λ_=> .inr rfl) (λ_=>rfl) Y
end
end
open Go.RowKit Go.M
def FnC (P:Program) (c:DV) (ds k:List DV):Prop:=
 (∃f h,c= .fn f h/\zE P f (ds++h) k)\/(∃f,c= .v (.func (.func f) #[] #[])/\zE P f ds k)
section
variable {P:Program} {r:Option Nat} {E:Env} {S:AState} {d:Nat} {ty:TypeId} {pos:String} {af:Array Edge} {g:Option (Nat×Bool)}
theorem zKT {x:Operand} {xs:List Operand} {ats:Array TypeId} {c:DV} {ds rs:List DV} (hn:d<E.n) (hx:S.ev x= .d c) (T:unD (xs.map S.ev)=some ds) (D:FnC P c ds rs) (hG:E.gdt=uB P:=by rfl):
  AOp P r E S ⟨some d,.call {callee:= .value x,args:=xs.toArray,argTypes:=ats},ty,pos,af,g⟩ d (zYP rs):=by
 rcases D with ⟨f,ao,rfl,D⟩ | ⟨f,rfl,D⟩
 ·exact yJW hn hx T D hG
 ·refine⟨rfl,hn,λS' ha=>?_⟩
  have an:=(ha.ev (x:=x) (by simp[Op.operands,Call.operands])).trans hx;have Y:unD (xs.map S'.ev)=some ds:=by
   have:xs.map S'.ev=xs.map S.ev:=gt λy hy=>ha.ev (by simp[Op.operands,Call.operands,hy]);rw[this];exact T
  obtain⟨ah,ai⟩:=zJJ S' Y
  rintro A w K Q ⟨I,ρ,C,hs⟩ hk
  obtain⟨⟨fn,hf,O,k⟩,H⟩:=D;obtain⟨I1,h1,h,h3⟩:=SatAt.dvL _ hs (zCC hs xs) ah;rw[ai] at h;have hv:=hs.val an;have ag:=H w I1 (xs.map A.eval) (λb j hi=>(h.old b j hi).1) (hG▸h.gl) h3;refine⟨λf _=>trivial,?_⟩;rw[Oper.semAt_eq _ _ _ (by simp)];have ab:(execOp A.eval ⟨some d,.call {callee:= .value x,args:=xs.toArray,argTypes:=ats},ty,pos,af,g⟩).run P w= .ok (.enter f (xs.map A.eval).toArray) w:=by
   simp only[execOp,resolve,hv,Deferred.ofValue];have ak:¬fn.name= "runtime.NumGoroutine" :=by simpa using O
   have al:¬fn.body=none:=by intro e;simp[e] at k
   simp[invoke,callFunc,hf,ak,al,eO]
  rw[ab];refine⟨by simp[fen,Fence.wide],?_⟩;show CallsIn Fence.wide 0 P f _ w _;refine gG.2 (ag.mono ?_)
  rintro e w' ⟨v,I',rfl,hb,ac,Z,aa⟩
  refine hk _ _ ⟨I',ρ,C,SatAt.put ?_ hn (zNO aa)⟩;have h4:=h.grow hb;exact h4.widen ac Z (λi b hi ad=>(h.blt i b hi ad).2) (E.size _ _ _ h.frame) (λb D=>E.csize _ _ _ h.frame b D)
variable {ops:Array Oper} {o:Oper} {rest:List Oper} {J:AState->Prop} {j t:Nat} {want b c:Bool} {x:AV}
theorem jW (h:AOp P r E S o d x) (k:Sq P r E ops rest (S.put d x) J) (D:o.guard=none:=by rfl):Sq P r E ops (o::rest) S J:=yN7 (z23 D h) k
theorem daa (h:AOp P r E S o d x) (k:DA P r E ops rest (S.put d x) J) (D:o.guard=none:=by rfl):DA P r E ops (o::rest) S J:=yN8 (z23 D h) k
theorem gF {b:Bool} (h:gd false b=true):b=false:=by cases b;rfl;cases h
theorem zV3 {t:Nat} {x:DV} (h:S.dv (S.get t).un=some x):RetS P S [.tmp t] [x]:=⟨_,_,rfl,h,rfl⟩
theorem wW {a t id e:Nat} {cells:List AV} {ds:List DV} (h:(S.get a).un= .ptr id 0) (k:S.blk id= .box e cells) (D:AggTy P t cells.length) (H:S.dvL cells=some ds):RetS P S [.cell a t] [.agg ds]:=
 ⟨_,_,id,e,cells,rfl,h,k,.inr ⟨ds,D,H,rfl⟩,rfl⟩
end
open Go.RowKit Go.M
abbrev wi (n:Int):Int:=IntKind.i64.wrap n
abbrev wu (n:Int):Int:=IntKind.u64.wrap n
theorem zS {a b:Bool} (h:(a&&b)=true):a=true/\b=true:=by simpa using h
section
variable {P:Program}
theorem z0M {t n:Nat} (h:(P.info? t).map (·.size)=some n) (w:World):(sizeOf t).run P w= .ok n w:=by
 cases hi:P.info? t with
 | none=>simp[hi] at h
 | some i=>simp[hi] at h;simp[sizeOf,typeInfo,hi,h]
theorem z0N {t:Nat} {z:Value} (h:(P.info? t).bind (·.zero)=some z) (w:World):(zeroValue t).run P w= .ok z w:=by
 cases hi:P.info? t with
 | none=>simp[hi] at h
 | some i=>simp[hi] at h;simp[zeroValue,typeInfo,hi,h]
theorem FldTy.of {s k off n:Nat} {t:TypeId} {D:Array Field} (T:P.underlying s=some (.struct D)) (H:(D[k]?).map (λf=>(f.offset,f.type))=some (off,t)) (O:(P.info? t).map (·.size)=some n) (K:0<n):FldTy P s k off n t:=by
 cases h:D[k]? with
 | none=>simp[h] at H
 | some f=>simp[h] at H;exact⟨⟨D,f,T,h,H.1,H.2⟩,z0M O,K⟩
theorem zTQ (w:World):∀(k:List Field) (places:List (Nat×Nat)),k.map (λf=>(f.offset,(P.info? f.type).map (·.size)))=places.map (λp=>(p.1,some p.2))->
    (k.mapM λ(f:Field)=>(do pure (f.offset,<-sizeOf f.type):Sem (Nat×Nat))).run P w= .ok places w
  | [],places,h=>by cases places with
    | nil=>simp
    | cons p D=>simp at h
  | f::k,places,h=>by cases places with
    | nil=>simp at h
    | cons p D=>
      simp only[eA,g8,iH] at h;have H:=z0M h.1.2 w;have K:=zTQ w k D h.2;simp only[hZ,cQ,H,cV,dT,K,h.1.1]
theorem StTy.of {t:TypeId} {places:List (Nat×Nat)} {zs:List Value} {h:Array Field} (H:P.underlying t=some (.struct h)) (D:h.toList.map (λf=>(f.offset,(P.info? f.type).map (·.size)))=places.map (λp=>(p.1,some p.2)))
    (O:((P.info? t).bind (·.zero))=some (.agg zs.toArray)) (k:zs.all Value.oneCell'=true):StTy P t places zs:=by
  refine⟨⟨h,H,λw=>?_⟩,z0N O,λx K=>eC.1 k x K⟩;rw[Array.mapM_eq_mapM_toList];simp only[Sem.run_map,zTQ w _ _ D,cV]
theorem MapTy.of {t k h:TypeId} {D:Value} (H:P.underlying t=some (.map k h)) (K:(P.info? h).bind (·.zero)=some D):MapTy P t k h D:=⟨H,z0N K⟩
def NilL:List DV->List DV->Prop
 | [],[]=>True
 | a::as,b::bs=>(a=b\/(a= .v (.slice none 0 0)/\∃s,b= .sl s []))/\NilL as bs
 | _,_=>False
theorem zRA {w:World} {I:Im}:∀{vs:List Value} {as bs:List DV},NilL as bs->Reps w I vs as->Reps w I vs bs
 | vs,[],[],_,h=>h
 | vs,[],b::bs,h,_=>h.elim
 | vs,a::as,[],h,_=>h.elim
 | [],a::as,b::bs,_,k=>by have:=k.1;simp at this
 | v::vs,a::as,b::bs,h,k=>by
  obtain⟨D,H⟩:=zI1 k;refine Pw.cons ?_ (zRA h.2 H);rcases h.1 with rfl | ⟨rfl,s,rfl⟩;exact D;cases D;exact .nil _ _ _
theorem z9H {f:FuncId} {as bs k:List DV} (h:zE P f bs k) (H:NilL as bs):zE P f as k:=
 ⟨h.1,λw I vs D hG K=>h.2 w I vs D hG (zRA H K)⟩
end
open Go.RowKit Go.M
section
variable {P:Program}
structure EqFld (P:Program) (f:Field):Prop where
 name:f.name≠ "_"
 agg:∀w,(isAgg f.type).run P w= .ok false w
 und:(∃k,P.underlying f.type=some (.int k))\/P.underlying f.type=some .bool\/P.underlying f.type=some .string
theorem run_equalIn_int {t:TypeId} {k h:IntKind} (D:P.underlying t=some (.int k)) (d:Nat) (a b:Int) (w:World):(Op.equalIn (d+1) t (.int h a) (.int h b)).run P w= .ok (decide (a=b)) w:=by rw[Op.equalIn];simp only[cQ,dJ D,cV,dH,dT];rfl
theorem zSO {t:TypeId} (h:P.underlying t=some .bool) (d:Nat) (a b:Bool) (w:World):(Op.equalIn (d+1) t (.bool a) (.bool b)).run P w= .ok (decide (a=b)) w:=by rw[Op.equalIn];simp only[cQ,dJ h,cV,dT];cases a<;>cases b<;>rfl
theorem zUA {t:TypeId} (h:P.underlying t=some .string) (d:Nat) (a b:Str) (w:World):(Op.equalIn (d+1) t (.string ⟨a.toArray⟩) (.string ⟨b.toArray⟩)).run P w= .ok (decide (a=b)) w:=by rw[Op.equalIn];simp only[cQ,dJ h,cV,dT,zV1]
theorem zJO {t:TypeId} {xs:Array Value} {off:Nat} {a:Value} (h:∀w,(isAgg t).run P w= .ok false w) (k:xs[off]? =some a) (w:World):(part t xs off).run P w= .ok a w:=by simp[part,h,k]
theorem zZF {w:World} {F:Field->Option Bool×PUnit->Sem (ForInStep (Option Bool×PUnit))}:∀(k:List Field) (cs:List Bool),Pw (λ(f:Field) c=> ∀s,(F f s).run P w= .ok (if c then .yield (none,()) else .done (some false,())) w) k cs->
  (forIn k ((none,()):Option Bool×PUnit) F).run P w= .ok (if cs.all id then (none,()) else (some false,())) w
 | [],cs,h=>by cases cs with
  | nil=>simp
  | cons c cs=>have:=h.1;simp at this
 | f::k,cs,h=>by cases cs with
  | nil=>have:=h.1;simp at this
  | cons c cs=>
   obtain⟨D,H⟩:=zI1 h;have K:=zZF k cs H;rw[List.forIn_cons];simp only[cQ,D,cV];cases c with
   | false=>simp
   | true=>simpa using K
def Eqs (P:Program) (d:Nat) (xs ys:Array Value) (w:World) (h:List Field) (cs:List Bool):Prop:=
 Pw (λ(f:Field) c=>f.name≠ "_" /\(∀w,(isAgg f.type).run P w= .ok false w)/\∃a b,xs[f.offset]? =some a/\ys[f.offset]? =some b/\(Op.equalIn d f.type a b).run P w= .ok c w) h cs
theorem z0O {d:Nat} {xs ys:Array Value} {w:World}:Eqs P d xs ys w [] []:=Pw.nil
section
variable {d:Nat} {xs ys:Array Value} {w:World} {f:Field} {fs:List Field} {cs:List Bool} (hn:(f.name== "_")=false) (ho:OneTy P f.type) (hs:Eqs P (d+1) xs ys w fs cs)
include hn ho hs
theorem zOV {k h:IntKind} {a b:Int} (D:P.underlying f.type=some (.int k)) (H:xs[f.offset]? =some (.int h a)) (K:ys[f.offset]? =some (.int h b)):Eqs P (d+1) xs ys w (f::fs) (decide (a=b)::cs):=
 Pw.cons ⟨by simpa using hn,ho.agg,_,_,H,K,run_equalIn_int D d a b w⟩ hs
theorem yFF {a b:Bool} (h:P.underlying f.type=some .bool) (k:xs[f.offset]? =some (.bool a)) (D:ys[f.offset]? =some (.bool b)):Eqs P (d+1) xs ys w (f::fs) (decide (a=b)::cs):=
 Pw.cons ⟨by simpa using hn,ho.agg,_,_,k,D,zSO h d a b w⟩ hs
theorem yJ1 {a b:Str} (h:P.underlying f.type=some .string) (k:xs[f.offset]? =some (.string ⟨a.toArray⟩)) (D:ys[f.offset]? =some (.string ⟨b.toArray⟩)):Eqs P (d+1) xs ys w (f::fs) (decide (a=b)::cs):=
 Pw.cons ⟨by simpa using hn,ho.agg,_,_,k,D,zUA h d a b w⟩ hs
end
structure EqTy {α:Type} [DecidableEq α] (P:Program) (t:TypeId) (en:En α):Prop where
 eq:∀(a b: α) (va vb:Value) w I,Rep w I va (en.dv a)->Rep w I vb (en.dv b)->(∃xs ys,va= .agg xs/\vb= .agg ys)/\(Op.equal t va vb).run P w= .ok (decide (a=b)) w
 guard:∀(op:BinOp) (x y:Operand) xs ys w,(eqGuard op t x y (.agg xs) (.agg ys)).run P w= .ok () w
theorem zPT {w:World} {I:Im} {u v:Value} (h:Rep w I u (.v v)):u=v:=by cases h;rfl
theorem zOW {w:World} {I:Im} {v:Value} {vs:List Value} (h:Rep w I v (.agg (vs.map DV.v))):v= .agg vs.toArray:=by
 cases h with
 | agg xs cells T k O=>
  congr 2;apply fR;intro j;have H:xs.length=vs.length:=by simpa using T
  by_cases K:j<xs.length;have k:xs[j]? =some xs[j]:=cS K;have D:vs[j]? =some (vs[j]'(by omega)):=cS (by omega);have:=O j xs[j] (.v (vs[j]'(by omega))) k (by simp[D]);rw[k,D,zPT this];rw[fQ (by omega),fQ (by omega)]
theorem EqTy.of {H:Type} [DecidableEq H] {t:TypeId} {en:En H} {k:Array Field} {vals: H->List Value} {cs: H->H->List Bool} (hu:P.underlying t=some (.struct k)) (T:P.stoodInHeld t=false) (hg:P.eqGuardType P.depth t=false)
  (hv:∀a,en.dv a= .agg ((vals a).map DV.v)) (he:∀a b w,Eqs P (9998+1) (vals a).toArray (vals b).toArray w k.toList (cs a b)) (hc:∀a b,(cs a b).all id=decide (a=b)):EqTy P t en where
 eq:=λa b va vb w I Z h2=>by
  rw[hv] at Z h2;rw[zOW Z,zOW h2];refine⟨⟨_,_,rfl,rfl⟩,?_⟩;show (Op.equalIn (9999+1) t _ _).run P w=_;rw[Op.equalIn];simp only[cQ,dJ hu,cV];have O:(program).run P w= .ok P w:=by rfl
  simp only[O,T,cV,dQ,cY,dT];rw[<-Array.forIn_toList,<-hc a b];have D:=λF h=>zZF (P:=P) (w:=w) (F:=F) k.toList (cs a b) h;simp only[cQ];rw[D _ ⟨(he a b w).1,λj f c hf K s=>?_⟩]
  ·simp only[cV]
   cases (cs a b).all id<;>simp
  ·obtain⟨q1,q2,x,y,q3,q4,q5⟩:=(he a b w).2 j f c hf K
   simp only[q1,ne_eq,not_false_eq_true,dH,cQ,zJO q2 q3,zJO q2 q4,cV];have Y:(Op.equalIn 9999 f.type x y).run P w= .ok c w:=q5;rw[Y];cases c<;>simp
 guard:=λop x y xs ys w=>by
  have O:(program).run P w= .ok P w:=by rfl
  cases op<;>simp[eqGuard,O,hg]
variable {r:Option Nat} {E:Env} {S:AState} {d:Nat} {ty:TypeId} {pos:String} {af:Array Edge} {g:Option (Nat×Bool)}
theorem z0P {k:Type} [DecidableEq k] {en:En k} {x y:Operand} {a b: k} {tx tz:TypeId} (Z:d<E.n) (Y:EqTy P tx en) (hx:S.ev x= .d (en.dv a)) (hy:S.ev y= .d (en.dv b)):
  AOp P r E S ⟨some d,.binOp .eql tx x y tz,ty,pos,af,g⟩ d (.d (.v (.bool (decide (a=b))))):=
 ⟨rfl,Z,λS' h=>jI rfl Z (by simp) λA w I ρ C hs=>by
  have K:=hs.ev x;rw[(h.ev (by simp[Op.operands])).trans hx] at K;have O:=hs.ev y;rw[(h.ev (by simp[Op.operands])).trans hy] at O;obtain⟨⟨xs,ys,D,H⟩,T⟩:=Y.eq a b _ _ w I K O;rw[D,H] at T;have hb:binOp .eql tx (.agg xs) (.agg ys)=(do pure (.bool (<-Op.equal tx (.agg xs) (.agg ys)))):=rfl;simp only[execOp,D,H,cQ,Y.guard,cV,hb,T,dT]⟩
theorem z9I {k:Type} [DecidableEq k] {en:En k} {x y:Operand} {a b: k} {tx tz:TypeId} (Z:d<E.n) (Y:EqTy P tx en) (hx:S.ev x= .d (en.dv a)) (hy:S.ev y= .d (en.dv b)):
  AOp P r E S ⟨some d,.binOp .neq tx x y tz,ty,pos,af,g⟩ d (.d (.v (.bool (!decide (a=b))))):=
 ⟨rfl,Z,λS' h=>jI rfl Z (by simp) λA w I ρ C hs=>by
  have K:=hs.ev x;rw[(h.ev (by simp[Op.operands])).trans hx] at K;have O:=hs.ev y;rw[(h.ev (by simp[Op.operands])).trans hy] at O;obtain⟨⟨xs,ys,D,H⟩,T⟩:=Y.eq a b _ _ w I K O;rw[D,H] at T;have hb:binOp .neq tx (.agg xs) (.agg ys)=(do pure (.bool (!(<-Op.equal tx (.agg xs) (.agg ys))))):=rfl;simp only[execOp,D,H,cQ,Y.guard,cV,hb,T,dT]⟩
theorem zRB {t n:Nat} {x y:Operand} {id eb:Nat} {cells:List AV} {ds:List DV} (hT:AggTy P t n) (hx:S.ev x= .ptr id 0) (hb:S.blk id= .box eb cells) (hy:S.ev y= .d (.agg ds)) (hl:cells.length=n) (ag:ds.length=n) (hE:E.wrB=true):
  jQ P r E ⟨none,.store t x y,ty,pos,af,g⟩ S (S.setBlk id (.box eb (ds.map AV.d))):=
 zGX rfl (by simp) λA w I ρ C hs=>by
  have h:=hs.ev x;rw[hx] at h;obtain⟨b,H,hv⟩:=h;have O:=hs.blks id;rw[hb] at O;obtain⟨K,arr,D,hB,hh,an,ah,hI⟩:=O;have ad:K=b:=by rw[D] at H;simpa[blockOf] using H
  subst ad;have Z:=hs.ev y;rw[hy] at Z;have k:Rep w I (A.eval y) (.agg ds):=Z;generalize he:A.eval y=vy at k;cases k with
  | agg xs aa T h1 hr=>
   have ax:arr.size=n:=by rw[<-eN,ah.1];exact hl
   have aj:xs.length=n:=by rw[T];exact ag
   have Y:=zVO (P:=P) w hT (b:=K) (off:=0) (vs:=xs) hh (by omega) aj h1;have e1:arr.toList.take 0++xs++arr.toList.drop (0+n)=xs:=by
    rw[List.drop_eq_nil_of_le (by simp;omega)];simp
   rw[e1] at Y;refine⟨_,?_,I,ρ,C,hs.modify (zCL w K xs.toArray) (by rw[hb];simp) H (vX hI) ⟨K,xs.toArray,D,hB,iu w K arr _ eb _ hh,by simpa using h1,?_,hI⟩ hE⟩
   ·simp only[execOp,hv,he,cQ,Y]
    rfl
   ·have ai:Reps w I xs ds:=⟨T,hr⟩
    exact yOB (ρ:=ρ) (Reps.mono ai (vX hI) (λ_ _ h=>h))
end
open Go.RowKit Go.M
section
variable {P:Program} {r:Option Nat} {E:Env} {S:AState} {d:Nat} {ty:TypeId} {pos:String} {af:Array Edge} {g:Option (Nat×Bool)}
theorem yFG {a:Act} {w:World} {x y:DV} (D:d<E.n) (k:∀w I v,Rep w I v x->Rep w I v y) (h:Sat E (S.put d (.d x)) a w):Sat E (S.put d (.d y)) a w:=by
 obtain⟨I,ρ,C,h⟩:=h;refine⟨I,ρ,C,⟨λu=>?_,h.blks,h.dist,by have:=h.frame;rw[zDR _ _ D] at this ⊢;exact this,h.sub,h.old,h.size,h.defers,h.cI,h.cB,h.nm⟩⟩
 have:=h.tmps u;rw[zB1] at this ⊢;by_cases e:d=u;simp only[e,dH] at this ⊢;exact k _ _ _ this;simp only[e,cY] at this ⊢;exact this
theorem AOp.conv {o:Oper} {x y:DV} (h:AOp P r E S o d (.d x)) (O:∀w I v,Rep w I v x->Rep w I v y):AOp P r E S o d (.d y):=
 ⟨h.1,h.2.1,λS' H a w K Q Y T=>h.2.2 S' H a w K Q Y λD w' k=>T D w' (yFG h.2.1 O k)⟩
theorem z3Q {as bs:List DV} (D:NilL as bs) {w:World} {I:Im} {v:Value} (h:Rep w I v (.agg as)):Rep w I v (.agg bs):=by
 cases h with
 | agg xs cells K k H=>
  have:=zRA D (⟨K,H⟩:Reps w I xs as);exact .agg xs bs this.1 k this.2
theorem AOp.nils {o:Oper} {as bs:List DV} (h:AOp P r E S o d (.d (.agg as))) (k:NilL as bs):AOp P r E S o d (.d (.agg bs)):=h.conv λ_ _ _ D=>z3Q k D
theorem z60 {x:Operand} {i:Nat} {cs:List Cap} {c:Cap} (D:d<E.n) (Y:S.ev x= .tupc cs) (hi:cs[i]? =some c):AOp P r E S ⟨some d,.extract x i,ty,pos,af,g⟩ d c.av:=
 ⟨rfl,D,λS' K=>z7 rfl D (by simp) λA w I ρ C O=>by
  have h:=O.ev x;rw[(K.ev (by simp[Op.operands])).trans Y] at h;obtain⟨xs,T,H⟩:=h;have k:i<xs.length:=by rw[H.1];exact(c8.1 hi).1
  refine⟨xs[i],?_,Cap.holds (H.2 i _ c (cS k) hi)⟩;simp only[execOp,T];simp[Instr.extract,cS k]⟩
theorem zN1 {x:Operand} {c:List Cap} (h:d<E.n) (k:S.ev x= .tupc c):AOp P r E S ⟨some d,.move x,ty,pos,af,g⟩ d (.tupc c):=zFR h k
theorem z0Q {x:Operand} (h:d<E.n):AOp P r E S ⟨some d,.assign x,ty,pos,af,g⟩ d .top:=
 ⟨rfl,h,λS' k=>z7 rfl h (by simp) λA w I ρ C D=>⟨A.eval x,by simp[execOp],trivial⟩⟩
theorem zRC {id e size:Nat} {cells:List DV} (hb:S.blk id= .row e size false cells):zGS E S (S.setBlk id (.win e size 0 cells)):=by
 rintro a w ⟨I,ρ,C,h⟩
 have hk:=h.blks id;rw[hb] at hk;obtain⟨hp,n,xs,hl,k,h1,hr,hI⟩:=hk;have ac:S.blk id≠ .none:=by rw[hb];simp
 have key:∀i,(S.setBlk id (.win e size 0 cells)).blk i≠ .none->S.blk i≠ .none:=by
  intro i hi;rw[yQ] at hi;by_cases K:id=i;subst K;exact ac;simpa[K] using hi
 refine⟨I,ρ,C,⟨h.tmps,λi=>?_,λi i' b hn hi aa=>h.dist i i' b hn (key i hi) (key i' aa),h.frame,h.sub,h.old,h.size,h.defers,h.cI,λi b hi=>h.cB i b (key i hi),λi v D hi=>h.nm i v D (key i hi)⟩⟩;rw[yQ];by_cases K:id=i;subst K;simp only[dH];rcases k.2 with ⟨D,ab⟩ | ⟨O,Y,H,D,hB,hh,T,ao,Z,aq⟩
 subst ab;exact⟨none,0,0,xs,D,dC _,hp.1,hl,hr,h1,.inl ⟨rfl,rfl⟩⟩;refine⟨_,n,Y,xs,D,T,hp.1,hl,hr,h1,.inr ⟨O,0,H,rfl,hp.2 O (by rw[D];rfl),hh,?_,λj x hj=>?_,λj _ hj hi=>?_⟩⟩
 rw[em,Z];exact dU _ T;have:=k.cells (g:=O) (by rw[D];rfl) j x hj
 rw[zAC,e9 w O (0+j) H e (0,0) hh] at this;exact this;have:=(hI O j (by rw[D];rfl) hi).1;cases this;simp only[K,cY];exact h.blks i
end
open Go.RowKit Go.M
def zSP (S:AState) (σ:List (Nat×Nat)) (T:List (Nat×Blk)):Bool:=σ.all λp=>match look Blk.none T p.1,S.blk p.2 with
 | .none,.none=>true
 | .none,_=>false
 | _,_=>true
theorem zN2 {S:AState} {σ:List (Nat×Nat)} {T:List (Nat×Blk)} (h:zSP S σ T=true):zQ7 S σ T:=by
 intro k H D;have:=eC.1 h _ (zFS H);simp only[D] at this;cases hb:S.blk (look 0 σ k) with
 | none=>rfl
 | _=>rw[hb] at this;simp at this
theorem zV4 {σ:List (Nat×Nat)} (h:((σ.map Prod.fst).Nodup/\(σ.map Prod.snd).Nodup)):Ren σ:=⟨h.1,h.2⟩
section
variable {P:Program} {r:Option Nat} {E:Env} {S:AState} {d:Nat} {ty:TypeId} {pos:String} {af:Array Edge} {g:Option (Nat×Bool)}
theorem zCN {f:FuncId} {xs:List Operand} {ats:Array TypeId} {args h:List Cap} {T H:List (Nat×Blk)} {keep:List Nat} (σ:List (Nat×Nat)) (hc:GC P f args T keep h H) (hn:d<E.n) (ac:(σ.map Prod.fst).Nodup/\(σ.map Prod.snd).Nodup)
  (D:ArgsAs σ (xs.map S.ev) args) (Y:args.all (Cap.idsLt σ)=true) (ab:h.all (Cap.idsLt σ)=true) (hT:BlksAs S σ T) (O:zDG σ T=true) (K:zDG σ H=true)
  (Z:zSP S σ T=true) (aa:∀k,E.nm k=none) (hE:E.wrB=true) (hG:E.gdt=uB P:=by rfl):
  jQ P r E ⟨some d,.call {callee:= .value (.func f),args:=xs.toArray,argTypes:=ats},ty,pos,af,g⟩ S
   (((S.killL (zLD σ keep H)).setL (renL σ H++zPD σ T H)).put d ((zP8 h).ren σ)):=
 z9G σ hn (zV4 ac) D Y ab hT O K (zN2 Z) (λk _=> .inl (aa _)) hc hE hG
end
theorem nl0:NilL [] []:=trivial
theorem nlE {a:DV} {as bs:List DV} (h:NilL as bs):NilL (a::as) (a::bs):=⟨.inl rfl,h⟩
theorem nlN {s:Nat} {as bs:List DV} (h:NilL as bs):NilL (.v (.slice none 0 0)::as) (.sl s []::bs):=⟨.inr ⟨rfl,_,rfl⟩,h⟩
open Go.RowKit Go.M
structure ArTy (P:Program) (t:TypeId) (n es:Nat) (e:TypeId) (zs:List Value):Prop where
 und:P.underlying t=some (.array n e)
 size:∀w,(sizeOf e).run P w= .ok es w
 pos:0<es
 zero:∀w,(zeroValue t).run P w= .ok (.agg zs.toArray) w
 one:∀x∈zs,x.oneCell'=true
def arP (n es:Nat):List (Nat×Nat):=(List.range n).map λi=>(i*es,es)
theorem yJ2 {n es i:Nat} {q:Nat×Nat} (h:(arP n es)[i]? =some q):i<n/\q=(i*es,es):=by unfold arP at h;rw[dW] at h;by_cases hi:i<n;simp[hi] at h;exact⟨hi,h.symm⟩;simp[hi] at h
theorem ArTy.of {P:Program} {t e:TypeId} {n es:Nat} {zs:List Value} (H:P.underlying t=some (.array n e)) (D:(P.info? e).map (·.size)=some es) (k:0<es) (O:((P.info? t).bind (·.zero))=some (.agg zs.toArray)) (h:zs.all Value.oneCell'=true):ArTy P t n es e zs:=
 ⟨H,z0M D,k,z0N O,λx K=>eC.1 h x K⟩
theorem zV5 {f g:Nat->Option (Nat×Nat)}:∀(vs:List (Nat×Value)) (arr:Array Value),(∀p∈vs,f p.1=g p.1)->Instr.fill f arr vs=Instr.fill g arr vs
 | [],_,_=>rfl
 | (i,v)::vs,arr,h=>by
  simp only[Instr.fill];rw[h (i,v) (by simp)];cases g i with
  | none=>rfl
  | some q=>
   obtain⟨off,size⟩:=q;simp only;split;rfl;exact zV5 vs _ (λp k=>h p (by simp[k]))
theorem z3R {places:List (Nat×Nat)}:∀{ds:List (Nat×DV)} {cells k:List DV},zPS places cells ds=some k->∀p∈ds,∃q,places[p.1]? =some q
 | [],_,_,_,p,hp=>by cases hp
 | (i,v)::ds,cells,k,h,p,hp=>by
  simp only[zPS] at h;cases D:places[i]? with
  | none=>rw[D] at h;cases h
  | some q=>
   rw[D] at h;obtain⟨off,size⟩:=q;simp only at h;split at h;rcases dM.1 hp with e | hp
   rw[e];exact⟨_,D⟩;exact z3R h p hp;cases h
theorem zV6 {P:Program} {D:Type} {w:World} {F: D->Option Bool×PUnit->Sem (ForInStep (Option Bool×PUnit))}:∀(k:List D) (cs:List Bool),Pw (λ(f: D) c=> ∀s,(F f s).run P w= .ok (if c then .yield (none,()) else .done (some false,())) w) k cs->
  (forIn k ((none,()):Option Bool×PUnit) F).run P w= .ok (if cs.all id then (none,()) else (some false,())) w
 | [],cs,h=>by cases cs with
  | nil=>simp
  | cons c cs=>have:=h.1;simp at this
 | f::k,cs,h=>by cases cs with
  | nil=>have:=h.1;simp at this
  | cons c cs=>
   obtain⟨H,K⟩:=zI1 h;have O:=zV6 k cs K;rw[List.forIn_cons];simp only[cQ,H,cV];cases c with
   | false=>simp
   | true=>simpa using O
section
variable {P:Program} {r:Option Nat} {E:Env} {S:AState} {d:Nat} {ty:TypeId} {pos:String} {af:Array Edge} {g:Option (Nat×Bool)}
theorem yFH {t e:TypeId} {n es:Nat} {zs:List Value} {K:List (Nat×Operand)} {ds:List (Nat×DV)} {cells:List DV} (hn:d<E.n) (O:ArTy P t n es e zs) (T:dvP S K=some ds) (hf:zPS (arP n es) (zs.map DV.v) ds=some cells):
  AOp P r E S ⟨some d,.build t K.toArray,ty,pos,af,g⟩ d (.d (.agg cells)):=
 ⟨rfl,hn,λS' ha=>z7 rfl hn (by simp) λA w I ρ C hs=>by
  have D:dvP S' K=some ds:=(zLQ ha (λp Y=>by simp only[Op.operands];simp;exact⟨p.1,Y⟩)).trans T
  have k:=zLP hs D;obtain⟨h,h1,Z,h3⟩:=zQ8 (places:=arP n es) ds (K.map λp=>(p.1,A.eval p.2)) zs.toArray (zs.map DV.v) cells (by simpa using zP3 w I zs) (by simpa using O.one) k hf;refine⟨.agg h,?_,by have:=Rep.agg (w:=w) (I:=I) h.toList cells Z.1 h3 Z.2;rw[Array.toArray_toList] at this;exact this⟩
  have hz:=O.zero w;have hc:Instr.fill (λi=>some (i*es,es)) zs.toArray (K.map λp=>(p.1,A.eval p.2))=some h:=by
   rw[<-h1];apply zV5;intro p Y;obtain⟨j,hj,e1⟩:=fc Y;have H:j<ds.length:=by rw[<-k.1];exact hj
   have h4:=k.2 j _ _ (cS hj) (cS H);obtain⟨q,hq⟩:=z3R hf ds[j] (eF H);rw[e1] at h4;rw[h4.1,hq,(yJ2 hq).2]
  simp only[execOp,Instr.build,eO,cQ,hz,cV,dJ O.und,O.size w,Value.cells,hc,dT]⟩
theorem zN3 {α:Type} {en:En α} {l:List α} {t e:TypeId} {n:Nat} {zs:List Value} {x Z:Operand} {kk:IntKind} {i:Int} {v: α} (hn:d<E.n) (hT:ArTy P t n 1 e zs) (ho:OneTy P e) (hc:∀v,en.cells v= [en.dv v]) (hx:S.ev x= .d (.agg (en.all l))) (hl:l.length=n) (hi:S.ev Z= .d (.v (.int kk i))) (hv:yD l i=some v):
  AOp P r E S ⟨some d,.index t x Z,ty,pos,af,g⟩ d (.d (en.dv v)):=
 ⟨rfl,hn,λS' ha=>z7 rfl hn (by simp) λA w I ρ C hs=>by
  have H:=hs.ev x;rw[(ha.ev (by simp[Op.operands])).trans hx] at H;have h2:=hs.ev Z;rw[(ha.ev (by simp[Op.operands])).trans hi] at h2;have K:=zPT h2;obtain⟨q0,q1,q2,q3⟩:=wY hv;have D:en.size=1:=by rw[<-en.len v,hc];rfl
  generalize hX:A.eval x=vx at H;cases H with
  | agg xs cells Y aj hr=>
   have k:(en.all l).length=l.length:=by rw[jH,D,gE]
   have hg:(en.all l)[i.toNat]? =some (en.dv v):=by
    have:=zOS (e:=en) q3 0 (by omega);rw[D,gE,fE,hc] at this;simpa using this
   have T:i.toNat<xs.length:=by rw[Y,k];exact q2
   have h:xs[i.toNat]? =some xs[i.toNat]:=cS T;refine⟨xs[i.toNat],?_,hr i.toNat _ _ h hg⟩;have O:0<=i/\i<(n:Int):=⟨q0,by omega⟩;simp only[execOp,hX,K,Instr.index,cQ,asIntOf,dT,cV,dJ hT.und,O,iv,dH,hT.size w,gE];rw[zJO ho.agg (a:=xs[i.toNat]) (by simp[h])];rfl⟩
theorem yFI {K O:Type} {R: K->O->Prop} {xs:List K} {ys:List O} (h:Pw R xs ys) (a n:Nat):Pw R ((xs.drop a).take n) ((ys.drop a).take n):=by refine⟨by simp[h.1],λj x y k D=>?_⟩;rw[d6] at k D;by_cases H:j<n;simp only[H,dH,eQ] at k D;exact h.2 (a+j) x y k D;simp[H] at k
theorem yB3 {α:Type} {en:En α} {l:List α} {t e:TypeId} {n:Nat} {zs:List Value} {x Z:Operand} {kk:IntKind} {i:Int} {v: α} (hn:d<E.n) (hT:ArTy P t n en.size e zs) (ho:AggTy P e en.size) (hc:∀v,en.dv v= .agg (en.cells v)) (hx:S.ev x= .d (.agg (en.all l))) (hl:l.length=n) (hi:S.ev Z= .d (.v (.int kk i))) (hv:yD l i=some v):
  AOp P r E S ⟨some d,.index t x Z,ty,pos,af,g⟩ d (.d (en.dv v)):=
 ⟨rfl,hn,λS' ha=>z7 rfl hn (by simp) λA w I ρ C hs=>by
  have D:=hs.ev x;rw[(ha.ev (by simp[Op.operands])).trans hx] at D;have h2:=hs.ev Z;rw[(ha.ev (by simp[Op.operands])).trans hi] at h2;have K:=zPT h2;obtain⟨q0,q1,q2,q3⟩:=wY hv;generalize hX:A.eval x=vx at D;cases D with
  | agg xs cells Y H hr=>
   have k:((en.all l).drop (i.toNat*en.size)).take en.size=en.cells v:=by
    have:=z0K (e:=en) q3 0 en.size (by omega);rw[fE,d8,<-en.len v,List.take_length] at this;rw[<-en.len v];exact this
   have h:=yFI (R:=Rep w I) ⟨Y,hr⟩ (i.toNat*en.size) en.size;rw[k] at h;have O:(xs.toArray.extract (i.toNat*en.size) (i.toNat*en.size+en.size))=((xs.drop (i.toNat*en.size)).take en.size).toArray:=by
    rw[List.extract_toArray,List.extract_eq_take_drop];congr 2;omega
   refine⟨.agg ((xs.drop (i.toNat*en.size)).take en.size).toArray,?_,?_⟩
   ·have T:0<=i/\i<(n:Int):=⟨q0,by omega⟩
    simp only[execOp,hX,K,Instr.index,cQ,asIntOf,dT,cV,dJ hT.und,T,iv,dH,hT.size w,part,ho.agg w,O]
   ·rw[hc]
    exact .agg _ _ h.1 (λy hy=>H y (eP (eD hy))) h.2⟩
theorem yJ3 {t n h:Nat} {zs:List Value} (H:d<E.n) (O:AggTy P t n) (T:E.gdt h=some zs) (Z:zs.length=n) (K:zs.all Value.oneCell'=true):
  AOp P r E S ⟨some d,.load t (.global h),ty,pos,af,g⟩ d (.d (.agg (zs.map DV.v))):=
 ⟨rfl,H,λS' ha=>z7 rfl H (by simp) λA w I ρ C hs=>by
  have D:=hs.gl h zs T;refine⟨.agg zs.toArray,?_,.agg _ _ (by simp) (λx hx=>eC.1 K x hx) (zP3 w I zs).2⟩;have k:A.eval (.global h)= .pointer (some ⟨h,0,none⟩):=rfl;simp only[execOp,k,cQ];rw[zEC w O h 0 zs Z (λj v Y=>by rw[em];exact(D j).1.trans Y)]
  rfl⟩
theorem zMH {t e:TypeId} {n es:Nat} {zs:List Value} (h:ArTy P t n es e zs) {k:Nat} (O:k<n) (K:IntKind) (w:World) (b o:Nat):
  (Instr.indexAt t (.pointer (some ⟨b,o,none⟩)) (.int K (k:Int))).run P w= .ok (.pointer (some ⟨b,o+k*es,none⟩)) w:=by
 have D:(⟨b,o,none⟩:Addr).add (k*es)=⟨b,o+k*es,none⟩:=by
  unfold Addr.add;split
  ·rename_i e;rw[e];rfl
  ·rfl
 have H:0<=(k:Int)/\(k:Int)<(n:Int):=⟨by omega,by omega⟩;simp only[Instr.indexAt,cQ,asIntOf,dT,cV,dJ h.und,Instr.sureAddr,H,iv,dH,h.size w,Int.toNat_natCast,D]
theorem zUB {t e:TypeId} {n es id o:Nat} {zs:List Value} {x K:Operand} {kk:IntKind} {k:Nat} (Y:d<E.n) (hT:ArTy P t n es e zs) (hx:S.ev x= .ptr id o) (hi:S.ev K= .d (.v (.int kk (k:Int)))) (hk:k<n):
  AOp P r E S ⟨some d,.indexAddr t x K,ty,pos,af,g⟩ d (.ptr id (o+k*es)):=
 ⟨rfl,Y,λS' T=>z7 rfl Y (by simp) λA w I ρ C Z=>by
  have h:=Z.ev x;rw[(T.ev (by simp[Op.operands])).trans hx] at h;have O:=Z.ev K;rw[(T.ev (by simp[Op.operands])).trans hi] at O;have D:=zPT O;obtain⟨b,H,hv⟩:=h;refine⟨.pointer (some ⟨b,o+k*es,none⟩),?_,b,H,rfl⟩;simp only[execOp,hv,D,cQ,zMH hT hk kk w b o];rfl⟩
theorem yB4 {t e:TypeId} {n es:Nat} {zs:List Value} {cells:List DV} {x K:Operand} {kk:IntKind} {k:Nat} (Z:d<E.n) (hT:ArTy P t n es e zs) (hx:S.ev x= .d (.pt cells)) (hi:S.ev K= .d (.v (.int kk (k:Int)))) (hk:k<n):
  AOp P r E S ⟨some d,.indexAddr t x K,ty,pos,af,g⟩ d (.ip cells (0+k*es)):=
 ⟨rfl,Z,λS' Y=>z7 rfl Z (by simp) λA w I ρ C hs=>by
  have h:=hs.ev x;rw[(Y.ev (by simp[Op.operands])).trans hx] at h;have T:=hs.ev K;rw[(Y.ev (by simp[Op.operands])).trans hi] at T;have D:=zPT T;obtain⟨b,O,xs,hv,hr,h1,H⟩:=yFC (ρ:=ρ) h;refine⟨.pointer (some ⟨b,O+(0+k*es),none⟩),?_,b,O,xs,rfl,hr,h1,H⟩;simp only[execOp,hv,D,cQ,zMH hT hk kk w b (O+0),fV];rfl⟩
end
theorem EqTy.ofA {P:Program} {h:Type} [DecidableEq h] {t e:TypeId} {n:Nat} {zs:List Value} {en:En h} {vals: h->List Value} {cs: h->h->List Bool} (T:ArTy P t n 1 e zs) (Z:OneTy P e) (hg:P.eqGuardType P.depth t=false)
  (hv:∀a,en.dv a= .agg ((vals a).map DV.v)) (Y:∀a b w,Pw (λ(i:Nat) c=> ∃x y,(vals a)[i]? =some x/\(vals b)[i]? =some y/\(Op.equalIn (9998+1) e x y).run P w= .ok c w) (List.range n) (cs a b)) (hc:∀a b,(cs a b).all id=decide (a=b)):EqTy P t en where
 eq:=λa b va vb w I K O=>by
  rw[hv] at K O;rw[zOW K,zOW O];refine⟨⟨_,_,rfl,rfl⟩,?_⟩;show (Op.equalIn (9999+1) t _ _).run P w=_;rw[Op.equalIn];simp only[cQ,dJ T.und,cV,T.size w];rw[Std.Legacy.Range.forIn_eq_forIn_range'];have ag:List.range' 0 ((n-0+1-1)/1) 1=List.range n:=by simp[gH]
  have D:(Std.Legacy.Range.size [0:n])=n:=by simp[Std.Legacy.Range.size]
  simp only[D];rw[<-gH,<-hc a b];rw[zV6 (P:=P) (w:=w) (List.range n) (cs a b) ⟨(Y a b w).1,λj f c hf k s=>?_⟩]
  ·simp only[cV]
   cases (cs a b).all id<;>simp
  ·obtain⟨x,y,q3,q4,q5⟩:=(Y a b w).2 j f c hf k
   simp only[cQ,gE,zJO Z.agg (xs:=(vals a).toArray) (a:=x) (by simpa using q3),zJO Z.agg (xs:=(vals b).toArray) (a:=y) (by simpa using q4),cV];have H:(Op.equalIn 9999 e x y).run P w= .ok c w:=q5;rw[H];cases c<;>simp
 guard:=λop x y xs ys w=>by
  have hp:(program).run P w= .ok P w:=by rfl
  cases op<;>simp[eqGuard,hp,hg]
open Go.RowKit Go.M
theorem zTR {P:Program} {H:Type} [DecidableEq H] {O:TypeId} {kv: H->Value} {w:World} (K:∀a b,(Op.equal O (kv a) (kv b)).run P w= .ok (decide (a=b)) w) (a: H):∀(es:List MapEntry) (D:List H) (i:Nat),Pw (λ(x:MapEntry) k=>x.key=kv k) es D->
  (Instr.findAsking O (kv a) es i).run P w= .ok (findAt a D es i) w
 | [],D,i,h=>by
  cases D with
  | nil=>simp[Instr.findAsking,findAt]
  | cons k D=>have:=h.1;simp at this
 | x::es,D,i,h=>by
  cases D with
  | nil=>have:=h.1;simp at this
  | cons k D=>
   obtain⟨T,Y⟩:=zI1 h;have Z:=zTR K a es D (i+1) Y;simp only[Instr.findAsking,cQ,T,K,cV,findAt];by_cases e:a=k
   ·simp[e]
   ·simp[e,Z]
theorem z3S {td:TypeDesc} {k:Value} {es:List MapEntry} (h:∀x∈es,Instr.sameNow td k x.key=none) (i:Nat):Instr.findNow td k es i=if es= [] then some none else none:=by
 cases es with
 | nil=>rfl
 | cons x es=>simp[Instr.findNow,h x (by simp)]
theorem yFJ {P:Program} {K:Type} [DecidableEq K] {D:TypeId} {en:En K} {kv: K->Value} {vals: K->List Value} {td:TypeDesc} (hu:P.underlying D=some td) (hT:EqTy P D en) (hv:∀a,en.dv a= .agg ((vals a).map DV.v)) (H:∀a,kv a= .agg (vals a).toArray) (Y:∀a,(vals a).all Value.oneCell'=true)
  (hs:∀a,(vals a).all (λx=>Instr.sameBits 9999 x x)=true) (hc:∀a b w,(Instr.checkKey b 10000 D (kv a)).run P w= .ok () w):KeyTy P D kv where
 same:=λa=>by
  rw[H];have:∀(l:List Value),l.all (λx=>Instr.sameBits 9999 x x)=true->(l.zip l).all (λ(x,y)=>Instr.sameBits 9999 x y)=true:=by
   intro l
   induction l with
   | nil=>intro _;rfl
   | cons x l ih=>intro h;simp only[ij,dL] at h;simp only[List.zip_cons_cons,ij,dL];exact⟨h.1,ih h.2⟩
  show Instr.sameBits (9999+1) _ _=true;rw[Instr.sameBits];simp[this _ (hs a)]
 check:=hc
 find:=λa T es w h=>by
  have O:∀a b,(Op.equal D (kv a) (kv b)).run P w= .ok (decide (a=b)) w:=by
   intro a b;have ra:Rep w (λ_ _=>False) (kv a) (en.dv a):=by rw[H,hv];exact z3O _ (Y a)
   have rb:Rep w (λ_ _=>False) (kv b) (en.dv b):=by rw[H,hv];exact z3O _ (Y b)
   exact(hT.eq a b _ _ w _ ra rb).2
  have hn:=z3S (td:=td) (k:=kv a) (es:=es) (λx _=>by rw[H];cases td<;>rfl) 0
  simp only[Instr.findKey,cQ,dJ hu,cV,hn];by_cases Z:es= []
  ·subst Z
   cases T with
   | nil=>simp[findAt]
   | cons k T=>have:=h.1;simp at this
  ·simp only[Z,cY]
   exact zTR O a es T 0 h
open Go.RowKit Go.M
def DV.pure:DV->Bool
 | .v _=>true
 | .agg cs=>cs.all DV.isV
 | _=>false
theorem yFK {w w':World} {I H:Im} {v:Value} {d:DV} (h:Rep w I v d) (k:d.pure=true):Rep w' H v d:=by
 cases h with
 | v=>exact .v v
 | agg xs cells D K O=>exact .agg xs cells D K (yE4 (w:=w) (I:=I) ⟨D,O⟩ k).2
 | _=>simp[DV.pure] at k
def pc (y:DV):Cap:=if y.pure then .d y else .top
theorem z3T {w w':World} {I D:Im} {ρ:Nat->Value} {v:Value} {y:DV} (h:Rep w I v y):HoldsC w' D ρ v (pc y):=by unfold pc;by_cases k:y.pure=true;simp only[k,dH];exact yFK h k;simp only[k,cY];trivial
def yM9:List DV->AV
 | [y]=>(pc y).av
 | ys=> .tupc (ys.map pc)
theorem z3U {w w':World} {I T:Im} {ρ:Nat->Value} {v:Value}:∀{O:List DV},z2R w I v O->Holds w' T ρ v (yM9 O)
 | [],h=>by
  obtain⟨xs,H,D⟩:=h;exact⟨xs,H,by have:=D.1;simp at this;subst this;exact Pw.nil⟩
 | [y],h=>Cap.holds (z3T h)
 | x::y::zs,h=>by
  obtain⟨xs,H,D⟩:=h;refine⟨xs,H,by simpa using D.1,λj u c Y k=>?_⟩;rw[dW] at k;cases K:(x::y::zs)[j]? with
  | none=>rw[K] at k;cases k
  | some q=>rw[K] at k;cases k;exact z3T (D.2 j u q Y K)
section
variable {P:Program} {r:Option Nat} {E:Env} {S:AState} {d:Nat} {ty:TypeId} {pos:String} {af:Array Edge} {g:Option (Nat×Bool)}
theorem zKU {w:World} {I:Im} {ρ:Nat->Value} {M:Nat->Prop} {id e size k n:Nat} {cells:List DV} (h:BlkOk w I ρ M id (.win e size k cells)) (Y:cells.length=n*size):
  0<size/\∃A c xs,ρ id= .slice A n c/\n<=c/\Reps w I xs cells/\(∀x∈xs,x.oneCell'=true)/\(0<n->∃b off arr,A=some ⟨b,off,none⟩/\M b/\w.heap[b]? =some (.cells arr e (0,0))/\off+n*size<=arr.size/\(∀(j:Nat) x,xs[j]? =some x->arr[off+j]? =some x)/\(∀j,off<=j->j<off+n*size->I b j->j<off+k*size)):=by
 obtain⟨A,n',c,xs,hv,H,K,D,Z,O,T⟩:=h;obtain rfl:=zIO D Y K;refine⟨K,A,c,xs,hv,H,Z,O,λh0=>?_⟩;rcases T with ⟨_,h⟩ | h
 ·omega
 ·exact h
section win
variable {t e size bytes k n:Nat} {z:Value} {x:Operand} {id:Nat} {cells:List DV}
theorem yB5 (O:d<E.n) (Y:SlTy P t e size bytes z) (hx:S.ev x= .row id) (hb:S.blk id= .win e size k cells) (Z:cells.length=n*size):
  AOp P r E S ⟨some d,.call {callee:= .builtin .len,args:= #[x],argTypes:= #[t]},ty,pos,af,g⟩ d (.d (.v (.int .i64 n))):=
 ⟨rfl,O,λS' H=>jI rfl O (by simp) λA w I ρ C T=>by
  have h:=T.ev x;rw[(H.ev (by simp[Op.operands,Call.operands])).trans hx] at h;have hv:A.eval x= ρ id:=h;have K:=T.blks id;rw[(H.blk id).trans hb] at K;obtain⟨_,A',c,xs,D,_⟩:=zKU K Z;exact zUW w Y.und _ _ _ x A (hv.trans D) _ rfl⟩
theorem zTS {lo hi:Option Operand} {l h:Nat} (hn:d<E.n) (hT:SlTy P t e size bytes z) (hx:S.ev x= .row id) (Y:S.blk id= .win e size k cells) (hl:cells.length=n*size) (hb:Bd S n lo hi l h):
    AOp P r E S ⟨some d,.slice t x lo hi none,ty,pos,af,g⟩ d (.ws id (l*size) (h-l) false):=
  ⟨rfl,hn,λS' T=>z7 rfl hn (by simp) λA w I ρ C hs=>by
    have h1:=hs.ev x;rw[(T.ev (x:=x) (by simp[Op.operands])).trans hx] at h1;have hv:A.eval x= ρ id:=h1;have hk:=hs.blks id;rw[(T.blk id).trans Y] at hk;obtain⟨_,O,c,xs,K,H,_,_,D⟩:=zKU hk hl;obtain⟨aa,Z⟩:=(hb.agree T).vals hs;have ah:=hb.len;have ak:=hb.le;refine⟨_,?_,(if c=l then O else O.map (·.add (l*size))),c-l,rfl,by omega,(by simp),λh0=>?_⟩
    · simp only[execOp,hv,K,cQ,gv,zOR w hT.und (hT.size w) O n c l h _ _ aa Z hb.le hb.len H]
      rfl
    · obtain⟨b,off,arr,rfl,_⟩:=D (by omega)
      refine⟨b,off,n,c,K,?_⟩;rw[dN (by omega)];simp[zAC]⟩
theorem z61 (w:World) (Y:P.underlying t=some (.slice e)) (T:(sizeOf e).run P w= .ok size w) (A:Option Addr) (n c l h m:Nat) (lo:Option Value) (D H:IntKind) (O:lo=none/\l=0\/∃k,lo=some (.int k l))
    (K:l<=h) (hm:h<=m) (Z:m<=c):(Instr.sliceAt t (.slice A n c) lo (some (.int D h)) (some (.int H m))).run P w= .ok (.slice (if m=l then A else A.map (·.add (l*size))) (h-l) (m-l)) w:=by
  have hb:(Instr.sliceBounds true n c lo (some (.int D h)) (some (.int H m))).run P w= .ok (l,h,m) w:=by
    rcases O with ⟨rfl,rfl⟩ | ⟨k,rfl⟩
    · simp[Instr.sliceBounds,wG (P:=P) w H m c _ (by omega),wG (P:=P) w D h m _ (by omega)]
    · simp[Instr.sliceBounds,wG (P:=P) w H m c _ (by omega),wG (P:=P) w D h m _ (by omega),wG (P:=P) w k l h _ K]
  simp[Instr.sliceAt,Instr.slice,dJ Y,hb,T]
end win
end
open Go.RowKit Go.M
def mpD {h k:Type} (kv: h->Value) (ev:En k) (m:List (h×k)):DV:= .mp (m.map λp=>kv p.1) (m.map λp=>ev.dv p.2)
theorem yFL {w:World} {I:Im} {v:Value} {Y Z:Type} {kv: Y->Value} {ev:En Z} {m:List (Y×Z)} (h:Rep w I v (mpD kv ev m)):
  ∃b ents k,v= .map (some b)/\w.heap[b]? =some (.map ents k)/\Pw (λ(x:MapEntry) (y:Value×DV)=>x.key=y.1/\Rep w I x.val y.2) ents.toList (wK kv ev m):=by
 unfold mpD at h;generalize T:(m.map λp=>kv p.1)=ks at h;generalize K:(m.map λp=>ev.dv p.2)=vs at h;cases h with
 | mp b k ents vs hh hI hx hr hN=>
  refine⟨b,ents,k,rfl,hh,?_,λj x y O D=>?_⟩
  ·have:=congrArg List.length T;simp at this;simp[wK,this]
  ·simp only[wK,dW] at D
   cases H:m[j]? with
   | none=>rw[H] at D;cases D
   | some p=>
    rw[H] at D;cases D;refine⟨?_,hr j x _ O (by rw[<-K];simp[H])⟩
    have:=congrArg (λl=>l[j]?) T;simp only[dW,H,O,e6,fC] at this;exact this.symm
theorem yQ5 {w:World} {I:Im} {b h:Nat} {ents:Array MapEntry} {T Y:Type} {kv: T->Value} {ev:En Y} {m:List (T×Y)} (hh:w.heap[b]? =some (.map ents h)) (hI:I b 0)
    (H:Pw (λ(x:MapEntry) (y:Value×DV)=>x.key=y.1/\Rep w I x.val y.2) ents.toList (wK kv ev m)) (hN:Born ents h):Rep w I (.map (some b)) (mpD kv ev m):=by
  have hk:ents.toList.map (·.key)=m.map λp=>kv p.1:=by
    apply fR;intro j;simp only[dW];cases K:ents.toList[j]? with
    | none=>
      have O:ents.toList.length<=j:=hQ.1 K;have Z:m.length<=j:=by have:=H.1;simp only[wK,e7] at this;omega
      simp[hQ.2 Z]
    | some x=>
      have O:j<m.length:=by have:=(c8.1 K).1;have h3:=H.1;simp only[wK,e7] at h3;omega
      have k:m[j]? =some m[j]:=cS O;have:=(H.2 j x (kv m[j].1,ev.dv m[j].2) K (by simp[wK,k])).1;simp[k,this]
  unfold mpD;rw[<-hk];refine .mp b h ents _ hh hI (by have:=H.1;simpa[wK] using this) (λj x dd hj D=>?_) hN
  rw[dW] at D;cases k:m[j]? with
  | none=>rw[k] at D;cases D
  | some p=>rw[k] at D;cases D;exact(H.2 j x (kv p.1,ev.dv p.2) hj (by simp[wK,k])).2
theorem yJ4 {vals:List Value} {u:DV} (h:u= .agg (vals.map DV.v)):∀(w:World) (I:Im) v,Rep w I v u->v= .agg vals.toArray:=by
 subst h;intro w I v h;cases h with
 | agg xs cells K D O=>
  congr 2;apply fR;intro j;cases k:xs[j]? with
  | none=>
   have D:xs.length<=j:=hQ.1 k;rw[e7] at K;exact(hQ.2 (by omega)).symm
  | some x=>
   have D:j<vals.length:=by have:=(c8.1 k).1;rw[e7] at K;omega
   have H:vals[j]? =some vals[j]:=cS D;rw[H,zPT (O j x (.v vals[j]) k (by simp[H]))]
theorem yQ6 {x:Value}:∀(w:World) (I:Im) v,Rep w I v (.v x)->v=x:=λ_ _ _ h=>zPT h
section
variable {P:Program} {r:Option Nat} {E:Env} {S:AState} {d:Nat} {ty:TypeId} {pos:String} {af:Array Edge} {g:Option (Nat×Bool)}
theorem zI9 {x:Operand} {id off:Nat} (k:d<E.n) (T:S.ev x= .ptr id off):AOp P r E S ⟨some d,.nilCheck x,ty,pos,af,g⟩ d (.ptr id off):=
 ⟨rfl,k,λS' K=>z7 rfl k (by simp) λA w I ρ C O=>by
  have h:=O.ev x;rw[(K.ev (by simp[Op.operands])).trans T] at h;obtain⟨b,D,H⟩:=h;exact⟨_,by simp[execOp,H],b,D,rfl⟩⟩
theorem zHU {x:Operand} {cells:List DV} (H:d<E.n) (k:S.ev x= .d (.pt cells)):AOp P r E S ⟨some d,.nilCheck x,ty,pos,af,g⟩ d (.d (.pt cells)):=
 ⟨rfl,H,λS' O=>z7 rfl H (by simp) λA w I ρ C Z=>by
  have h:=Z.ev x;rw[(O.ev (by simp[Op.operands])).trans k] at h;have D:Rep w I (A.eval x) (.pt cells):=h;generalize hv:A.eval x=v at D;cases D with
  | pt b off xs cells k T K Y=>exact⟨_,by simp[execOp,hv],.pt b off xs cells k T K Y⟩⟩
theorem zOX {f:Nat->Option (Nat×Nat)}:∀(vs:List (Nat×Value)) (arr k:Array Value) (i:Nat) (v:Value) (off:Nat),Instr.fill f arr vs=some k->f i=some (off,1)->v.oneCell'=true->off<k.size->Instr.fill f arr (vs++ [(i,v)])=some (k.setIfInBounds off v)
 | [],arr,k,i,v,off,h,hi,H,D=>by
  simp only[Instr.fill,fC] at h;subst h;simp only[dO,Instr.fill,hi,zLM H];have:¬(off+1 > arr.size):=by omega
  simp[this]
 | (j,u)::vs,arr,k,i,v,off,h,hi,H,D=>by
  simp only[Instr.fill,fH] at h ⊢;cases K:f j with
  | none=>rw[K] at h;cases h
  | some q=>
   obtain⟨o,s⟩:=q;rw[K] at h;simp only at h ⊢;split at h;cases h;rename_i O;rw[dN O];exact zOX vs _ _ i v off h hi H D
theorem yFM {t:TypeId} {places:List (Nat×Nat)} {zs:List Value} (Y:List (Nat×Operand)) (i:Nat) (x:Operand) {ds:List (Nat×DV)} {cells:List DV} {id off:Nat} (hn:d<E.n) (hT:StTy P t places zs) (ad:dvP S Y=some ds) (hf:zPS places (zs.map DV.v) ds=some cells)
  (hx:S.ev x= .row id) (hr:zTL S (.row id)=true) (hi:places[i]? =some (off,1)) (ah:Nat.ble (off+1) cells.length=true):
  AOp P r E S ⟨some d,.build t (Y++ [(i,x)]).toArray,ty,pos,af,g⟩ d (.aggc ((cells.map Cap.d).set off (.row id))):=
 ⟨rfl,hn,λS' ha=>z7 rfl hn (by simp) λA w I ρ C hs=>by
  obtain⟨Z,hu,hp⟩:=hT.und;have T:off<cells.length:=gZ ah;have O:dvP S' Y=some ds:=(zLQ ha (λp hp=>by simp only[Op.operands];simp;exact .inl ⟨p.1,hp⟩)).trans ad
  obtain⟨k,h1,h2,h3⟩:=zQ8 (places:=places) ds (Y.map λp=>(p.1,A.eval p.2)) zs.toArray (zs.map DV.v) cells (by simpa using zP3 w I zs) (by simpa using hT.one) (zLP hs O) hf;have hv:=hs.ev x;rw[(ha.ev (x:=x) (by simp[Op.operands])).trans hx] at hv;have D:(A.eval x).oneCell'=true:=zP2 hs.blks hv rfl (λi' e=>by
   cases e;have:=zMA hr id rfl
   rwa [ha.blk])
  have al:off<k.size:=by rw[<-eN,h2.1];exact T
  have ag:=zOX (f:=λi=>places[i]?) (Y.map λp=>(p.1,A.eval p.2)) zs.toArray k i (A.eval x) off h1 hi D al;refine⟨.agg (k.toList.set off (A.eval x)).toArray,?_,_,rfl,?_,?_⟩
  ·have hz:=hT.zero w
   simp only[execOp,Instr.build,eO,cQ,hz,cV,dJ hu,hp w,Value.cells,eX,gW,eA,fD,ag,dT];congr 2;congr 1;rw[<-Array.toList_inj];simp
  ·have aj:Pw (HoldsC w I ρ) k.toList (cells.map Cap.d):=by
    refine⟨by rw[h2.1,e7],λj u c hu K=>?_⟩;rw[dW] at K;cases H:cells[j]? with
    | none=>rw[H] at K;cases K
    | some q=>rw[H] at K;cases K;exact h2.2 j u q hu H
   exact aj.set (y:=Cap.row id) hv off
  ·intro y hy
   rcases gu hy with h | h
   ·exact h3 y h
   ·rw[h];exact D⟩
theorem zV7 {k:TypeId} {x:Operand} {cs:List Cap} (hn:d<E.n) (hx:S.ev x= .aggc cs) (K:E.nm d=none):
  jQ P r E ⟨some d,.box k x,ty,pos,af,g⟩ S (((S.kill d).setBlk d (.box k ((cs.map Cap.av).map (zFL d)))).put d (.ptr d 0)):=
 zAQ (by simp) λA w I ρ C Y=>by
  have h:=Y.ev x;rw[hx] at h;obtain⟨xs,hv,T,Z⟩:=h;have O:Pw (Holds w I ρ) xs (cs.map Cap.av):=by
   refine⟨by rw[T.1,e7],λj u c hu H=>?_⟩;rw[dW] at H;cases D:cs[j]? with
   | none=>rw[D] at H;cases H
   | some q=>rw[D] at H;cases H;exact Cap.holds (T.2 j u q hu D)
  have hb:=Y.newBox (id:=d) (e:=k) (arr:=xs.toArray) (cells:=cs.map Cap.av) (by simpa using O) (by simpa using Z) K;refine⟨.pointer (some ⟨w.heap.size,0,none⟩),w.alloc (.cells xs.toArray k),?_,I,_,C,hb.put hn (show Holds _ _ _ (.pointer (some ⟨w.heap.size,0,none⟩)) (AV.ptr d 0) from ⟨w.heap.size,by simp[upd,blockOf],rfl⟩)⟩;simp only[execOp,hv,Instr.box,newVar,Value.cells];simp[newRow]
section
variable {t:TypeId} {κ ν:Type} [DecidableEq κ] {kv: κ->Value} {ev:En ν} {mp:List (κ×ν)} {k: κ} {kt vt:TypeId} {zv:Value} {zero: ν} {km kk:Operand} {id:Nat} {uk:DV}
theorem yB6 (hn:d<E.n) (hT:MapTy P t kt vt zv) (hK:KeyTy P kt kv) (hm:S.ev km= .row id) (hb:S.blk id= .map (wK kv ev mp)) (hk:S.ev kk= .d uk) (hu:∀(w:World) (I:Im) v,Rep w I v uk->v=kv k) (hz:∀w I,Rep w I zv (ev.dv zero)):
  AOp P r E S ⟨some d,.lookup t km kk false,ty,pos,af,g⟩ d (.d (ev.dv (mgetD mp k zero))):=
 ⟨rfl,hn,λS' K=>z7 rfl hn (by simp) λA w I ρ C T=>by
  have h:=T.blks id;rw[(K.blk id).trans hb] at h;obtain⟨b,ents,H,aa,_,hh,hp,_⟩:=h;have hv:=T.ev km;rw[(K.ev (by simp[Op.operands])).trans hm] at hv;have Y:A.eval km= .map (some b):=Eq.trans hv aa;have D:=T.ev kk;rw[(K.ev (x:=kk) (by simp[Op.operands])).trans hk] at D;have O:=hu _ _ _ D;have Z:=hz w I;obtain⟨v,h1,h2⟩:=zJN (w:=w) (I:=I) hT hK hh hp Z false;refine⟨v,?_,h2⟩;simp only[execOp,Y,O,cQ,h1];rfl⟩
theorem zZG (Y:d<E.n) (hT:MapTy P t kt vt zv) (hK:KeyTy P kt kv) (hm:S.ev km= .d (mpD kv ev mp)) (hk:S.ev kk= .d uk) (hu:∀(w:World) (I:Im) v,Rep w I v uk->v=kv k) (hz:∀w I,Rep w I zv (ev.dv zero)):
  AOp P r E S ⟨some d,.lookup t km kk false,ty,pos,af,g⟩ d (.d (ev.dv (mgetD mp k zero))):=
 ⟨rfl,Y,λS' T=>z7 rfl Y (by simp) λA w I ρ C Z=>by
  have hv:=Z.ev km;rw[(T.ev (by simp[Op.operands])).trans hm] at hv;obtain⟨b,ents,D,K,hh,hp⟩:=yFL hv;have h:=Z.ev kk;rw[(T.ev (x:=kk) (by simp[Op.operands])).trans hk] at h;have H:=hu _ _ _ h;have O:=hz w I;obtain⟨v,h1,h2⟩:=zJN (w:=w) (I:=I) hT hK hh hp O false;refine⟨v,?_,h2⟩;simp only[execOp,K,H,cQ,h1];rfl⟩
theorem z62 (Y:d<E.n) (hT:MapTy P t kt vt zv) (hK:KeyTy P kt kv) (hm:S.ev km= .d (mpD kv ev mp)) (hk:S.ev kk= .d uk) (hu:∀(w:World) (I:Im) v,Rep w I v uk->v=kv k) (hz:∀w I,Rep w I zv (ev.dv zero)):
  AOp P r E S ⟨some d,.lookup t km kk true,ty,pos,af,g⟩ d (.tup [ev.dv (mgetD mp k zero),db (zDM mp k)]):=
 ⟨rfl,Y,λS' T=>z7 rfl Y (by simp) λA w I ρ C Z=>by
  have hv:=Z.ev km;rw[(T.ev (by simp[Op.operands])).trans hm] at hv;obtain⟨b,ents,D,K,hh,hp⟩:=yFL hv;have h:=Z.ev kk;rw[(T.ev (x:=kk) (by simp[Op.operands])).trans hk] at h;have H:=hu _ _ _ h;have O:=hz w I;obtain⟨v,h1,h2⟩:=zJN (w:=w) (I:=I) hT hK hh hp O true;refine⟨.tuple #[v,.bool (zDM mp k)],?_,[v,.bool (zDM mp k)],rfl,Pw.cons h2 (Pw.cons (.v _) Pw.nil)⟩;simp only[execOp,K,H,cQ,h1];rfl⟩
theorem zRD {x:Operand} {v: ν} {u:DV} (hT:MapTy P t kt vt zv) (hK:KeyTy P kt kv) (hm:S.ev km= .row id) (hb:S.blk id= .map (wK kv ev mp)) (hk:S.ev kk= .d uk) (ao:∀(w:World) (I:Im) v,Rep w I v uk->v=kv k) (hx:S.ev x= .d u) (hu:u=ev.dv v) (hE:E.wrB=true):
    jQ P r E ⟨none,.mapUpdate t km kk x,ty,pos,af,g⟩ S (S.setBlk id (.map (wK kv ev (vD mp k v)))):=
  zGX rfl (by simp) λA w I ρ C hs=>by
    subst hu;have ab:=hs.blks id;rw[hb] at ab;obtain⟨b,ents,K,Z,hM,hh,hp,hI,hN⟩:=ab;have hv:=hs.ev km;rw[hm] at hv;have ai:A.eval km= .map (some b):=Eq.trans hv Z;have ad:=hs.ev kk;rw[hk] at ad;have ag:=ao _ _ _ ad;have Y:=hs.ev x;rw[hx] at Y;have ap:=(cU.1 hh).1;have hf:=hK.find k _ ents.toList w (zUX hp);have T:(getObj b).run P w= .ok (.map ents K) w:=by simp[getObj,Sem.run,hh]
    have aa:∀(H:Array MapEntry) (D:Nat),Pw (λ(x:MapEntry) (y:Value×DV)=>x.key=y.1/\Rep w I x.val y.2) H.toList (wK kv ev (vD mp k v))->Born H D->
        Sat E (S.setBlk id (.map (wK kv ev (vD mp k v)))) A {w with heap:=w.heap.setIfInBounds b (.map H D)}:=by
      intro H D ar an;have hg:w.grownBy {w with heap:=w.heap.setIfInBounds b (.map H D)} (some b):=
        ⟨rfl,rfl,rfl,by simp,λq _ hq=>dX (λe=>hq (by rw[e]))⟩
      have O:Same I w {w with heap:=w.heap.setIfInBounds b (.map H D)}:=λb' j hi=>by
        have:b'≠b:=λe=>hI j (e▸hi);exact KeepB.of (dX (λe=>this e.symm))
      refine⟨I,ρ,C,hs.modify hg (by rw[hb];simp) (by rw[Z];rfl) O ⟨b,H,D,Z,hM,by simp[ap],ar.imp λ_ _ h=>⟨h.1,h.2.mono O (λ_ _ h=>h)⟩,hI,an⟩ hE⟩
    rcases zJM (a:=k) (i:=0) hp with ⟨e1,e2⟩ | ⟨v0,j,x0,e1,e2,e3,⟨q,q1,q2,q3⟩,e4⟩
    · rw[e2] at hf
      refine⟨_,?_,aa (ents.push {key:=kv k,val:=A.eval x,born:=K}) (K+1) ?_ hN.push⟩
      · simp only[execOp,ai,ag,Instr.mapUpdate,cQ,dJ hT.und,cV,T,hK.check,hf,zFO hh,dT]
      · rw[zV2 e1]
        simp only[wK,gW,iw,eA,fD];exact Pw.append hp (Pw.cons ⟨rfl,Y⟩ Pw.nil)
    · rw[e2] at hf
      have hq:ents[0+j]? =some q:=by rw[em];simpa using q1
      have ac:(Instr.keyThatStays (((ents[0+j]?).map (·.key)).getD (kv k)) (kv k)).run P w= .ok (kv k) w:=by
        rw[hq];simp only[e6,gR,q2,Instr.keyThatStays,hK.same,dH,dT]
      refine⟨_,?_,aa (ents.modify (0+j) λe=>{e with key:=kv k,val:=A.eval x}) K ?_ (hN.modify λ_=>rfl)⟩
      · simp only[execOp,ai,ag,Instr.mapUpdate,cQ,dJ hT.und,cV,T,hK.check,hf,ac,zFO hh,dT]
      · rw[em,gL]
        exact e4 (A.eval x) v _ (λ_=> .inr rfl) (λ_=>rfl) Y
end
theorem SatAt.giveUp {a:Act} {w:World} {I:Im} {ρ:Nat->Value} {C:Nat->Prop} (h:SatAt E S a w I ρ C) {id b:Nat} (K:S.blk id≠ .none) (H:blockOf (ρ id)=some b):
  SatAt E (S.setBlk id .none) a w (λk j=>I k j\/k=b) ρ C:=by
 have T:=h.blt id b K H;have D:∀k j,I k j->(λk (j:Nat)=>I k j\/k=b) k j:=λ_ _ h=> .inl h;have key:∀i,(S.setBlk id .none).blk i≠ .none->S.blk i≠ .none/\i≠id:=by
  intro i hi;rw[yQ] at hi;by_cases e:id=i
  ·subst e;simp at hi
  ·simp only[e,cY] at hi;exact⟨hi,λe'=>e e'.symm⟩
 refine⟨λu=>(h.tmps u).mono (k6 I w) D,λi=>?_,λi i' k aa hi Z=>h.dist i i' k aa (key i hi).1 (key i' Z).1,h.frame,λb j hi=>D b j (h.sub b j hi),λk j hi=>?_,h.size,h.defers,λk j hi=>?_,λi k hi Y=>h.cB i k (key i hi).1 Y,λi v hv hi=>h.nm i v hv (key i hi).1⟩
 ·by_cases e:id=i
  ·subst e;rw[yQ];simp only[dH];trivial
  ·rw[yQ,dN e]
   refine(h.blks i).widenI D λb2 j hx O hi=>?_;rcases hi with hi | hi
   ·exact hi
   ·subst hi;exact absurd O (h.dist id i b2 e K hx H)
 ·rcases hi with hi | hi
  ·exact h.old k j hi
  ·subst hi;exact⟨T.2,.inr T.1⟩
 ·rcases hi with hi | hi
  ·exact h.cI k j hi
  ·subst hi;exact h.cB id k K H
theorem zMI {κ ν:Type} {kv: κ->Value} {ev:En ν} {m:List (κ×ν)} {bid eb off k:Nat} {cells:List AV} (hb:S.blk bid= .box eb cells) (hc:cells[off]? =some (.row k)) (H:S.blk k= .map (wK kv ev m)):
  zGS E S ((S.setBlk k .none).setBlk bid (.box eb (cells.set off (.d (mpD kv ev m))))):=by
 rintro a w ⟨I,ρ,C,h⟩
 have O:k≠bid:=by rintro rfl;rw[hb] at H;cases H
 have Z:=h.blks k;rw[H] at Z;obtain⟨b,ents,K,D,hM,hh,hp,hI,hN⟩:=Z;have h2:=h.giveUp (id:=k) (b:=b) (by rw[H];simp) (by rw[D];rfl)
 refine⟨_,ρ,C,h2.rebox (eb:=eb) (cells:=cells) (by rw[yQ,dN O];exact hb) λxs hx=>hx.set_right hc λx T=>?_⟩
 have Y:x= ρ k:=T;rw[Y,D];exact yQ5 hh (.inr rfl) (hp.imp λ_ _ q=>⟨q.1,q.2.mono (k6 I w) λ_ _ h=> .inl h⟩) hN
end
end Go.AV


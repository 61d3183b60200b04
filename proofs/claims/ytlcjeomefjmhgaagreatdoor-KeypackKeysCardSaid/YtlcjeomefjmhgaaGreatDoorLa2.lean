/- The layer of abstract values: what a temporary holds, said once; every rule of it is proved from the model. Conditions: none. -/
import Derived.Test.YtlcjeomefjmhgaaGreatDoorLa1
set_option linter.unusedSimpArgs false
set_option linter.unusedVariables false
set_option linter.unnecessarySimpa false
namespace Go.AV
open Go.RowKit
structure Kept (C:Nat→Prop) (w w':World):Prop where
 size:w.heap.size≤w'.heap.size
 blk:∀b,b<w.heap.size→¬C b→w'.heap[b]? =w.heap[b]?
def z00 (P:Program) (l:Nat) (ys:List Value) (w:World) (b:Bool) (R:World→Prop):Prop:=
 ∃k tmps h body,(Instr.yield l ys.toArray).run P w= .ok (.round l k tmps h body) w∧
  RoundIn Fence.wide 0 P l k tmps h body w fun e w'=>e= .returned (.bool b)∧R w'
def z34 (P:Program) (E:Env) (l:Nat) (xs:List (List DV)) (G:Nat→Bool:=fun _=>true):Prop:=
 ∀k C w (I:Im) ys x,xs[k]? =some x→E.fr k C w→(∀b j,I b j→b<w.heap.size∧¬C b∧(E.I0 b j∨E.mine b))→Reps w I ys x→
  z00 P l ys w (G k) fun z=> ∃h,E.fr (k+1) h z∧Kept C w z∧∀b,h b→C b∨w.heap.size≤b
section
variable {P:Program} {r:Option Nat} {E:Env} {S:AState} {d:Nat} {ty:TypeId} {pos:String} {af:Array Edge} {g:Option (Nat×Bool)}
theorem SatAt.kept {a:Act} {w w':World} {I:Im} {ρ:Nat→Value} {C O:Nat→Prop} {k:Nat} (h:SatAt E S a w I ρ C) (Y:Kept C w w') (hC:∀b,O b→C b∨w.heap.size≤b) (aa:E.fr k O w'):
  SatAt E (S.put GT (.gh k)) a w' I ρ O:=by
 have hs:Same I w w':=fun b j hi=>KeepB.of (Y.blk b (h.old b j hi).1 (h.cI b j hi));have z:∀b,b<w.heap.size→¬C b→¬O b:=fun b hb hc Z=>by rcases hC b Z with T | T;exact hc T;omega
 have ab:(S.put GT (.gh k)).ghost=k:=by unfold AState.ghost;rw[vX];simp
 refine⟨fun t=>?_,fun i=>?_,h.dist,by rw[ab];exact aa,h.sub,fun b j hi=>⟨Nat.lt_of_lt_of_le (h.old b j hi).1 Y.size,(h.old b j hi).2⟩,h.size,?_,fun b j hi=>z b (h.old b j hi).1 (h.cI b j hi),fun i b hi hb=>z b (h.blt i b hi hb).2 (h.cB i b hi hb),h.nm⟩
 ·rw[vX]
  by_cases e:GT=t
  ·simp only[e,if_true];trivial
  ·simp only[e,if_false];exact(h.tmps t).mono hs (fun _ _ h=>h)
 ·show BlkOk w' I ρ E.mine i (S.blk i)
  cases hx:S.blk i with
  | none=>trivial
  | _=>
   rw[←hx];have H:S.blk i≠ .none:=by rw[hx];simp
   exact(h.blks i).mono hs (fun b hb=>Y.blk b (h.blt i b H hb).2 (h.cB i b H hb))
 ·refine⟨fun dd hd=>?_,h.defers.dist,h.defers.wr⟩
  obtain⟨q,T,h2,h3,h4⟩:=h.defers.each dd hd;have G:=(Array.getElem?_eq_some_iff.1 h4).1;exact⟨q,T,h2,z q G h3,(Y.blk q G h3).trans h4⟩
theorem zYB {go:Nat→Bool} {l k:Nat} {x:Operand} {args:List Operand} {ats:Array TypeId} {xs:List (List DV)} {it:List DV} (hn:d<E.n) (hE:z34 P E l xs go) (hx:S.ev x= .d (.v (.func (.yield l) #[] #[]))) (ad:unD (args.map S.ev)=some it)
  (hk:S.ghost=k) (ag:xs[k]? =some it):
  k4 P r E ⟨some d,.call {callee:= .value x,args:=args.toArray,argTypes:=ats},ty,pos,af,g⟩ S ((S.put GT (.gh (k+1))).put d (.d (.v (.bool (go k))))):=by
 rintro A w K Q ⟨I,ρ,C,hs⟩ ah
 obtain⟨ab,ac⟩:=zH5 S ad;obtain⟨I1,h1,H,h3⟩:=SatAt.dvL _ hs (zBC hs args) ab;rw[ac] at H;have O:=H.frame;rw[hk] at O;obtain⟨fn,tmps,h,body,Z,z⟩:=hE k C w I1 (args.map A.eval) it ag O (fun b j hi=>⟨(H.old b j hi).1,H.cI b j hi,(H.old b j hi).2⟩) h3;refine⟨fun f _=>trivial,?_⟩;rw[Oper.semAt_eq _ _ _ (by simp)];have ai:(execOp A.eval ⟨some d,.call {callee:= .value x,args:=args.toArray,argTypes:=ats},ty,pos,af,g⟩).run P w= .ok (.round l fn tmps h body) w:=by
  have ak:=hs.val hx;have Y:args.toArray.map A.eval=(args.map A.eval).toArray:=by simp
  simp only[execOp,resolve,ak,Y,Deferred.ofValue,Sem.run_bind,Sem.run_pure,Result.andThen_ok,invoke];simpa using Z
 rw[ai];refine⟨by simp[fen,Fence.wide],?_⟩;show RoundIn Fence.wide 0 P l fn tmps h body w _;refine z.mono ?_
 rintro e w' ⟨rfl,C',T,G,aa⟩
 exact ah _ _ ⟨I1,ρ,C',(H.kept G aa T).put hn (.v _)⟩
def zTG (P:Program) (f:FuncId) (h:List DV) (xs:List (List DV)) (T:Nat→Bool:=fun _=>true):Prop:=
 (∃G,P.funcs[f]? =some G∧(G.name== "runtime.NumGoroutine")=false∧G.body.isNone=false)∧
 ∀(w:World) (I:Im) (vs:List Value) (C:Nat→Prop) (l:Nat) (J:Nat→(Nat→Prop)→World→Prop),
  (∀b j,I b j→b<w.heap.size∧¬C b)→Reps w I vs h→(∀k C w,J k C w→∀b,C b→b<w.heap.size)→(∀k C w w',J k C w→Below w.heap.size w w'→J k C w')→(∀k C w,J k C w→GlI (zBO P) w I)→J 0 C w→
  (∀k C w' (H:Im) ys x,xs[k]? =some x→J k C w'→(∀b j,H b j→b<w'.heap.size∧¬C b∧(I b j∨w.heap.size≤b))→Reps w' H ys x→z00 P l ys w' (T k) fun O=> ∃z,J (k+1) z O∧Kept C w' O∧∀b,z b→C b∨w'.heap.size≤b)→
  Calls P f (.func (.yield l) #[] #[]::vs).toArray w fun e w'=>e= .returned (.tuple #[])∧∃z,J xs.length z w'
def Env.iter (gdt:Nat→Option (List Value)) (w0:World) (I0:Im) (J:Nat→(Nat→Prop)→World→Prop) (n:Nat) (H:n≤1000000) (z:∀k C w,J k C w→∀b,C b→b<w.heap.size) (G:∀k C w w',J k C w→Below w.heap.size w w'→J k C w') (hG:∀k C w,J k C w→GlI gdt w I0):Env where
 B:=w0.heap.size
 I0:=I0
 n:=n
 fr:=fun k C w=>J k C w∧w0.heap.size≤w.heap.size
 wrB:=false
 nle:=H
 mine:=fun b=>w0.heap.size≤b
 mineB:=fun _ h=>h
 nm:=fun _=>none
 size:=fun _ _ _ h=>h.2
 csize:=fun k C w h=>z k C w h.1
 grow:=fun k C w w' h hb=>⟨G k C w w' h.1 hb,Nat.le_trans h.2 hb.size⟩
 wr:=fun h=>by cases h
 turn:=fun h=>by cases h
 gdt:=gdt
 gl:=fun k C w h=>hG k C w h.1
def yNT (h:Func) (n:Nat):Exit→AState→Prop
 | .ret,S | .normal,S=>h.results= #[]∧S.ghost=n
 | _,_=>False
theorem z6B {go:Nat→Bool} {f:FuncId} {G:Func} {c:Code} {z:List DV} {xs:List (List DV)} (hf:P.funcs[f]? =some G) (Z:(G.name== "runtime.NumGoroutine")=false) (hb:G.body=some c) (hn:z.length+1≤G.ntmps) (T:G.ntmps≤1000000)
  (h:∀w0 I0 J hc hg hG l,z34 P (Env.iter (zBO P) w0 I0 J G.ntmps T hc hg hG) l xs go→Avc P none (Env.iter (zBO P) w0 I0 J G.ntmps T hc hg hG) c (yNT G xs.length) ⟨(GT,.gh 0)::(0,.d (.v (.func (.yield l) #[] #[])))::zLV z 1,[]⟩):zTG P f z xs go:=by
 refine⟨⟨G,hf,Z,by simp[hb]⟩,fun w I vs C l J hI ak hc hg hG h0 hy=>?_⟩;have au:z34 P (Env.iter (zBO P) w I J G.ntmps T hc hg hG) l xs go:=by
  intro k C w2 I2 ys x hx H ap hr;obtain⟨an,tmps,O,body,ai,Y⟩:=hy k C w2 I2 ys x hx H.1 ap hr;refine⟨an,tmps,O,body,ai,Y.mono ?_⟩
  rintro e w3 ⟨rfl,C',h1,h2,h3⟩
  exact⟨rfl,C',⟨h1,Nat.le_trans H.2 h2.size⟩,h2,h3⟩
 refine callsIn_wide (n:=0) |>.1 (callsIn_of_wp_marks hf hb trivial ?_)
 have ad:vs.length=z.length:=ak.1;have aj:Sat (Env.iter (zBO P) w I J G.ntmps T hc hg hG) ⟨(GT,.gh 0)::(0,.d (.v (.func (.yield l) #[] #[])))::zLV z 1,[]⟩ {tmps:=(.func (.yield l) #[] #[]::vs).toArray++Array.replicate (G.ntmps-(Value.func (.yield l) #[] #[]::vs).toArray.size) undef,defers:=[]} w:=by
  refine⟨I,fun _=>undef,C,⟨fun t=>?_,fun _=>trivial,fun _ _ _ _ h=>absurd rfl h,⟨h0,Nat.le_refl _⟩,fun _ _ h=>h,fun b j h=>⟨(hI b j h).1,.inl h⟩,by simp[Env.iter];omega,DefOk.nil,fun b j h=>(hI b j h).2,fun _ _ h=>absurd rfl h,fun _ _ h=>by cases h⟩⟩
  show Holds _ _ _ _ (look AV.top ((GT,.gh 0)::(0,.d (.v (.func (.yield l) #[] #[])))::zLV z 1) t);rw[kU];by_cases eg:GT=t
  ·simp only[eg,if_true];trivial
  ·simp only[eg,if_false]
   rw[kU];by_cases e0:0=t
   ·subst e0
    simp only[if_true];have:((Value.func (.yield l) #[] #[]::vs).toArray++Array.replicate (G.ntmps-(Value.func (.yield l) #[] #[]::vs).toArray.size) undef).getD 0 undef= .func (.yield l) #[] #[]:=by
     simp[Array.getD_eq_getD_getElem?,Array.getElem?_append]
    rw[this];exact .v _
   ·simp only[e0,if_false]
    rcases zV9 z 1 t with ⟨bi,x,hx,hlk⟩ | hlk
    ·rw[hlk]
     have ht:t-1<vs.length:=by rw[ad];exact(List.getElem?_eq_some_iff.1 hx).1
     refine ak.2 (t-1) _ x ?_ hx;have e1:t=(t-1)+1:=by omega
     have:((Value.func (.yield l) #[] #[]::vs).toArray++Array.replicate (G.ntmps-(Value.func (.yield l) #[] #[]::vs).toArray.size) undef)[t]? =vs[t-1]?:=by
      rw[Array.getElem?_append_left (by simp;omega)]
      simp only[List.getElem?_toArray]
      conv=>lhs;rw[e1]
      simp
     simp only[Array.getD_eq_getD_getElem?,this];simp[ht]
    ·rw[hlk];trivial
 refine wpIn_mono (h w I J hc hg hG l au _ w aj) ?_
 rintro en a w' ⟨S,hK,I1,ρ,C1,hs⟩
 have ac:(G.results= #[]∧S.ghost=xs.length)→LeavesInM (fen none) 0 P G a.tmps (fun e w'=>e= .returned (.tuple #[])∧∃C',J xs.length C' w') a.defers .returning w':=by
  rintro⟨ah,ar⟩
  have H:=hs.frame;rw[ar] at H;have ag:a.defers= []:=by
   cases hd:a.defers with
   | nil=>rfl
   | cons q qs=>have:=hs.defers.wr (by rw[hd];simp);cases this
  rw[ag];exact⟨_,results_none ah _ _ _,rfl,C1,H.1⟩
 cases en with
 | normal=>exact ac hK
 | ret=>exact ac hK
 | _=>exact hK.elim
end
end Go.AV
namespace Go.AV
open Go.RowKit
theorem SatAt.weak {E:Env} {S S':AState} {a:Act} {w:World} {I:Im} {ρ:Nat→Value} {C:Nat→Prop} (h:SatAt E S a w I ρ C) (z:∀t,S'.get t= .top∨S.get t=S'.get t) (k:∀t,S'.blk t= .none∨S.blk t=S'.blk t) (H:E.fr S'.ghost C w):SatAt E S' a w I ρ C:=by
 have hb:∀i,S'.blk i≠ .none→S.blk i≠ .none:=fun i hi=>by
  rcases k i with e | e;exact absurd e hi;rw[e];exact hi
 refine⟨fun t=>?_,fun i=>?_,fun i T b Y hi O=>h.dist i T b Y (hb i hi) (hb T O),H,h.sub,h.old,h.size,h.defers,h.cI,fun i b hi G=>h.cB i b (hb i hi) G,fun i v Z hi=>h.nm i v Z (hb i hi)⟩;rcases z t with e | e
 rw[e];trivial;rw[←e];exact h.tmps t;rcases k i with e | e
 rw[e];trivial;rw[←e];exact h.blks i
theorem z6C {S:AState}:∀{l:List (Nat×AV)},Cov S l→∀t,look AV.top l t= .top∨S.get t=look AV.top l t
 | [],_,_=> .inl rfl
 | (i,x)::l,h,t=>by
  rw[kU];by_cases e:i=t;simp only[e,if_true];exact .inr (e▸h.1);simp only[e,if_false];exact z6C h.2 t
theorem zL1 {S:AState}:∀{l:List (Nat×Blk)},zOS S l→∀t,look Blk.none l t= .none∨S.blk t=look Blk.none l t
 | [],_,_=> .inl rfl
 | (i,x)::l,h,t=>by
  rw[kU];by_cases e:i=t;simp only[e,if_true];exact .inr (e▸h.1);simp only[e,if_false];exact zL1 h.2 t
def xJ (T:List (Nat×Blk)) (ρ:Nat→Value) (b:Nat):Prop:= ∃id,look Blk.none T id≠ .none∧blockOf (ρ id)=some b
structure RndOk (E:Env) (w1:World) (Iall:Im) (C0:Nat→Prop):Prop where
 lt:∀b j,Iall b j→b<w1.heap.size
 sub:∀b j,E.I0 b j→Iall b j
 size:E.B≤w1.heap.size
def Env.rnd (E:Env) (w1:World) (Iall:Im) (X C0:Nat→Prop) (ab:List Nat) (ax:Nat→Value) (T:List Deferred) (l D:Nat) (lp:Loop) (z:RndOk E w1 Iall C0):Env where
 B:=w1.heap.size
 I0:=Iall
 n:=E.n
 fr:=fun _ C w=>E.fr 0 C0 w∧Same Iall w1 w∧Kept (fun b=>X b∨b=l) w1 w∧(∀b,C b↔C0 b)∧w.heap[l]? =some (.loop lp)∧(l<w1.heap.size∧D<w1.heap.size∧l≠D)∧w.heap[D]? =some (.deferred (some []))∧DefOk E.B E.wrB C0 w T∧(∀d∈T,∀q,d.target= .collected q→q<w1.heap.size)
 wrB:=E.wrB
 nle:=E.nle
 mine:=fun b=>(X b∧E.mine b)∨w1.heap.size≤b
 mineB:=fun _ h=> .inr h
 nm:=fun id=>if ab.contains id then some (ax id) else E.nm id
 size:=fun _ _ _ h=>h.2.2.1.size
 csize:=fun _ C w h b hb=>E.csize _ _ _ h.1 b ((h.2.2.2.1 b).1 hb)
 grow:=fun _ C w w' h hb=>by
  obtain⟨h1,h2,G,h4,Y,h8,Z,h7,h9⟩:=h;refine⟨E.grow _ _ _ _ h1 hb,fun b j hi=>?_,⟨Nat.le_trans G.size hb.size,fun b k hn=>(hb.block b (Nat.lt_of_lt_of_le k G.size)).trans (G.blk b k hn)⟩,h4,(hb.block l (Array.getElem?_eq_some_iff.1 Y).1).trans Y,h8,(hb.block D (Array.getElem?_eq_some_iff.1 Z).1).trans Z,h7.keep fun q O=>(hb.block q (Array.getElem?_eq_some_iff.1 O).1).trans O,h9⟩;exact(KeepB.of (hb.block b (Nat.lt_of_lt_of_le (z.lt b j hi) G.size))).trans (h2 b j hi)
 wr:=fun hE _ C w w' row h hg hr hs=>by
  obtain⟨h1,h2,G,h4,Y,h8,Z,h7,h9⟩:=h;have hm:∀b,row b→E.mine b∧¬C0 b∧∃o,w.heap[b]? =some o∧isData o=true:=fun b hb=>by
   obtain⟨m1,m2,m3⟩:=hr b hb;refine⟨?_,fun hc=>m2 ((h4 b).2 hc),m3⟩;rcases m1 with m1 | m1;exact m1.2;exact E.mineB b (Nat.le_trans z.size m1)
  have H:∀q o,w.heap[q]? =some o→isData o=false→¬row q:=fun q o O ho e=>by
   obtain⟨_,_,o',hc,hd⟩:=hr q e;rw[O] at hc;cases hc;rw[ho] at hd;cases hd
  refine⟨E.wr hE _ _ _ _ _ h1 hg hm (fun b j hi=>hs b j (z.sub b j hi)),fun b j hi=>(hs b j hi).trans (h2 b j hi),⟨Nat.le_trans G.size hg.size,fun b k hn=>?_⟩,h4,(hg.block l (Array.getElem?_eq_some_iff.1 Y).1 (H l _ Y rfl)).trans Y,h8,(hg.block D (Array.getElem?_eq_some_iff.1 Z).1 (H D _ Z rfl)).trans Z,?_,h9⟩;refine(hg.block b (Nat.lt_of_lt_of_le k G.size) (fun e=>?_)).trans (G.blk b k hn);rcases (hr b e).1 with m | m
  exact hn (.inl m.1);omega;exact h7.keep fun q O=>(hg.block q (Array.getElem?_eq_some_iff.1 O).1 (H q _ O rfl)).trans O
 turn:=fun hE _ C w w' q h O ht hs=>by
  obtain⟨h1,h2,G,h4,Y,h8,Z,h7,h9⟩:=h;refine⟨E.turn hE _ _ _ _ _ h1 (Nat.le_trans z.size O) ht (fun b j hi=>hs b j (z.sub b j hi)),fun b j hi=>(hs b j hi).trans (h2 b j hi),⟨by rw[ht.size];exact G.size,fun b k hn=>(ht.blk b (by omega)).trans (G.blk b k hn)⟩,h4,(ht.blk l (by omega)).trans Y,h8,(ht.blk D (by omega)).trans Z,?_,h9⟩
  refine⟨fun dd hd=>?_,h7.dist,h7.wr⟩;obtain⟨u,e1,e2,e3,e4⟩:=h7.each dd hd;have:=h9 dd hd u e1;exact⟨u,e1,e2,e3,(ht.blk u (by omega)).trans e4⟩
 gdt:=E.gdt
 gl:=fun _ _ _ h=>(E.gl _ _ _ h.1).sub z.sub
theorem yBZ {w:World} {b j:Nat} (h:∀o,w.heap[b]? =some o→isData o=false):w.cell? ⟨b,j,none⟩=none:=by
 unfold World.cell?;cases hb:w.heap[b]? with
 | none=>rfl
 | some o=>
  cases o with
  | cells c e f=>have:=h _ hb;cases this
  | _=>rfl
theorem Turned.same {l:Nat} {w w':World} (h:Turned l w w') (I:Im):Same I w w':=by
 intro b j _;by_cases e:b=l;subst e;exact⟨by rw[yBZ h.no',yBZ h.no],fun _ _ q=>by have:=h.no _ q;cases this⟩
 exact KeepB.of (h.blk b e)
theorem SatAt.turn {E:Env} {S:AState} {a:Act} {w w':World} {I:Im} {ρ:Nat→Value} {C:Nat→Prop} (h:SatAt E S a w I ρ C) {l:Nat} (z:Turned l w w') (G:∀d∈a.defers,d.target≠ .collected l) (O:E.fr S.ghost C w'):SatAt E S a w' I ρ C:=by
 have Y:=z.same I;refine⟨fun t=>(h.tmps t).mono Y (fun _ _ h=>h),fun i=>?_,h.dist,O,h.sub,fun b j hi=>⟨by rw[z.size];exact(h.old b j hi).1,(h.old b j hi).2⟩,h.size,⟨fun dd k=>?_,h.defers.dist,h.defers.wr⟩,h.cI,h.cB,h.nm⟩
 cases Z:S.blk i with
 | none=>trivial
 | _=>
  rw[←Z];refine(h.blks i).mono Y (fun b H=>z.blk b ?_)
  rintro rfl
  obtain⟨o,hc,G⟩:=h.cellBlk (by rw[Z];simp) H
  rw[z.no o hc] at G;cases G
 obtain⟨q,T,e2,e3,e4⟩:=h.defers.each dd k;exact⟨q,T,e2,e3,(z.blk q (fun e=>G dd k (e▸T))).trans e4⟩
theorem SatAt.turn2 {E E':Env} {S:AState} {a:Act} {w w':World} {I:Im} {ρ:Nat→Value} {C:Nat→Prop} (h:SatAt E S a w I ρ C) (eB:E'.B=E.B) (eI:E'.I0=E.I0) (en:E'.n=E.n) (Z:E'.mine=E.mine) (H:E'.nm=E.nm) (ew:E'.wrB=E.wrB)
  {l:Nat} (z:Turned l w w') (G:∀d∈a.defers,d.target≠ .collected l) (T:E'.fr S.ghost C w'):SatAt E' S a w' I ρ C:=by
 have hs:=z.same I;refine⟨fun t=>(h.tmps t).mono hs (fun _ _ h=>h),fun i=>?_,h.dist,T,by rw[eI];exact h.sub,fun b j hi=>⟨by rw[z.size];exact(h.old b j hi).1,by rw[eI,Z];exact(h.old b j hi).2⟩,by rw[en];exact h.size,⟨fun dd k=>?_,h.defers.dist,by rw[ew];exact h.defers.wr⟩,h.cI,h.cB,by rw[H];exact h.nm⟩
 ·rw[Z]
  cases hx:S.blk i with
  | none=>trivial
  | _=>
   rw[←hx];refine(h.blks i).mono hs (fun b O=>z.blk b ?_)
   rintro rfl
   obtain⟨o,hc,G⟩:=h.cellBlk (by rw[hx];simp) O
   rw[z.no o hc] at G;cases G
 ·obtain⟨q,Y,e2,e3,e4⟩:=h.defers.each dd k
  exact⟨q,Y,by rw[eB];exact e2,e3,(z.blk q (fun e=>G dd k (e▸Y))).trans e4⟩
def zWN (T:List (Nat×Blk)):Bool:=T.all fun p=>match p.2 with
 | .row _ _ sh _=>!sh
 | .win _ _ _ _=>false
 | _=>true
theorem z8U {T:List (Nat×Blk)} (h:zWN T=true) {id e size k:Nat} {cells:List DV} (hb:look Blk.none T id= .win e size k cells):False:=by
 induction T with
 | nil=>cases hb
 | cons p T G=>
  obtain⟨i,x⟩:=p;simp only[zWN,List.all_cons,Bool.and_eq_true] at h;rw[kU] at hb;by_cases z:i=id;simp only[z,if_true] at hb;subst hb;simp at h;simp only[z,if_false] at hb;exact G h.2 hb
theorem z35 {T:List (Nat×Blk)} (h:zWN T=true) {id e size:Nat} {sh:Bool} {cells:List DV} (hb:look Blk.none T id= .row e size sh cells):sh=false:=by
 induction T with
 | nil=>cases hb
 | cons p T z=>
  obtain⟨i,x⟩:=p;simp only[zWN,List.all_cons,Bool.and_eq_true] at h;rw[kU] at hb;by_cases k:i=id;simp only[k,if_true] at hb;subst hb;simpa using h.1;simp only[k,if_false] at hb;exact z h.2 hb
def zJK (h:List Nat):List (Nat×AV)→Bool
 | []=>true
 | (_,.d _)::r=>zJK h r
 | (_,.ptr id _)::r=>h.contains id&&zJK h r
 | _=>false
theorem zL2 {k:List Nat}:∀{l:List (Nat×AV)},zJK k l=true→∀t,look AV.top l t= .top∨(∃y,look AV.top l t= .d y)∨∃id off,look AV.top l t= .ptr id off∧k.contains id=true
 | [],_,_=> .inl rfl
 | (i,x)::l,h,t=>by
  rw[kU];by_cases e:i=t;simp only[e,if_true];cases x with
  | d y=>exact .inr (.inl ⟨y,rfl⟩)
  | ptr id off=>simp only[zJK,Bool.and_eq_true] at h;exact .inr (.inr ⟨id,off,rfl,h.1⟩)
  | _=>simp[zJK] at h
  simp only[e,if_false];cases x with
  | d y=>exact zL2 (l:=l) (by simpa[zJK] using h) t
  | ptr id off=>simp only[zJK,Bool.and_eq_true] at h;exact zL2 h.2 t
  | _=>simp[zJK] at h
def z8V:List Tmp→List DV→List (Nat×AV)
 | p::h,x::xs=>z8V h xs++ [(p,.d x)]
 | _,_=>[]
theorem z01 {w:World} {I:Im} {ρ:Nat→Value} {n:Nat}:∀(O:List Tmp) (ys:List Value) (xs:List DV) (tm:Array Value) (l:List (Nat×AV)),O.length=xs.length→Reps w I ys xs→(∀p∈O,p<n)→tm.size=n→
  (∀t,Holds w I ρ (tm.getD t undef) (look AV.top l t))→
  ((O.zip ys).foldl (fun (tmps:Array Value) (q:Tmp×Value)=>tmps.setIfInBounds q.1 q.2) tm).size=n∧
  ∀t,Holds w I ρ (((O.zip ys).foldl (fun (tmps:Array Value) (q:Tmp×Value)=>tmps.setIfInBounds q.1 q.2) tm).getD t undef) (look AV.top (z8V O xs++l) t)
 | [],ys,xs,tm,l,H,k,T,G,h=>by
  have hx:xs= []:=List.eq_nil_of_length_eq_zero (by simpa using H.symm);subst hx;have:ys= []:=List.eq_nil_of_length_eq_zero k.1;subst this;exact⟨G,h⟩
 | p::O,ys,xs,tm,l,H,k,T,G,h=>by
  match xs,ys,H,k with
  | x::xs,y::ys,H,k=>
   have Z:Reps w I ys xs:=⟨by have:=k.1;simpa using this,fun j u z hu hz=>k.2 (j+1) u z (by simpa using hu) (by simpa using hz)⟩
   have:=z01 O ys xs (tm.setIfInBounds p y) ((p,.d x)::l) (by simpa using H) Z (fun q hq=>T q (by simp[hq])) (by simp[G]) (fun t=>by
    rw[kU];have Y:p<tm.size:=by rw[G];exact T p (by simp)
    by_cases e:p=t
    ·subst e
     simp only[if_true];have:(tm.setIfInBounds p y).getD p undef=y:=by simp[Array.getD_eq_getD_getElem?,Y]
     rw[this];exact k.2 0 y x rfl rfl
    ·simp only[e,if_false]
     have:(tm.setIfInBounds p y).getD t undef=tm.getD t undef:=by
      rw[Array.getD_eq_getD_getElem?,Array.getD_eq_getD_getElem?,Array.getElem?_setIfInBounds_ne e]
     rw[this];exact h t)
   simp only[List.zip_cons_cons,List.foldl_cons,z8V,List.append_assoc,List.singleton_append];exact this
  | [],_,H,_=>simp at H
  | _::_,[],_,k=>have:=k.1;simp at this
def yNU (P:Program) (l:Nat) (h:Env) (body:Code) (k:Exit→AState→Prop):Exit→AState→Prop
 | .normal,S=>Avc P (some l) h body k S
 | _,_=>False
def yNV (h:List (Nat×Blk)):Exit→AState→Prop
 | .normal,S=>zOS S h
 | _,_=>False
def zNL:Exit→Nat→Nat→Bool
 | .normal,_,_=>false
 | _,n,k=>Nat.beq k n
def goF (h:Exit) (n k:Nat):Bool:=!zNL h n (k+1)
theorem yGN {z:Exit} {n k:Nat} (h:k<n):zNL z n k=false:=by
 have:Nat.beq k n=false:=by
  cases G:Nat.beq k n with
  | false=>rfl
  | true=>have:=Nat.eq_of_beq_eq_true G;omega
 cases z<;>first | rfl | exact this
def z8W:Exit→Option Code
 | .ret=>some .ret
 | .exit id=>some (.exit id)
 | _=>none
def yB0 (h:Exit) (n k:Nat) (z:List (Nat×Blk)) (e:Exit) (S:AState):Prop:=cond (goF h n k) (yNV z e S) (e=h∧zOS S z)
theorem zTH (ab:Exit) {P:Program} {E:Env} {S:AState} {g:Operand} {ps:List Tmp} {assign body:Code} {f:FuncId} {an:List DV} {xs:List (List DV)} {K:Exit→AState→Prop}
    (keep:List (Nat×AV)) (O:List Nat) (T:Nat→List (Nat×Blk)) (hg:S.ev g= .d (.fn f an)) (bj:ab= .normal∨((z8W ab).isSome=true∧xs.isEmpty=false)) (fw:zTG P f an xs (goF ab xs.length)) (hE:E.wrB=true) (ck:∀k k' C w,E.fr k C w→E.fr k' C w)
    (cn:Cov S keep) (fl:zOS S (T 0)) (ga:zJK O keep=true) (ef:∀k,zWN (T k)=true) (dm:∀k id,O.contains id=true→look Blk.none (T k) id≠ .none) (gi:∀id,O.contains id=true→E.nm id=none)
    (gm:∀x∈xs,ps.length=x.length) (gk:∀p∈ps,p<E.n)
    (round:∀w1 Iall X C0 ej cd l D gs gt be k x,xs[k]? =some x→
      Avc P (some l) (Env.rnd E w1 Iall X C0 O ej cd l D gs be) assign (yNU P l (Env.rnd E w1 Iall X C0 O ej cd l D gt be) body (yB0 ab xs.length k (T (k+1)))) ⟨z8V ps x++keep,T k⟩)
    (hK:K ab ⟨keep,T xs.length⟩) (hG:E.gdt=zBO P:=by rfl):Avc P none E (.rangeFunc g ps.toArray assign body) K S:=by
  rintro a w ⟨I,ρ,C0,hs⟩
  obtain⟨⟨dg,fv,bw,bu⟩,cm⟩:=fw;have dx:=hs.ev g;rw[hg] at dx;have cg:Rep w I (a.eval g) (.fn f an):=dx;generalize gr:a.eval g=vg at cg;cases cg with
  | fn f br an fq fp=>
  refine wpIn_rangeFunc fun fn _=>?_
  let D:=w.heap.size
  let l:=w.heap.size+1
  let z:Loop:={state:= .ready,pending:=none,fn,tmps:=a.tmps,params:=ps.toArray,assign,body,defers:=D}
  let w1:=(w.alloc (.deferred (some []))).alloc (.loop z)
  let ap:Loop:={z with state:= .done,pending:=z8W ab}
  let Y:Nat→Loop:=fun k=>cond (zNL ab xs.length k) ap z
  have dz:∀k,k<xs.length→Y k=z:=fun k hk=>by
    simp only[Y,yGN hk,cond_false]
  have fy:Y 0=z:=by
    rcases bj with e | ⟨_,e⟩
    · simp only[Y,e,zNL,cond_false]
    · exact dz 0 (List.length_pos_iff.2 fun h=>by rw[h] at e;cases e)
  refine⟨l,[{target:= .collected D,args:= #[]}],w1,{target:= .fn (.func f) br.toArray,args:= #[.func (.yield l) #[] #[]]},w1,f,(.func (.yield l) #[] #[]::br).toArray,w1,?_,?_,fun _ _=>trivial,?_,by simp[fen,Fence.wide],?_⟩
  · simp[Instr.enterLoop,w1,l,D,z,fen]
  · have:(resolve a.eval (rangeCall g l) 0)=Deferred.ofValue (a.eval g) #[.func (.yield l) #[] #[]]:=by
      simp[resolve,rangeCall,Act.eval]
    rw[this,gr];simp[Deferred.ofValue]
  · have gg:¬dg.name= "runtime.NumGoroutine" :=by simpa using bw
    have gh:¬dg.body=none:=by intro e;simp[e] at bu
    simp[invoke,callFunc,fv,gg,gh]
  show CallsIn Fence.wide 0 P f _ w1 _;have hm:w1.heap.size=w.heap.size+2:=by simp[w1]
  have dh:Below w.heap.size w w1:=((Below.refl _ _).alloc (Nat.le_refl _) _).alloc (by simp) _;have gc:w1.heap[l]? =some (.loop z):=by
    have:=heap_alloc_new (w.alloc (.deferred (some []))) (.loop z);simpa[w1,l] using this
  have ff:w1.heap[D]? =some (.deferred (some [])):=by
    have h1:w1.heap[D]? =(w.alloc (.deferred (some []))).heap[D]?:=Below.heap_alloc _ _ _ (by simp[D]);rw[h1];exact heap_alloc_new w _
  let S0:Nat→AState:=fun k=>⟨keep,T k⟩
  have dp:Reps w I br an:=⟨fq,fp⟩;have bi:∀dd∈a.defers,∀q,dd.target= .collected q→q<w.heap.size:=fun dd hd q hq=>by
    obtain⟨u,e1,_,_,e4⟩:=hs.defers.each dd hd;rw[hq] at e1;cases e1;exact(Array.getElem?_eq_some_iff.1 e4).1
  let J:Nat→(Nat→Prop)→World→Prop:=fun k C w'=> ∃I' G,SatAt E (S0 k) a w' I' G C0∧(∀b j,I b j→I' b j)∧w1.heap.size≤w'.heap.size∧w'.heap[l]? =some (.loop (Y k))∧w'.heap[D]? =some (.deferred (some []))∧∀b,C b↔((C0 b∨xJ (T k) G b)∨b=l)
  have fj:∀k C w',J k C w'→∀b,C b→b<w'.heap.size:=by
    rintro k C w' ⟨I',G,h1,_,_,h4,_,h6⟩ b hb
    rcases (h6 b).1 hb with (hc | ⟨id,h7,h8⟩) | rfl
    · exact E.csize _ _ _ h1.frame b hc
    · exact(h1.blt id b h7 h8).2
    · exact(Array.getElem?_eq_some_iff.1 h4).1
  have fk:∀k C w' cy,J k C w'→Below w'.heap.size w' cy→J k C cy:=by
    rintro k C w' cy ⟨I',G,h1,h2,h3,h4,h5,h6⟩ hb
    exact⟨I',G,h1.grow hb,h2,Nat.le_trans h3 hb.size,(hb.block l (Array.getElem?_eq_some_iff.1 h4).1).trans h4,(hb.block D (Array.getElem?_eq_some_iff.1 h5).1).trans h5,h6⟩
  have bm:SatAt E (S0 0) a w1 I ρ C0:=(hs.weak (S':=S0 0) (z6C cn) (zL1 fl) (ck _ _ _ _ hs.frame)).grow dh;have cj:∀k w' (I':Im) G,SatAt E (S0 k) a w' I' G C0→∀b j,I' b j→¬xJ (T k) G b:=by
    rintro k w' I' G h b j hi ⟨id,h1,h2⟩
    have hk:=h.blks id;have bt:(S0 k).blk id=look Blk.none (T k) id:=rfl;cases hx:look Blk.none (T k) id with
    | none=>exact h1 hx
    | row e size sh cells=>
      rw[bt,hx] at hk;obtain⟨hp,n,ys,hl,ed,_,_,fh⟩:=hk;have gq:=z35 (ef k) hx;subst gq;have gj:(G id).ownBlock=some b:=by
        rcases ed.2 with ⟨ct,_⟩ | ⟨gb,hy,hz,ct,_⟩
        · rw[ct] at h2;cases h2
        · rw[ct] at h2 ⊢;exact h2
      have:=(fh b j gj hi).1;cases this
    | box e cells=>
      rw[bt,hx] at hk;obtain⟨b',arr,cx,_,_,_,_,cu⟩:=hk;rw[cx] at h2;cases h2;exact cu j hi
    | map es=>
      rw[bt,hx] at hk;obtain⟨b',gz,fb,cx,_,_,_,cu⟩:=hk;rw[cx] at h2;cases h2;exact cu j hi
    | win e size k' cells=>exact z8U (ef k) hx
  refine callsIn_wide.2 ((cm w1 I br (fun b=>(C0 b∨xJ (T 0) ρ b)∨b=l) l J (fun b j hi=>⟨by have:=(hs.old b j hi).1;omega,fun hc=>?_⟩) (dp.mono (fun b j hi=>KeepB.of (dh.block b (hs.old b j hi).1)) (fun _ _ h=>h)) fj fk (fun k C w' ⟨I',G,h1,h2,_⟩ g' zs dw j v hj=>⟨((hG▸h1.gl) g' zs dw j v hj).1,((hG▸hs.gl) g' zs dw j v hj).2⟩) ⟨I,ρ,bm,fun _ _ h=>h,Nat.le_refl _,(by rw[fy];exact gc),ff,fun _=>Iff.rfl⟩ ?_).mono ?_)
  · rcases hc with (hc | hc) | hc
    · exact hs.cI b j hi hc
    · exact cj 0 w1 I ρ bm b j hi hc
    · have:=(hs.old b j hi).1
      omega
  · -- a round
    rintro k C w' I1 ys x hx ⟨I',G,h1,h2,h3,h4,h5,h6⟩ fg bl
    have ci:ps.length=x.length:=gm x (List.mem_of_getElem? hx);rw[dz k (List.getElem?_eq_some_iff.1 hx).1] at h4;have eh:ys.length=ps.length:=by rw[bl.1,ci]
    refine⟨fn,(ps.toArray.zip ys.toArray).foldl (fun tmps (q:Tmp×Value)=>tmps.setIfInBounds q.1 q.2) a.tmps,assign,body,?_,?_⟩
    · have il:¬ys.toArray.size≠ps.toArray.size:=by simpa using eh
      simp[Instr.yield,Instr.getLoop,getObj,Sem.run,h4,z,eh]
    let Iall:Im:=fun b j=>I' b j∨I1 b j
    let X:Nat→Prop:=xJ (T k) G
    have ag:∀b j,Iall b j→b<w'.heap.size∧¬C0 b∧¬X b∧(E.I0 b j∨E.mine b):=by
      rintro b j (hi | hi)
      · exact⟨(h1.old b j hi).1,h1.cI b j hi,cj k w' I' G h1 b j hi,(h1.old b j hi).2⟩
      · obtain⟨e1,e2,e3⟩:=fg b j hi
        refine⟨e1,fun hc=>e2 ((h6 b).2 (.inl (.inl hc))),fun hc=>e2 ((h6 b).2 (.inl (.inr hc))),?_⟩;rcases e3 with e3 | e3
        · exact(hs.old b j e3).2
        · exact .inr (E.mineB b (by have:=E.size _ _ _ hs.frame;omega))
    have be:RndOk E w' Iall C0:=⟨fun b j hi=>(ag b j hi).1,fun b j hi=> .inl (h1.sub b j hi),E.size _ _ _ h1.frame⟩;have ge:l<w'.heap.size∧D<w'.heap.size∧l≠D:=⟨by omega,by omega,by simp[l,D]⟩;have dq:∀dd∈a.defers,∀q,dd.target= .collected q→q<w'.heap.size:=fun dd hd q hq=>by have:=bi dd hd q hq;omega
    let aw:Loop:={z with state:= .busy}
    let E1:=Env.rnd E w' Iall X C0 O G a.defers l D z be
    let E2:=Env.rnd E w' Iall X C0 O G a.defers l D aw be
    have bn:∀b j,I' b j→Iall b j:=fun _ _ h=> .inl h;have ee:=z01 (w:=w') (I:=Iall) (ρ:=G) (n:=E.n) ps ys x a.tmps keep ci (bl.mono (kV I1 w') (fun _ _ h=> .inr h)) gk h1.size (fun t=>(h1.tmps t).mono (kV I' w') bn);have ei:(ps.toArray.zip ys.toArray).foldl (fun tmps (q:Tmp×Value)=>tmps.setIfInBounds q.1 q.2) a.tmps=(ps.zip ys).foldl (fun tmps (q:Tmp×Value)=>tmps.setIfInBounds q.1 q.2) a.tmps:=by
      rw[←Array.foldl_toList];simp
    have bz:Sat E1 ⟨z8V ps x++keep,T k⟩ {tmps:=(ps.toArray.zip ys.toArray).foldl (fun tmps (q:Tmp×Value)=>tmps.setIfInBounds q.1 q.2) a.tmps,defers:=[]} w':=by
      rw[ei];refine⟨Iall,G,C0,⟨ee.2,fun i=>?_,h1.dist,⟨ck _ _ _ _ h1.frame,kV _ _,⟨Nat.le_refl _,fun _ _ _=>rfl⟩,fun _=>Iff.rfl,h4,ge,h5,h1.defers,dq⟩,fun _ _ h=>h,fun b j hi=>⟨(ag b j hi).1,.inl hi⟩,ee.1,DefOk.nil,fun b j hi=>(ag b j hi).2.1,h1.cB,fun id v hv hi=>?_⟩⟩
      · have fz:=h1.blks i
        have bt:(S0 k).blk i=look Blk.none (T k) i:=rfl;show BlkOk w' Iall G E1.mine i (look Blk.none (T k) i);have df:∀b j,look Blk.none (T k) i≠ .none→blockOf (G i)=some b→¬Iall b j:=fun b j aj bd hi=>(ag b j hi).2.2.1 ⟨i,aj,bd⟩;have cq:∀b,look Blk.none (T k) i≠ .none→blockOf (G i)=some b→E.mine b→E1.mine b:=fun b aj bd _=> .inl ⟨⟨i,aj,bd⟩,(h1.blt i b aj bd).1⟩;have ea:BlkOk w' I' G E.mine i (look Blk.none (T k) i):=fz;exact(ea.mineM cq).widenI bn fun b j aj bd hi=>absurd hi (df b j aj bd)
      · simp only[E1,Env.rnd] at hv
        by_cases e:O.contains id=true
        · rw[if_pos e] at hv;cases hv;rfl
        · rw[if_neg e] at hv;exact h1.nm id v hv hi
    refine roundIn_of_wpIn trivial ?_;have dk:=round w' Iall X C0 G a.defers l D z aw be k x hx _ w' bz;refine wpIn_mono dk ?_
    rintro e a2 w2 ⟨S2,dj,I2,ek,C2,cv⟩
    cases e with
    | normal=>
      have fs:=cv.frame;obtain⟨f1,f2,f3,f4,f5,f6,f7,f8,f9⟩:=fs
      let w3:World:={w2 with heap:=w2.heap.setIfInBounds l (.loop aw)}
      have bv:l<w2.heap.size:=(Array.getElem?_eq_some_iff.1 f5).1;have ad:Turned l w2 w3:=⟨rfl,rfl,rfl,by simp[w3],fun q hq=>Array.getElem?_setIfInBounds_ne (fun e=>hq e.symm),fun o hc=>(by rw[f5] at hc;cases hc;rfl),fun o hc=>(by simp[w3,bv] at hc;subst hc;rfl)⟩
      refine⟨w3,?_,?_⟩
      · simp[Instr.beginRound,Instr.getLoop,getObj,setObj,Sem.run,f5,z,w3,aw]
      · have ft:E2.fr S2.ghost C2 w3:=by
          refine⟨E.turn hE _ _ _ _ _ f1 (by have:=E.size _ _ _ hs.frame;omega) ad (ad.same _),fun b j hi=>(ad.same Iall b j hi).trans (f2 b j hi),⟨by rw[ad.size];exact f3.size,fun b cp hn=>(ad.blk b (fun e=>hn (.inr e))).trans (f3.blk b cp hn)⟩,f4,by simp[w3,bv],f6,(ad.blk D (fun e=>f6.2.2 e.symm)).trans f7,?_,f9⟩
          refine⟨fun dd hd=>?_,f8.dist,f8.wr⟩;obtain⟨u,e1,e2,e3,e4⟩:=f8.each dd hd;have:=bi dd hd u e1;exact⟨u,e1,e2,e3,(ad.blk u (by omega)).trans e4⟩
        have go:SatAt E2 S2 a2 w3 I2 ek C2:=by
          have fr:∀d∈a2.defers,d.target≠ .collected l:=fun dd hd e=>by
            obtain⟨u,e1,e2,_,_⟩:=cv.defers.each dd hd;rw[e] at e1;cases e1;have:w'.heap.size≤l:=e2;omega
          exact cv.turn2 (E':=E2) rfl rfl rfl rfl rfl rfl ad fr ft
        refine wpIn_mono (dj a2 w3 ⟨I2,ek,C2,go⟩) ?_
        rintro e a4 w4 ⟨S4,ah,I4,bp,C4,H⟩
        have dn:zOS S4 (T (k+1)):=by
          unfold yB0 at ah;cases ai:goF ab xs.length k with
          | true=>
            rw[ai] at ah;cases e with
            | normal=>exact ah
            | _=>exact ah.elim
          | false=>rw[ai] at ah;exact ah.2
        obtain⟨p1,p2,p3,p4,p5,p6,p7,p8,p9⟩:=H.frame
        let w5:World:={w4 with heap:=w4.heap.setIfInBounds l (.loop (Y (k+1)))}
        have ec:l<w4.heap.size:=(Array.getElem?_eq_some_iff.1 p5).1;have aa:Turned l w4 w5:=⟨rfl,rfl,rfl,by simp[w5],fun q hq=>Array.getElem?_setIfInBounds_ne (fun e=>hq e.symm),fun o hc=>(by rw[p5] at hc;cases hc;rfl),fun o hc=>(by simp[w5,ec] at hc;subst hc;rfl)⟩
        have dt:E.fr 0 C0 w5:=E.turn hE _ _ _ _ _ p1 (by have:=E.size _ _ _ hs.frame;omega) aa (aa.same _)
        have bx:Same Iall w' w5:=fun b j hi=>(aa.same Iall b j hi).trans (p2 b j hi);have au:∀b j,Iall b j→I4 b j:=H.sub;have Z:∀i,look Blk.none (T (k+1)) i≠ .none→S4.blk i=look Blk.none (T (k+1)) i:=fun i hi=>by
          rcases zL1 dn i with e | e
          · exact absurd e hi
          · exact e
        have gp:SatAt E (S0 (k+1)) a w5 I4 bp C0:=by
          refine⟨fun t=>?_,fun i=>?_,fun i i' b hn hi dy=>H.dist i i' b hn (by rw[Z i hi];exact hi) (by rw[Z i' dy];exact dy),ck _ _ _ _ dt,fun b j hi=>au b j (.inl (h1.sub b j hi)),fun b j hi=>⟨by rw[aa.size];exact(H.old b j hi).1,?_⟩,h1.size,?_,fun b j hi hc=>H.cI b j hi ((p4 b).2 hc),fun i b hi hb hc=>H.cB i b (by rw[Z i hi];exact hi) hb ((p4 b).2 hc),fun i v hv hi=>?_⟩
          · have ba:Holds w' I' G (a.tmps.getD t undef) (look AV.top keep t):=h1.tmps t
            show Holds w5 I4 bp (a.tmps.getD t undef) (look AV.top keep t);rcases zL2 ga t with e | ⟨y,e⟩ | ⟨id,off,e,bh⟩
            · rw[e];trivial
            · rw[e] at ba ⊢
              exact Rep.mono ba (fun b j hi=>bx b j (.inl hi)) (fun b j hi=>au b j (.inl hi))
            · rw[e] at ba ⊢
              obtain⟨b,fm,fo⟩:=ba;refine⟨b,?_,fo⟩;have:=H.nm id (G id) (by show (if O.contains id then some (G id) else E.nm id)=_;rw[if_pos bh]) (by rw[Z id (dm (k+1) id bh)];exact dm (k+1) id bh)
              rw[this];exact fm
          · show BlkOk w5 I4 bp E.mine i (look Blk.none (T (k+1)) i)
            cases eg:look Blk.none (T (k+1)) i with
            | none=>trivial
            | _=>
              have aj:look Blk.none (T (k+1)) i≠ .none:=by rw[eg];simp
              rw[←eg];have dl:=H.blks i;rw[Z i aj] at dl;have gf:=dl.mono (aa.same I4) (fun b hb=>aa.blk b (fun e=>by
                obtain⟨o,hc,hd⟩:=H.cellBlk (id:=i) (by rw[Z i aj];exact aj) hb
                rw[e,p5] at hc;cases hc;cases hd))
              refine gf.mineM fun b _ _ m=>?_;rcases m with m | m
              · exact m.2
              · exact E.mineB b (by have:=E.size _ _ _ h1.frame;omega)
          · rcases (H.old b j hi).2 with m | m | m
            · exact(ag b j m).2.2.2
            · exact .inr m.2
            · exact .inr (E.mineB b (by have:=E.size _ _ _ h1.frame;omega))
          · refine⟨fun dd hd=>?_,p8.dist,p8.wr⟩
            obtain⟨u,e1,e2,e3,e4⟩:=p8.each dd hd;have:=bi dd hd u e1;exact⟨u,e1,e2,e3,(aa.blk u (by omega)).trans e4⟩
          · by_cases e:O.contains i=true
            · rw[gi i e] at hv;cases hv
            · exact H.nm i v (by show (if O.contains i then some (G i) else E.nm i)=_;rw[if_neg e];exact hv) (by rw[Z i hi];exact hi)
        have bg:∃C',J (k+1) C' w5∧Kept C w' w5∧∀b,C' b→C b∨w'.heap.size≤b:=by
         refine⟨(fun b=>(C0 b∨xJ (T (k+1)) bp b)∨b=l),⟨I4,bp,gp,fun b j hi=>au b j (.inl (h2 b j hi)),?_,by simp[w5,ec],(aa.blk D (by simp[D,l])).trans p7,fun _=>Iff.rfl⟩,⟨?_,fun b cp hn=>?_⟩,?_⟩
         · rw[aa.size];exact Nat.le_trans h3 p3.size
         · rw[aa.size];exact p3.size
         · by_cases e:b=l
           · exact absurd ((h6 b).2 (.inr e)) hn
           · refine(aa.blk b e).trans (p3.blk b cp ?_)
             rintro (hc | hc)
             · exact hn ((h6 b).2 (.inl (.inr hc)))
             · exact e hc
         · rintro b ((hc | ⟨id,hi,hb⟩) | rfl)
           · exact .inl ((h6 b).2 (.inl (.inl hc)))
           · rcases (H.blt id b (by rw[Z id hi];exact hi) hb).1 with m | m
             · exact .inl ((h6 b).2 (.inl (.inr m.1)))
             · exact .inr m
           · exact .inl ((h6 _).2 (.inr rfl))
        unfold yB0 at ah;cases ai:goF ab xs.length k with
        | true=>
          rw[ai] at ah;have ao:zNL ab xs.length (k+1)=false:=by unfold goF at ai;cases h:zNL ab xs.length (k+1) with | false=>rfl | true=>rw[h] at ai;cases ai
          cases e with
          | normal=>exact⟨.bool true,w5,by simp[Instr.endRound,Instr.getLoop,getObj,setObj,Sem.run,p5,aw,z,w5,Y,ao],rfl,bg⟩
          | _=>exact ah.elim
        | false=>
          rw[ai] at ah;have ao:zNL ab xs.length (k+1)=true:=by unfold goF at ai;cases h:zNL ab xs.length (k+1) with | true=>rfl | false=>rw[h] at ai;cases ai
          obtain⟨rfl,_⟩:=ah;rcases bj with h0 | ⟨h0,_⟩
          · subst h0;cases ao
          · cases e with
            | ret=>exact⟨.bool false,w5,by simp[Instr.endRound,Instr.getLoop,getObj,setObj,Sem.run,p5,aw,z,w5,Y,ao,ap,z8W],rfl,bg⟩
            | exit id=>exact⟨.bool false,w5,by simp[Instr.endRound,Instr.getLoop,getObj,setObj,Sem.run,p5,aw,z,w5,Y,ao,ap,z8W],rfl,bg⟩
            | _=>cases h0
    | _=>exact dj.elim
  · -- behind the loop
    rintro e w' ⟨rfl,C',I',G,h1,h2,h3,h4,h5,h6⟩
    let w4:World:={w' with heap:=w'.heap.setIfInBounds l (.loop {Y xs.length with state:= .exhausted})}
    have bv:l<w'.heap.size:=(Array.getElem?_eq_some_iff.1 h4).1;have ht:Turned l w' w4:=⟨rfl,rfl,rfl,by simp[w4],fun q hq=>Array.getElem?_setIfInBounds_ne (fun e=>hq e.symm),fun o hc=>(by rw[h4] at hc;cases hc;rfl),fun o hc=>(by simp[w4,bv] at hc;subst hc;rfl)⟩
    have bo:yKZ E K ab {a with defers:={target:= .collected D,args:= #[]}::a.defers} w4:=by
      have dr:=E.turn hE _ _ _ _ _ h1.frame (by have:=E.size _ _ _ hs.frame;omega) ht (ht.same _)
      have H:=h1.turn ht (fun dd hd e=>by have:=bi dd hd l e;omega) dr
      refine⟨S0 xs.length,hK,I',G,C0,⟨H.tmps,H.blks,H.dist,H.frame,H.sub,H.old,H.size,⟨?_,?_,fun _=>hE⟩,H.cI,H.cB,H.nm⟩⟩
      · intro dd hd
        rcases List.mem_cons.1 hd with rfl | hd
        · refine⟨D,rfl,by have:=E.size _ _ _ hs.frame;omega,fun hc=>?_,(ht.blk D (by simp[D,l])).trans h5⟩
          have:=E.csize _ _ _ hs.frame D hc;omega
        · exact H.defers.each dd hd
      · refine List.pairwise_cons.2 ⟨fun dd hd q hq gn=>?_,H.defers.dist⟩
        cases hq;have:=bi dd hd D gn;omega
    rcases bj with h0 | ⟨h0,_⟩
    · subst h0
      exact⟨none,w4,by simp[Instr.endLoop,Instr.getLoop,getObj,setObj,Sem.run,h4,z,w4,Y,zNL],bo⟩
    · have ao:zNL ab xs.length xs.length=true:=by
        cases ab with
        | normal=>cases h0
        | _=>exact Nat.beq_refl _
      cases ab with
      | ret=>exact⟨some .ret,w4,by simp[Instr.endLoop,Instr.getLoop,getObj,setObj,Sem.run,h4,z,w4,Y,ao,ap,z8W],wpIn_ret bo⟩
      | exit id=>exact⟨some (.exit id),w4,by simp[Instr.endLoop,Instr.getLoop,getObj,setObj,Sem.run,h4,z,w4,Y,ao,ap,z8W],wpIn_exit bo⟩
      | _=>cases h0
theorem zWO {P:Program} {E:Env} {S:AState} {g:Operand} {ps:List Tmp} {z body:Code} {f:FuncId} {G:List DV} {xs:List (List DV)} {K:Exit→AState→Prop}
  (keep:List (Nat×AV)) (h:List Nat) (T:Nat→List (Nat×Blk)) (hg:S.ev g= .d (.fn f G)) (ag:zTG P f G xs) (hE:E.wrB=true) (ad:∀k k' C w,E.fr k C w→E.fr k' C w)
  (O:Cov S keep) (ab:zOS S (T 0)) (ah:zJK h keep=true) (al:∀k,zWN (T k)=true) (ac:∀k id,h.contains id=true→look Blk.none (T k) id≠ .none) (ai:∀id,h.contains id=true→E.nm id=none)
  (ak:∀x∈xs,ps.length=x.length) (aj:∀p∈ps,p<E.n)
  (round:∀w1 Iall X C0 Z H l D am an Y k x,xs[k]? =some x→
   Avc P (some l) (Env.rnd E w1 Iall X C0 h Z H l D am Y) z (yNU P l (Env.rnd E w1 Iall X C0 h Z H l D an Y) body (yNV (T (k+1)))) ⟨z8V ps x++keep,T k⟩)
  (hK:K .normal ⟨keep,T xs.length⟩) (hG:E.gdt=zBO P:=by rfl):Avc P none E (.rangeFunc g ps.toArray z body) K S:=
 zTH .normal keep h T hg (.inl rfl) ag hE ad O ab ah al ac ai ak aj round hK hG
end Go.AV
namespace Go.AV
open Go.RowKit
section
variable {P:Program} {r:Option Nat} {E:Env} {S:AState} {d:Nat} {ty:TypeId} {pos:String} {af:Array Edge} {g:Option (Nat×Bool)}
theorem SatAt.rebox {a:Act} {w:World} {I:Im} {ρ:Nat→Value} {C:Nat→Prop} (h:SatAt E S a w I ρ C) {bid eb:Nat} {cells k:List AV} (hb:S.blk bid= .box eb cells) (hc:∀xs:List Value,Pw (Holds w I ρ) xs cells→Pw (Holds w I ρ) xs k):
  SatAt E (S.setBlk bid (.box eb k)) a w I ρ C:=by
 have H:S.blk bid≠ .none:=by rw[hb];simp
 have key:∀i,(S.setBlk bid (.box eb k)).blk i≠ .none→S.blk i≠ .none:=by
  intro i hi;rw[yA] at hi;by_cases e:bid=i
  ·subst e;exact H
  ·simpa[e] using hi
 refine⟨h.tmps,fun i=>?_,fun i Z b hn hi G=>h.dist i Z b hn (key i hi) (key Z G),h.frame,h.sub,h.old,h.size,h.defers,h.cI,fun i b hi z=>h.cB i b (key i hi) z,fun i v hv hi=>h.nm i v hv (key i hi)⟩;rw[yA];by_cases e:bid=i
 ·subst e
  simp only[if_true];have Y:=h.blks bid;rw[hb] at Y;obtain⟨b,arr,T,hM,hh,h1,O,hI⟩:=Y;exact⟨b,arr,T,hM,hh,h1,hc _ O,hI⟩
 ·simp only[e,if_false];exact h.blks i
theorem Pw.set_right {T z:Type} {R: T→z→Prop} {xs:List T} {ys:List z} (h:Pw R xs ys) {off:Nat} {y O: z} (Z:ys[off]? =some y) (Y:∀x,R x y→R x O):Pw R xs (ys.set off O):=by refine⟨by simp[h.1],fun j u v H k=>?_⟩;rw[List.getElem?_set] at k;by_cases e:off=j;subst e;by_cases G:off<ys.length;simp[G] at k;subst k;exact Y u (h.2 off u y H Z);simp[G] at k;simp[e] at k;exact h.2 j u v H k
theorem zCE {bid eb off:Nat} {cells:List AV} (k e size:Nat) (Z:0<size) (z:k≠bid) (G:E.nm k=none) (hb:S.blk bid= .box eb cells) (Y:(cells.map (zEP k))[off]? =some (.d (.v (.slice none 0 0)))):
  zE3 E S (((S.kill k).setBlk k (.row e size false [])).setBlk bid (.box eb ((cells.map (zEP k)).set off (.row k)))):=by
 rintro a w ⟨I,ρ,C,h⟩
 have T:=h.update (World.grownBy.refl w none) (id:=k) (u:= .slice none 0 0) (x:= .row e size false []) (by simp) (kV I w) (by simp[blockOf])
  ⟨⟨Z,by simp[upd,Value.ownBlock]⟩,0,[],by simp,by simp only[upd,if_true];exact World.ownsRow_nil w _ e size,by simp,Pw.nil,by simp[upd,Value.ownBlock]⟩ (.inl rfl) G
 refine⟨I,_,C,T.rebox (eb:=eb) (cells:=cells.map (zEP k)) ?_ fun xs hx=>hx.set_right Y fun x H=>?_⟩
 ·rw[yA,if_neg z,zH2,hb];rfl
 ·have O:Rep w I x (.v (.slice none 0 0)):=H
  cases O;simp[Holds,upd]
theorem zDT {bid eb off k e size:Nat} {sh:Bool} {cells:List AV} {T:List DV} (hb:S.blk bid= .box eb cells) (hc:cells[off]? =some (.row k)) (G:S.blk k= .row e size sh T):
  zE3 E S ((S.setBlk k (.row e size true T)).setBlk bid (.box eb (cells.set off (.d (.sl size T))))):=by
 rintro a w ⟨I,ρ,C,h⟩
 have z:k≠bid:=by rintro rfl;rw[hb] at G;cases G
 obtain⟨Y,h1,Z,h3⟩:=h.shareRow G;refine⟨Y,ρ,C,Z.rebox (eb:=eb) (cells:=cells) (by rw[yA,if_neg z];exact hb) fun xs hx=>hx.set_right hc fun x H=>?_⟩
 have O:x= ρ k:=H;rw[O];exact h3
theorem zBD {t z e size:Nat} {sh:Bool} {G:List DV} (T:t<E.n) (Z:S.get t= .row z) (Y:S.blk z= .row e size sh G):zE3 E S ((S.setBlk z (.row e size true G)).put t (.d (.sl size G))):=by
 rintro a w ⟨I,ρ,C,h⟩
 obtain⟨H,h1,k,O⟩:=h.shareRow Y;refine⟨H,ρ,C,⟨fun u=>?_,k.blks,k.dist,by rw[zCW _ _ T];exact k.frame,k.sub,k.old,k.size,k.defers,k.cI,k.cB,k.nm⟩⟩
 rw[vX];by_cases e:t=u;subst e;simp only[if_true];have:=h.tmps t;rw[Z] at this;have hv:a.tmps.getD t undef= ρ z:=this;rw[hv];exact O;simp only[e,if_false];exact k.tmps u
theorem zH8 {t:Nat} (size:Nat) (z:t<E.n) (G:S.get t= .d (.v (.slice none 0 0))):zE3 E S (S.put t (.d (.sl size []))):=by
 rintro a w ⟨I,ρ,C,h⟩
 refine⟨I,ρ,C,⟨fun u=>?_,h.blks,h.dist,by rw[zCW _ _ z];exact h.frame,h.sub,h.old,h.size,h.defers,h.cI,h.cB,h.nm⟩⟩
 rw[vX];by_cases e:t=u;subst e;simp only[if_true];have:=h.tmps t;rw[G] at this;generalize a.tmps.getD t undef=v at this ⊢;have k:Rep w I v (.v (.slice none 0 0)):=this;cases k;exact .nil _ _ _;simp only[e,if_false];exact h.tmps u
theorem AOp.int {o:Oper} {k:IntKind} {a b:Int} (h:AOp P r E S o d (.d (.v (.int k a)))) (e:a=b):AOp P r E S o d (.d (.v (.int k b))):=e▸h
theorem AOp.data {o:Oper} {a b:DV} (h:AOp P r E S o d (.d a)) (e:a=b):AOp P r E S o d (.d b):=e▸h
theorem AOp.bool {o:Oper} {a b:Bool} (h:AOp P r E S o d (.d (.v (.bool a)))) (e:a=b):AOp P r E S o d (.d (.v (.bool b))):=e▸h
theorem zCF {t u:Nat} {x y:DV} (h:S.dv (S.get t).un=some x) (k:S.dv (S.get u).un=some y):RetS P S [.tmp t,.tmp u] [x,y]:=⟨_,_,rfl,h,_,_,rfl,k,rfl⟩
theorem zFS {t u v:Nat} {x y z:DV} (h:S.dv (S.get t).un=some x) (k:S.dv (S.get u).un=some y) (G:S.dv (S.get v).un=some z):RetS P S [.tmp t,.tmp u,.tmp v] [x,y,z]:=⟨_,_,rfl,h,_,_,rfl,k,_,_,rfl,G,rfl⟩
theorem yK7 (a:Int) (h:0≤a) (z:a<18446744073709551616) (w:World):(Op.intBits .and .u64 a 4294967295).run P w= .ok (.int .u64 (a%4294967296)) w:=by obtain⟨n,rfl⟩:=Int.eq_ofNat_of_zero_le h;have hb:=u64_and_nat n 4294967295 (by omega) (by omega);have k:n &&& 4294967295=n%4294967296:=Nat.and_two_pow_sub_one_eq_mod n 32;have e:(Op.intBits .and .u64 (n:Int) 4294967295).run P w= .ok (.int .u64 (bits .and .u64 (n:Int) ((4294967295:Nat):Int))) w:=rfl;rw[e,hb,k];rfl
theorem z36 {x y:Operand} {a:Int} {tx tz:TypeId} (z:d<E.n) (G:S.ev x= .d (.v (.int .u64 a))) (H:S.ev y= .d (.v (.int .u64 4294967295))) (h:0≤a) (k:a<18446744073709551616):
  AOp P r E S ⟨some d,.binOp .and tx x y tz,ty,pos,af,g⟩ d (.d (.v (.int .u64 (a%4294967296)))):=z8S z G H (fun w=>yK7 a h k w)
theorem zTI {n:Int} (h:0≤n) (k:n<18446744073709551616):IntKind.u64.wrap n=n:=by have e:IntKind.u64.wrap n=n%18446744073709551616:=rfl;rw[e];omega
theorem zQH {k h:IntKind} {x:Operand} {a b:Int} {z td:TypeId} {ds:TypeDesc} (H:d<E.n) (O:P.underlying z=some ds) (G:P.underlying td=some (.int h)) (Y:S.ev x= .d (.v (.int k a))) (T:h.wrap a=b):
  AOp P r E S ⟨some d,.convert z td x,ty,pos,af,g⟩ d (.d (.v (.int h b))):=T▸zS9 H O G Y
end
end Go.AV
namespace Go.AV
open Go.RowKit
def zYC (l:List Oper) (N:Nat):Bool:=
 let c:=clo l []
 (decide (1≤N)&&decide (N<l.length))&&
 (List.range l.length).all fun i=>match l[i]? with
  | none=>true
  | some o=>
   ((aft o).all fun j=>decide (j<i))&&
   (if i<N then
    ((o.looksAt l.toArray).all fun t=>(List.range N).all fun j=>
     if Nat.beq i 0 ||Nat.beq j 0 then dstAt l j != some t
     else (Nat.beq j i ||(dstAt l j != some t)) ||(if j<i then (c.getD i []).contains j else (c.getD j []).contains i))&&
    ((List.range N).all fun j=>Nat.beq j i ||(dstAt l j != o.dst))
   else (List.range i).all fun j=>(Nat.beq i N&&Nat.beq j 0) ||(c.getD i []).contains j)
structure DrawOkF (l:List Oper) (N:Nat):Prop where
 pos:1≤N
 lt:N<l.length
 aft:∀i o,l[i]? =some o→∀j∈aft o,j<i
 looks:∀i o,i<N→i≠0→l[i]? =some o→∀t∈o.looksAt l.toArray,∀j,j<N→j≠0→j≠i→dstAt l j=some t→if j<i then Reach l i j else Reach l j i
 free:∀i o,i<N→l[i]? =some o→∀t∈o.looksAt l.toArray,∀j,j<N→i=0∨j=0→dstAt l j≠some t
 dist:∀i o,i<N→l[i]? =some o→∀j,j<N→j≠i→dstAt l j≠o.dst
 tail:∀i o,N≤i→l[i]? =some o→∀j,j<i→¬(i=N∧j=0)→Reach l i j
theorem zYD {l:List Oper} {N:Nat} (h:zYC l N=true):DrawOkF l N:=by
 have hc:∀i j,j∈(clo l []).getD i []→Reach l i j:=zWI l l [] (fun k o hk=>by simpa using hk) (fun i j H=>by simp at H);simp only[zYC,Bool.and_eq_true,decide_eq_true_eq,List.all_eq_true,List.mem_range] at h;obtain⟨⟨ad,O⟩,h⟩:=h;have hi:∀(i:Nat) o,l[i]? =some o→i<l.length:=fun i o G=>(List.getElem?_eq_some_iff.1 G).1;have z:∀(i:Nat) o,l[i]? =some o→i<N→(∀t∈o.looksAt l.toArray,∀j,j<N→(if Nat.beq i 0 ||Nat.beq j 0 then dstAt l j != some t
     else (Nat.beq j i ||(dstAt l j != some t)) ||(if j<i then ((clo l []).getD i []).contains j else ((clo l []).getD j []).contains i))=true)∧∀j,j<N→(Nat.beq j i ||(dstAt l j != o.dst))=true:=by
  intro i o G T;have:=h i (hi i o G);simp only[G,Bool.and_eq_true,List.all_eq_true,decide_eq_true_eq,T,if_true,List.mem_range] at this;exact this.2
 refine⟨ad,O,fun i o G j H=>?_,fun i o T h0 G t ht j H ac Y Z=>?_,fun i o T G t ht j H h0 Z=>?_,fun i o T G j H Y Z=>?_,fun i o T G j H ag=>?_⟩
 ·have:=h i (hi i o G)
  simp only[G,Bool.and_eq_true,List.all_eq_true,decide_eq_true_eq] at this;exact this.1 j H
 ·have h2:=(z i o G T).1 t ht j H
  have e:(Nat.beq i 0 ||Nat.beq j 0)=false:=by
   rw[Bool.or_eq_false_iff];exact⟨by rw[Bool.eq_false_iff];intro h;exact h0 (Nat.eq_of_beq_eq_true h),by rw[Bool.eq_false_iff];intro h;exact ac (Nat.eq_of_beq_eq_true h)⟩
  rw[e] at h2;simp only[Bool.false_eq_true,if_false,Bool.or_eq_true,Nat.beq_eq] at h2;rcases h2 with (h2 | h2) | h2
  ·exact absurd h2 Y
  ·rw[Z] at h2;simp at h2
  ·by_cases O:j<i
   ·simp only[O,if_true] at h2 ⊢;exact hc i j (by simpa using h2)
   ·simp only[O,if_false] at h2 ⊢;exact hc j i (by simpa using h2)
 ·have h2:=(z i o G T).1 t ht j H
  have e:(Nat.beq i 0 ||Nat.beq j 0)=true:=by rcases h0 with rfl | rfl<;>simp
  rw[e] at h2;simp only[if_true] at h2;rw[Z] at h2;simp at h2
 ·have h2:=(z i o G T).2 j H
  simp only[Bool.or_eq_true,Nat.beq_eq] at h2;rcases h2 with h2 | h2
  ·exact Y h2
  ·rw[Z] at h2;simp at h2
 ·have:=h i (hi i o G)
  have hn:¬i<N:=by omega
  simp only[G,Bool.and_eq_true,List.all_eq_true,decide_eq_true_eq,hn,if_false,List.mem_range,Bool.or_eq_true,Nat.beq_eq] at this;rcases this.2 j H with h2 | h2
  ·exact absurd h2 ag
  ·exact hc i j (by simpa using h2)
section
variable {P:Program} {r:Option Nat} {E:Env} {S:AState} {d:Nat}
variable {l:List Oper} {N:Nat} {Q:Exit→Act→World→Prop}
theorem zNY (k:∀(i:Nat) o,l[i]? =some o→∀j∈aft o,j<i) {listed:Array Bool} (T:listed.size=l.length) (h:Region.ready .any l.toArray listed= []):∀i,i<l.length→listed.getD i false=true:=by
 intro i
 induction i using Nat.strongRecOn with
 | _ i Y=>
  intro hi;cases hb:listed.getD i false with
  | true=>rfl
  | false=>
   exfalso;have G:i<listed.size:=by omega
   have H:listed.getD i true=false:=by simpa[Array.getD_eq_getD_getElem?,G] using hb
   have:=zTD (l:=l) (o:=l[i]) (List.getElem?_eq_getElem hi) H (fun j O=>by
    have z:=k i _ (List.getElem?_eq_getElem hi) j O;exact Y j z (by omega))
   rw[h] at this;cases this
theorem zWP (aa:∀(i:Nat) o,l[i]? =some o→∀j∈aft o,j<i) (an:∀(i:Nat) o,N≤i→l[i]? =some o→∀j,N≤j→j<i→Reach l i j) {J:AState→Prop} (hq:∀S' a' w',J S'→Sat E S' a' w'→Q .normal a' w'):
  ∀(fuel m:Nat) (listed:Array Bool) (S:AState) (a:Act) (w:World),N≤m→Down l listed→unl listed≤fuel→(∀i,i<l.length→(listed.getD i false=true↔i<m))→
   Sq P r E l.toArray (l.drop m) S J→Sat E S a w→wpAnyIn (fen r) 0 P .any l.toArray Q fuel listed a w:=by
 intro fuel
 induction fuel with
 | zero=>
  intro m listed S a w hm O hu Z z hs;have G:∀i,i<l.length→listed.getD i false=true:=fun i hi=>zLZ (by omega) i (by rw[O.size];exact hi)
  have T:l.length≤m:=by
   rcases Nat.lt_or_ge m l.length with h | h
   ·have:=(Z m h).1 (G m h);omega
   ·exact h
  rw[List.drop_of_length_le T] at z;exact⟨zQF G O.size,hq S a w z hs⟩
 | succ fuel ih=>
  intro m listed S a w hm O hu Z z hs;refine⟨fun ag=>?_,fun i hi=>?_⟩
  ·have G:=zNY aa O.size ag
   have T:l.length≤m:=by
    rcases Nat.lt_or_ge m l.length with h | h
    ·have:=(Z m h).1 (G m h);omega
    ·exact h
   rw[List.drop_of_length_le T] at z;exact hq S a w z hs
  ·obtain⟨h1,h2,h3⟩:=zER hi
   have H:i<listed.size:=by rw[O.size];exact h1
   have ad:=List.getElem?_eq_getElem h1;have ab:listed.getD i false=false:=by simpa[Array.getD_eq_getD_getElem?,H] using h2
   have au:m≤i:=by
    rcases Nat.lt_or_ge i m with h | h
    ·have:=(Z i h1).2 h;rw[ab] at this;cases this
    ·exact h
   have ac:i=m:=by
    rcases Nat.lt_or_ge m i with h | h
    ·have hr:=an i _ (by omega) ad m hm h
     have:=O.reach hr h3;have:=(Z m (by omega)).1 this;omega
    ·omega
   subst ac;rw[List.drop_eq_getElem_cons h1] at z;obtain⟨S',Y,ah⟩:=z;have al:listed[i]? =some false:=by
    have:listed[i]=false:=by simpa[Array.getD_eq_getD_getElem?,H] using ab
    rw[Array.getElem?_eq_getElem H,this]
   unfold wpOpIn;simp only[List.getElem?_toArray,ad];refine Y a w _ Q hs fun a' w' am=>?_;refine ih (i+1) _ S' a' w' (by omega) (O.set h3) (by have:=zMS al;omega) (fun k hk=>?_) ah am
   rw[zCN H];by_cases e:i=k
   ·subst e;simp
   ·simp only[e,if_false]
    rw[Z k hk];omega
theorem z37 (Z:DrawOkF l N) {J:AState→Prop} (hq:∀S' a' w',J S'→Sat E S' a' w'→Q .normal a' w') (S:AState) (p0:Nat×AV) (H:List (Nat×AV)) (ei:H.length+1=N) {o0:Oper} (bb:l[0]? =some o0)
  (hA:∀(i:Nat) o p,i+1<N→l[i+1]? =some o→H[i]? =some p→zTA P r E l.toArray (zH6 S (H.take i)) o p.1 p.2)
  (bz:zTA P r E l.toArray (zH6 S H) o0 p0.1 p0.2)
  (hB:Sq P r E l.toArray (l.drop N) ((zH6 S H).put p0.1 p0.2) J)
  (cx:∃Sb,(∀o,l[N]? =some o→zRB P r E l.toArray o (zH6 S H) Sb)∧∃Sc,zRB P r E l.toArray o0 Sb Sc∧Sq P r E l.toArray (l.drop (N+1)) Sc J):
  ∀(fuel:Nat) (listed:Array Bool) (S':AState) (a:Act) (w:World),Down l listed→unl listed≤fuel→(∀i,N≤i→i<l.length→listed.getD i false=false)→
   Lst S (p0::H) (fun i=>listed.getD i false) S'→Sat E S' a w→wpAnyIn (fen r) 0 P .any l.toArray Q fuel listed a w:=by
 have dx:=Z.pos;have be:=Z.lt;have ad:∀(i:Nat) p,(p0::H)[i]? =some p→∃o,l[i]? =some o∧i<N∧o.dst=some p.1:=by
  intro i p G;cases i with
  | zero=>simp at G;subst G;exact⟨o0,bb,by omega,bz.1⟩
  | succ i=>
   have ck:H[i]? =some p:=by simpa using G
   have hi:i<H.length:=(List.getElem?_eq_some_iff.1 ck).1;have ab:=List.getElem?_eq_getElem (l:=l) (i:=i+1) (by omega);exact⟨_,ab,by omega,(hA i _ p (by omega) ab ck).1⟩
 have ai:∀(i j:Nat) p q,(p0::H)[i]? =some p→(p0::H)[j]? =some q→i≠j→p.1≠q.1:=by
  intro i j p q G am bg he;obtain⟨o,ho,hi,hd⟩:=ad i p G;obtain⟨o',ba,hj,ah⟩:=ad j q am;refine Z.dist i o hi ho j hj (fun e=>bg e.symm) ?_;simp only[dstAt,ba,Option.bind_some,ah,hd,he]
 have aq:∀(i j:Nat) p q,H[i]? =some p→H[j]? =some q→i≠j→p.1≠q.1:=fun i j p q G am bg=>ai (i+1) (j+1) p q (by simpa using G) (by simpa using am) (by omega);have ef:∀(i:Nat) p,H[i]? =some p→p.1≠p0.1:=fun i p G=>ai (i+1) 0 p p0 (by simpa using G) rfl (by omega);obtain⟨g1,g2⟩:=zOR H S aq;have cc:∀S',Lst S (p0::H) (fun i=>decide (0<i)) S'→∀t,S'.get t=(zH6 S H).get t:=by
  intro S' h t;by_cases aj:∃(i:Nat) (p:Nat×AV),H[i]? =some p∧p.1=t
  ·obtain⟨i,p,G,rfl⟩:=aj
   rw[h.yes (i+1) p (by simpa using G) (by simp),g1 i p G]
  ·have al:∀(i:Nat) p,H[i]? =some p→p.1≠t:=fun i p G e=>aj ⟨i,p,G,e⟩
   rw[h.no t (fun i p G hi=>by
    cases i with
    | zero=>simp at hi
    | succ i=>exact al i p (by simpa using G)),g2 t al]
 have cb:∀S',Lst S (p0::H) (fun _=>true) S'→∀t,S'.get t=((zH6 S H).put p0.1 p0.2).get t:=by
  intro S' h t;rw[vX];by_cases e0:p0.1=t
  ·subst e0;simp only[if_true];exact h.yes 0 p0 rfl rfl
  ·simp only[e0,if_false]
   by_cases aj:∃(i:Nat) (p:Nat×AV),H[i]? =some p∧p.1=t
   ·obtain⟨i,p,G,rfl⟩:=aj
    rw[h.yes (i+1) p (by simpa using G) rfl,g1 i p G]
   ·have al:∀(i:Nat) p,H[i]? =some p→p.1≠t:=fun i p G e=>aj ⟨i,p,G,e⟩
    rw[h.no t (fun i p G hi=>by
     cases i with
     | zero=>simp at G;subst G;exact e0
     | succ i=>exact al i p (by simpa using G)),g2 t al]
 intro fuel
 induction fuel with
 | zero=>
  intro listed S' a w hd hu hN hL hs;have:=zLZ (listed:=listed) (by omega) N (by rw[hd.size];exact be)
  rw[hN N (Nat.le_refl _) be] at this;cases this
 | succ fuel ih=>
  intro listed S' a w hd hu hN hL hs;refine⟨fun az=>?_,fun i hi=>?_⟩
  ·have:=zNY Z.aft hd.size az N be
   rw[hN N (Nat.le_refl _) be] at this;cases this
  ·obtain⟨h1,h2,h3⟩:=zER hi
   have ak:i<listed.size:=by rw[hd.size];exact h1
   have ab:=List.getElem?_eq_getElem h1;have bm:listed.getD i false=false:=by simpa[Array.getD_eq_getD_getElem?,ak] using h2
   have cg:listed[i]? =some false:=by
    have:listed[i]=false:=by simpa[Array.getD_eq_getD_getElem?,ak] using bm
    rw[Array.getElem?_eq_getElem ak,this]
   by_cases bl:i<N
   ·have dj:i<(p0::H).length:=by simp;omega
    have G:=List.getElem?_eq_getElem dj;have ao:∀t∈(l[i]).looksAt l.toArray,∀(j:Nat) q,(p0::H)[j]? =some q→(i=0∨j=0)→q.1≠t:=by
     intro t ht j q ax h0 he;obtain⟨o',ba,bn,bj⟩:=ad j q ax;exact Z.free i _ bl ab t ht j bn h0 (by simp[dstAt,ba,bj,he])
    have bd:zRB P r E l.toArray l[i] S' (S'.put (p0::H)[i].1 (p0::H)[i].2):=by
     by_cases cz:i=0
     ·subst cz
      have e0:l[0]=o0:=by rw[ab] at bb;exact Option.some.inj bb
      have:=bz.2.2 S' (by rw[zFQ,hL.blks]) (fun t ht=>by
       rw[hL.no t (fun k p z _=>ao t (by rw[e0];exact ht) k p z (.inl rfl)),g2 t (fun k p z=>ao t (by rw[e0];exact ht) (k+1) p (by simpa using z) (.inl rfl))])
      rw[e0];exact this
     ·obtain⟨m,rfl⟩:∃m,i=m+1:=⟨i-1,by omega⟩
      have dk:H[m]? =some (p0::H)[m+1]:=by simp
      obtain⟨eg,eh,br⟩:=hA m _ _ bl ab dk;refine br S' (by rw[zFQ,hL.blks]) fun t ht=>?_;have bf:∀(a b:Nat) p q,(H.take m)[a]? =some p→(H.take m)[b]? =some q→a≠b→p.1≠q.1:=by
       intro a b p q G am bg;rw[List.getElem?_take] at G am;split at G
       ·split at am
        ·exact aq a b p q G am bg
        ·cases am
       ·cases G
      obtain⟨cu,bh⟩:=zOR (H.take m) S bf;have T:∀(k:Nat) p,(H.take m)[k]? =some p→k<m∧H[k]? =some p:=by
       intro k p z;rw[List.getElem?_take] at z;split at z
       ·exact⟨by assumption,z⟩
       ·cases z
      by_cases aj:∃(j:Nat) (q:Nat×AV),H[j]? =some q∧q.1=t
      ·obtain⟨j,q,ax,rfl⟩:=aj
       have bc:(p0::H)[j+1]? =some q:=by simpa using ax
       obtain⟨o',ba,bn,bj⟩:=ad (j+1) q bc;have cd:dstAt l (j+1)=some q.1:=by simp[dstAt,ba,bj]
       have only:∀(k:Nat) p,(p0::H)[k]? =some p→p.1=q.1→k=j+1:=by
        intro k p z he;rcases Nat.decEq k (j+1) with h | h
        ·exact absurd he (ai k (j+1) p q z bc h)
        ·exact h
       by_cases bo:j=m
       ·subst bo
        rw[hL.no q.1 (fun k p z ac he=>by
          have:=only k p z he;subst this;rw[bm] at ac;cases ac),
         bh q.1 (fun k p z he=>by
          obtain⟨dc,Y⟩:=T k p z;exact aq k j p q Y ax (by omega) he)]
       ·have:=Z.looks (m+1) _ bl (by omega) ab q.1 ht (j+1) bn (by omega) (by omega) cd
        by_cases ci:j<m
        ·simp only[show j+1<m+1 by omega,if_true] at this
         have dg:=hd.reach this h3;rw[hL.yes (j+1) q bc dg];exact(cu j q (by rw[List.getElem?_take,if_pos ci];exact ax)).symm
        ·simp only[show ¬j+1<m+1 by omega,if_false] at this
         have dh:listed.getD (j+1) false=false:=by
          cases hb:listed.getD (j+1) false with
          | false=>rfl
          | true=>
           have:=hd.reach this (fun o ho k z=>hd.down (j+1) o ho hb k z);rw[bm] at this;cases this
         rw[hL.no q.1 (fun k p z ac he=>by
           have:=only k p z he;subst this;rw[dh] at ac;cases ac),
          bh q.1 (fun k p z he=>by
           obtain⟨dc,Y⟩:=T k p z;exact aq k j p q Y ax (by omega) he)]
      ·have al:∀(k:Nat) p,H[k]? =some p→p.1≠t:=fun k p z e=>aj ⟨k,p,z,e⟩
       rw[hL.no t (fun k p z _=>by
        cases k with
        | zero=>exact ao t ht 0 p z (.inr rfl)
        | succ k=>exact al k p (by simpa using z)),bh t (fun k p z=>al k p (T k p z).2)]
    unfold wpOpIn;simp only[List.getElem?_toArray,ab];refine bd a w _ Q hs fun a' w' bq=>?_;refine ih _ (S'.put (p0::H)[i].1 (p0::H)[i].2) a' w' (hd.set h3) (by have:=zMS cg;omega) (fun k z df=>?_) ⟨hL.blks,fun k p z ac=>?_,fun t ht=>?_⟩ bq
    ·rw[zCN ak,if_neg (by omega)];exact hN k z df
    ·rw[zCN ak] at ac
     rw[vX];by_cases e:i=k
     ·subst e
      rw[G] at z;cases z;simp
     ·simp only[e,if_false] at ac
      rw[if_neg (ai i k _ p G z e)];exact hL.yes k p z ac
    ·rw[vX,if_neg (ht i _ G (by rw[zCN ak];simp))]
     exact hL.no t fun k p z ac=>ht k p z (by rw[zCN ak];split<;>simp_all)
   ·have ce:i=N:=by
     rcases Nat.lt_or_ge N i with h | h
     ·have:=hd.reach (Z.tail i _ (by omega) ab N h (by omega)) h3
      rw[hN N (Nat.le_refl _) (by omega)] at this;cases this
     ·omega
    subst ce;have an:∀k,k<i→k≠0→listed.getD k false=true:=fun k z h0=>hd.reach (Z.tail i _ (by omega) ab k z (by omega)) h3;have cn:∀(i':Nat) o,i≤i'→l[i']? =some o→∀j,i≤j→j<i'→Reach l i' j:=fun i' o cy ho j hj bo=>Z.tail i' o cy ho j bo (by omega);cases h0:listed.getD 0 false with
    | true=>
     have ca:∀k,k<i→listed.getD k false=true:=fun k z=>by
      by_cases e:k=0
      ·subst e;exact h0
      ·exact an k z e
     have bd:Sat E ((zH6 S H).put p0.1 p0.2) a w:=zMR (by show (zH6 S H).blks=_;rw[zFQ,hL.blks]) (fun t=>(cb S' ⟨hL.blks,fun k p G _=>hL.yes k p G (ca k (ad k p G).choose_spec.2.1),fun t ht=>hL.no t fun k p G _=>ht k p G rfl⟩ t).symm) hs
     have bt:=zWP (P:=P) (r:=r) Z.aft cn hq (fuel+1) i listed _ a w (Nat.le_refl _) hd hu (fun k z=>⟨fun Y=>(by
      rcases Nat.lt_or_ge k i with h | h
      ·exact h
      ·rw[hN k h z] at Y;cases Y),fun Y=>ca k Y⟩) hB bd
     exact bt.2 i hi
    | false=>
     have bd:Sat E (zH6 S H) a w:=zMR (by rw[zFQ,hL.blks]) (fun t=>(cc S' ⟨hL.blks,fun k p G z=>hL.yes k p G (an k (ad k p G).choose_spec.2.1 (by simp at z;omega)),fun t ht=>hL.no t fun k p G z=>ht k p G (by
      cases k with
      | zero=>rw[h0] at z;cases z
      | succ k=>simp)⟩ t).symm) hs
     obtain⟨Sb,dl,Sc,dm,dn⟩:=cx;unfold wpOpIn;simp only[List.getElem?_toArray,ab];refine dl _ ab a w _ Q bd fun a' w' bq=>?_;have ah:=hd.set h3;have cp:unl (listed.setIfInBounds i true)≤fuel:=by have:=zMS cg;omega
     have hg:∀k,k<l.length→((listed.setIfInBounds i true).getD k false=true↔k≤i∧k≠0):=by
      intro k z;rw[zCN ak];by_cases e:i=k
      ·subst e;simp;omega
      ·simp only[e,if_false]
       constructor
       ·intro Y
        refine⟨?_,fun e0=>by subst e0;rw[h0] at Y;cases Y⟩
        rcases Nat.lt_or_ge k i with h | h
        ·omega
        ·rw[hN k h z] at Y;cases Y
       ·intro ⟨Y,de⟩;exact an k (by omega) de
     revert ah cp hg
     generalize listed.setIfInBounds i true=O;intro ah cp hg;cases fuel with
     | zero=>
      have:=zLZ (listed:=O) (by omega) 0 (by rw[ah.size];omega)
      exact absurd ((hg 0 (by omega)).1 this).2 (by simp)
     | succ fuel=>
      refine⟨fun az=>?_,fun j hj=>?_⟩
      ·have:=zNY Z.aft ah.size az 0 (by omega)
       exact absurd ((hg 0 (by omega)).1 this).2 (by simp)
      ·obtain⟨k1,k2,k3⟩:=zER hj
       have ar:j<O.size:=by rw[ah.size];exact k1
       have bp:=List.getElem?_eq_getElem k1;have cf:O.getD j false=false:=by simpa[Array.getD_eq_getD_getElem?,ar] using k2
       have da:j=0:=by
        rcases Nat.eq_zero_or_pos j with h | h
        ·exact h
        ·exfalso
         rcases Nat.lt_or_ge i j with h' | h'
         ·have:=ah.reach (Z.tail j _ (by omega) bp 0 h (by omega)) k3
          exact absurd ((hg 0 (by omega)).1 this).2 (by simp)
         ·have:=(hg j k1).2 ⟨h',by omega⟩
          rw[cf] at this;cases this
       subst da;have ch:O[0]? =some false:=by
        have:O[0]=false:=by simpa[Array.getD_eq_getD_getElem?,ar] using cf
        rw[Array.getElem?_eq_getElem ar,this]
       unfold wpOpIn;simp only[List.getElem?_toArray,bp];have e0:l[0]=o0:=by rw[bp] at bb;exact Option.some.inj bb
       rw[e0];refine dm a' w' _ Q bq fun ct dq cm=>?_;refine zWP (P:=P) (r:=r) Z.aft cn hq fuel (i+1) _ Sc ct dq (by omega) (ah.set k3) (by have:=zMS ch;omega) (fun k z=>?_) dn cm
       rw[zCN ar];by_cases e:0=k
       ·subst e;simp
       ·simp only[e,if_false]
        rw[hg k z];omega
theorem z8X {id:Nat} {K:Exit→AState→Prop} {S:AState} {o0 oB:Oper} {front tail:List Oper} (N:Nat) (hm:P.follows .mixedOrders=true) (ah:zYC l N=true) (H:l=o0::(front++oB::tail)) (Z:front.length+1=N)
  (h:DA P r E l.toArray front S (fun T=>Sq P r E l.toArray (oB::o0::tail) T (K .normal)∧∃d x,zTA P r E l.toArray T o0 d x∧Sq P r E l.toArray (oB::tail) (T.put d x) (K .normal))):Avc P r E (.region id l.toArray true) K S:=by
 intro a w hs;have hk:=zYD ah;obtain⟨ps,h1,⟨h2,d,x,Y,G⟩,h3⟩:=DA.list _ h;have z:l.drop N=oB::tail:=by rw[H,←Z];simp
 have k:l.drop (N+1)=tail:=by rw[H,←Z];simp
 have ag:l[N]? =some oB:=by rw[H,←Z];simp
 have ad:∀(i:Nat),i<front.length→l[i+1]? =front[i]?:=by
  intro i hi;rw[H,List.getElem?_cons_succ,List.getElem?_append_left hi]
 obtain⟨Sb,aa,Sc,ab,ac⟩:=h2;refine wpIn_region_any hm (z37 hk (J:=K .normal) (fun S' a' w' hj ai=>⟨S',hj,ai⟩) S (d,x) ps (by omega) (o0:=o0) (by rw[H];rfl) (fun i o p hi O hp=>h3 i o p (by rw[←ad i (by omega)];exact O) hp) Y (by rw[z];exact G)
  ⟨Sb,fun o O=>by rw[ag] at O;cases O;exact aa,Sc,ab,by rw[k];exact ac⟩ _ _ S a _ ⟨by simp,fun i o _ hi=>?_⟩ ?_ (fun i _ hi=>by simp[hi]) ⟨rfl,fun i p _ hi=>?_,fun t _=>rfl⟩ (zTC hs))
 ·simp[Array.getD_eq_getD_getElem?,Array.getElem?_replicate] at hi
  split at hi<;>simp at hi
 ·simp[unl]
 ·simp[Array.getD_eq_getD_getElem?,Array.getElem?_replicate] at hi
  split at hi<;>simp at hi
end
end Go.AV
namespace Go.AV
open Go.RowKit
end Go.AV
namespace Go.AV
open Go.RowKit
structure FldTy (P:Program) (s k off n:Nat) (t:TypeId):Prop where
 fld:∃fields f,P.underlying s=some (.struct fields)∧fields[k]? =some f∧f.offset=off∧f.type=t
 size:∀w,(sizeOf t).run P w= .ok n w
 pos:0<n
theorem zL3 {P:Program} {s k off n:Nat} {t:TypeId} (h:FldTy P s k off n t) (w:World) (b o:Nat):
  (Instr.fieldAt s (.pointer (some ⟨b,o,none⟩)) k).run P w= .ok (.pointer (some ⟨b,o+off,none⟩)) w:=by
 obtain⟨G,f,Y,O,rfl,rfl⟩:=h.fld;have Z:=h.pos;have T:=h.size w;have H:¬n=0:=by omega
 have z:(⟨b,o,none⟩:Addr).add f.offset=⟨b,o+f.offset,none⟩:=by
  unfold Addr.add;split
  ·rename_i e;rw[e];rfl
  ·rfl
 simp[Instr.fieldAt,run_underlying Y,O,Instr.sureAddr,fieldPlace,T,H,z]
theorem z02 {w:World} {I:Im} {ρ:Nat→Value} {cells:List AV} {ds:List DV} {xs:List Value} (h:Pw (Holds w I ρ) xs cells) (k:unD cells=some ds):Reps w I xs ds:=by
 induction cells generalizing xs ds with
 | nil=>simp[unD] at k;subst k;have:xs= []:=List.eq_nil_of_length_eq_zero h.1;subst this;exact Pw.nil
 | cons c cells O=>
  cases xs with
  | nil=>have:=h.1;simp at this
  | cons x xs=>
   cases c with
   | d y=>
    simp only[unD] at k;cases G:unD cells with
    | none=>simp[G] at k
    | some ys=>
     simp[G] at k;subst k;exact Pw.cons (h.2 0 x (.d y) rfl rfl) (O ⟨by have:=h.1;simpa using this,fun j u z G H=>h.2 (j+1) u z (by simpa using G) (by simpa using H)⟩ G)
   | _=>simp[unD] at k
theorem yK8 {w:World} {I:Im} {ρ:Nat→Value} {ds:List DV} {xs:List Value} (h:Reps w I xs ds):Pw (Holds w I ρ) xs (ds.map AV.d):=by refine⟨by rw[h.1,List.length_map],fun j x c z k=>?_⟩;simp only[List.getElem?_map,Option.map_eq_some_iff] at k;obtain⟨y,G,rfl⟩:=k;exact h.2 j x y z G
section
variable {P:Program} {r:Option Nat} {E:Env} {S:AState} {d:Nat} {ty:TypeId} {pos:String} {af:Array Edge} {g:Option (Nat×Bool)}
theorem zEM {s k off n id o:Nat} {t:TypeId} {x:Operand} (G:d<E.n) (H:FldTy P s k off n t) (Z:S.ev x= .ptr id o):
  AOp P r E S ⟨some d,.fieldAddr s x k,ty,pos,af,g⟩ d (.ptr id (o+off)):=
 ⟨rfl,G,fun S' O=>zW rfl G (by simp) fun A w I ρ C T=>by
  have h:=T.ev x;rw[(O.ev (by simp[Op.operands])).trans Z] at h;obtain⟨b,z,Y⟩:=h;refine⟨.pointer (some ⟨b,o+off,none⟩),?_,b,z,rfl⟩;simp only[execOp,Y,Sem.run_bind,zL3 H w b o];rfl⟩
theorem xO {s k off n o:Nat} {t:TypeId} {x:Operand} {cells:List DV} (H:d<E.n) (T:FldTy P s k off n t) (hx:S.ev x= .ip cells o):
  AOp P r E S ⟨some d,.fieldAddr s x k,ty,pos,af,g⟩ d (.ip cells (o+off)):=
 ⟨rfl,H,fun S' Y=>zW rfl H (by simp) fun A w I ρ C hs=>by
  have h:=hs.ev x;rw[(Y.ev (by simp[Op.operands])).trans hx] at h;obtain⟨b,G,xs,hv,Z,O,z⟩:=h;refine⟨.pointer (some ⟨b,G+(o+off),none⟩),?_,b,G,xs,rfl,Z,O,z⟩;simp only[execOp,hv,Sem.run_bind,zL3 T w b (G+o),Nat.add_assoc];rfl⟩
theorem jD {t n id eb:Nat} {x:Operand} {cells:List AV} {ds:List DV} (Z:d<E.n) (hT:AggTy P t n) (hx:S.ev x= .ptr id 0) (hb:S.blk id= .box eb cells) (hd:unD cells=some ds) (hl:cells.length=n):
  AOp P r E S ⟨some d,.load t x,ty,pos,af,g⟩ d (.d (.agg ds)):=
 ⟨rfl,Z,fun S' Y=>zW rfl Z (by simp) fun A w I ρ C hs=>by
  have h:=hs.ev x;rw[(Y.ev (by simp[Op.operands])).trans hx] at h;obtain⟨b,z,hv⟩:=h;have G:=hs.blks id;rw[(Y.blk id).trans hb] at G;obtain⟨T,arr,O,hB,hh,h1,hr,hI⟩:=G;rw[O] at z;simp[blockOf] at z;subst z;have k:Reps w I arr.toList ds:=z02 hr hd;have H:arr.toList.length=n:=by rw[hr.1];exact hl
  refine⟨.agg arr.toList.toArray,?_,.agg _ _ k.1 (fun u hu=>h1 u hu) k.2⟩;simp only[execOp,hv,Sem.run_bind];rw[zDF w hT T 0 arr.toList H (fun j v hj=>by rw[cell_of_row w T _ arr eb (0,0) hh];simpa using hj)]
  rfl⟩
theorem z8Y {k:TypeId} {x:Operand} {ds:List DV} (Z:d<E.n) (hx:S.ev x= .d (.agg ds)) (H:E.nm d=none):
  k4 P r E ⟨some d,.box k x,ty,pos,af,g⟩ S (((S.kill d).setBlk d (.box k (ds.map AV.d))).put d (.ptr d 0)):=
 wM (by simp) fun A w I ρ C T=>by
  have h:=T.ev x;rw[hx] at h;have O:Rep w I (A.eval x) (.agg ds):=h;generalize hv:A.eval x=v at O;cases O with
  | agg xs cells G Y hr=>
   have hb:=T.newBox (id:=d) (e:=k) (arr:=xs.toArray) (cells:=ds.map AV.d) (yK8 ⟨G,hr⟩) (by simpa using Y) H;have z:(ds.map AV.d).map (zEP d)=ds.map AV.d:=by
    rw[List.map_map];rfl
   rw[z] at hb;refine⟨.pointer (some ⟨w.heap.size,0,none⟩),w.alloc (.cells xs.toArray k),?_,I,_,C,hb.put Z (show Holds _ _ _ (.pointer (some ⟨w.heap.size,0,none⟩)) (AV.ptr d 0) from ⟨w.heap.size,by simp[upd,blockOf],rfl⟩)⟩;simp only[execOp,hv,Instr.box,newVar];simp[newRow,Value.cells]
theorem z6D {s k off:Nat} {t:TypeId} {x:Operand} {cells:List DV} {y:DV} (Z:d<E.n) (hT:FldTy P s k off 1 t) (h1:OneTy P t) (hx:S.ev x= .d (.agg cells)) (Y:cells[off]? =some y):
  AOp P r E S ⟨some d,.field s x k,ty,pos,af,g⟩ d (.d y):=
 ⟨rfl,Z,fun S' ha=>zW rfl Z (by simp) fun A w I ρ C hs=>by
  have h:=hs.ev x;rw[(ha.ev (by simp[Op.operands])).trans hx] at h;have T:Rep w I (A.eval x) (.agg cells):=h;generalize hv:A.eval x=v at T;cases T with
  | agg xs cells H ho hr=>
   obtain⟨G,f,hu,hf,rfl,rfl⟩:=hT.fld;have z:f.offset<xs.length:=by rw[H];exact(List.getElem?_eq_some_iff.1 Y).1
   have O:=List.getElem?_eq_getElem z;refine⟨xs[f.offset],?_,hr f.offset _ y O Y⟩;simp[execOp,hv,Instr.field,run_underlying hu,hf,asAgg,part,h1.agg,z]⟩
end
end Go.AV
namespace Go.AV
open Go.RowKit
def zTJ (w:World):Im:=fun b _=>b<w.heap.size
theorem yGO {P:Program} {f:FuncId} {ds:List DV} (G:zE P f ds [.v (.bool true)]) {w:World} {vs:List Value} (hG:GlI (zBO P) w (zTJ w)) (H:Reps w (zTJ w) vs ds):
  Calls P f vs.toArray w fun e w'=>e= .returned (.bool true)∧Below w.heap.size w w':=by
 refine(G.2 w (zTJ w) vs (fun _ _ h=>h) hG H).mono ?_
 rintro e w' ⟨v,z,rfl,hb,_,_,k⟩
 refine⟨?_,hb⟩;have h:Rep w' z v (.v (.bool true)):=k;cases h;rfl
theorem yB1 (w:World) (I:Im):Reps w I [] []:=Pw.nil
theorem zQI {w:World} {I:Im} {v:Value} {vs:List Value} {d:DV} {ds:List DV} (h:Rep w I v d) (G:Reps w I vs ds):Reps w I (v::vs) (d::ds):=by
 refine⟨by simp[G.1],fun j x y k z=>?_⟩;cases j with
 | zero=>simp at k z;subst k;subst z;exact h
 | succ j=>exact G.2 j x y (by simpa using k) (by simpa using z)
end Go.AV
namespace Go.AV
theorem lq {a b:Nat} (h:Nat.ble a b=true):a≤b:=Nat.le_of_ble_eq_true h
end Go.AV
namespace Go.M
abbrev Str:=List UInt8
def z7 {h:Type} (l:List h) (i:Int):Option h:=if 0≤i then l[i.toNat]? else none
def uQ {h:Type} (l:List h) (i:Int) (x: h):Option (List h):=if 0≤i∧i.toNat<l.length then some (l.set i.toNat x) else none
def slc {h:Type} (l:List h) (lo hi:Int):Option (List h):=if 0≤lo∧lo≤hi∧hi.toNat≤l.length then some ((l.take hi.toNat).drop lo.toNat) else none
def LIM:Nat:=4294967296
def app {h:Type} (l m:List h):Option (List h):=if l.length+m.length≤LIM then some (l++m) else none
def mkM {h:Type} (z: h) (n:Int):Option (List h):=if 0≤n∧n.toNat≤LIM then some (List.replicate n.toNat z) else none
def gM {h:Type} [Inhabited h] (g:Bool) (m:Option h):Option h:=cond g m (some default)
def pv {h:Type} (x: h):Option h:=some x
def zIX (k:Int→Int) (a b:Int):Option Int:=if b=0 then none else some (k (a.tdiv b))
def zD3 (a b:Int):Option Int:=if b=0 then none else some (a.tmod b)
def z03 (s:Str) (i:Int):Option Int:=(z7 s i).map fun b=>(b.toNat:Int)
def mget {h z:Type} [DecidableEq h] (m:List (h×z)) (k: h):Option z:=match m with
 | []=>none
 | (G,v)::r=>if k=G then some v else mget r k
def zAQ {h z:Type} [DecidableEq h] (m:List (h×z)) (k: h) (v: z):List (h×z):=match m with
 | []=>[(k,v)]
 | (G,H)::r=>if k=G then (k,v)::r else (G,H)::zAQ r k v
def zAN {h G:Type} [DecidableEq h] (m:List (h×G)) (k: h) (z: G): G:=(mget m k).getD z
def zCO {h z:Type} [DecidableEq h] (m:List (h×z)) (k: h):Bool:=(mget m k).isSome
inductive Stp (X Y:Type) where
 | next (x:X)
 | done (y:Y)
def iter {X Y:Type} (body:X→Option (Stp X Y)):Nat→X→Option Y
 | 0,_=>none
 | n+1,x=>match body x with
  | none=>none
  | some (.next x')=>iter body n x'
  | some (.done y)=>some y
theorem zWQ {X Y:Type} {body:X→Option (Stp X Y)} {y:Y}:∀{n m:Nat} {x:X},n≤m→iter body n x=some y→iter body m x=some y:=by
 intro n
 induction n with
 | zero=>intro m x _ h;cases h
 | succ n k=>
  intro m x z h;cases m with
  | zero=>omega
  | succ m=>
   simp only[iter] at h ⊢;cases hb:body x with
   | none=>rw[hb] at h;cases h
   | some s=>
    rw[hb] at h;cases s with
    | next x'=>exact k (by omega) h
    | done G=>exact h
open Classical in
noncomputable def zC {X Y:Type} (body:X→Option (Stp X Y)) (x:X):Option Y:=
 if h:∃n y,iter body n x=some y then some (Classical.choose (Classical.choose_spec h)) else none
theorem zKK {X Y:Type} {body:X→Option (Stp X Y)} {x:X} {y:Y}:zC body x=some y↔∃n,iter body n x=some y:=by
 unfold zC;constructor;intro h;split at h;rename_i k;have:=Classical.choose_spec (Classical.choose_spec k);cases h;exact⟨_,this⟩;cases h
 rintro⟨n,G⟩
 have k:∃n y,iter body n x=some y:=⟨n,y,G⟩;rw[dif_pos k];have H:=Classical.choose_spec (Classical.choose_spec k);have O:=zWQ (Nat.le_max_left (Classical.choose k) n) H;have z:=zWQ (Nat.le_max_right (Classical.choose k) n) G;rw[O] at z;exact z
theorem jO {X Y:Type} (body:X→Option (Stp X Y)) (x:X):zC body x=match body x with
  | none=>none
  | some (.next x')=>zC body x'
  | some (.done y)=>some y:=by
 apply Option.ext;intro y;rw[zKK];constructor
 ·rintro⟨n,k⟩
  cases n with
  | zero=>cases k
  | succ n=>
   simp only[iter] at k;cases hb:body x with
   | none=>rw[hb] at k;cases k
   | some s=>
    rw[hb] at k;cases s with
    | next x'=>exact zKK.2 ⟨n,k⟩
    | done z=>exact k
 ·intro h
  cases hb:body x with
  | none=>rw[hb] at h;cases h
  | some s=>
   rw[hb] at h;cases s with
   | next x'=>
    obtain⟨n,k⟩:=zKK.1 h;exact⟨n+1,by simp only[iter,hb];exact k⟩
   | done z=>exact⟨1,by simp only[iter,hb];exact h⟩
theorem bE {k z:Type} {o:Option k} {f: k→Option z} {b: z} (h:o.bind f=some b):∃a,o=some a∧f a=some b:=Option.bind_eq_some_iff.1 h
theorem cT {k:Type} {c:Bool} {A B:Option k} {r:Option k} (z:c=true) (h:cond c A B=r):A=r:=by subst z;exact h
theorem cF {k:Type} {c:Bool} {A B:Option k} {r:Option k} (z:c=false) (h:cond c A B=r):B=r:=by subst z;exact h
theorem eL {z G k:Type} {f: z→k} {g: G→k} {y: z} {r: k} (h:Sum.elim f g (Sum.inl y)=r):f y=r:=h
theorem eR {G z k:Type} {f: G→k} {g: z→k} {y: z} {r: k} (h:Sum.elim f g (Sum.inr y)=r):g y=r:=h
end Go.M
namespace Go.AV
open Go.RowKit
structure Frag (w:World) (I:Im) (ρ:Nat→Value) (T:List (Nat×Blk)):Prop where
 ok:∀id,BlkOk w I ρ (fun _=>True) id (look Blk.none T id)
 dist:∀id id' b,id≠id'→look Blk.none T id≠ .none→look Blk.none T id'≠ .none→blockOf (ρ id)=some b→blockOf (ρ id')≠some b
def yK9 (w:World) (I:Im) (ρ:Nat→Value) (v:Value):List Cap→Prop
 | [x]=>HoldsC w I ρ v x
 | xs=> ∃ys,v= .tuple ys.toArray∧Pw (HoldsC w I ρ) ys xs
def GC (P:Program) (f:FuncId) (args:List Cap) (T:List (Nat×Blk)) (keep:List Nat) (k:List Cap) (G:List (Nat×Blk)):Prop:=
 (∃H,P.funcs[f]? =some H∧(H.name== "runtime.NumGoroutine")=false∧H.body.isNone=false)∧
 ∀(w:World) (I:Im) (ρ:Nat→Value) (vs:List Value),(∀b j,I b j→b<w.heap.size)→GlI (zBO P) w I→Frag w I ρ T→Pw (HoldsC w I ρ) vs args→
  Calls P f vs.toArray w fun e w'=> ∃v z h,e= .returned v∧Chg w w' (xJ T ρ)∧Same I w w'∧(∀b j,I b j→z b j)∧
   (∀b j,z b j→b<w'.heap.size∧(I b j∨w.heap.size≤b∨xJ T ρ b))∧Frag w' z h G∧yK9 w' z h v k∧
   (∀b,xJ G h b→b<w'.heap.size∧(w.heap.size≤b∨xJ T ρ b))∧(∀id,keep.contains id=true→look Blk.none G id≠ .none→h id= ρ id)
def GCA (P:Program) (f:FuncId) (args:List Cap) (T:List (Nat×Blk)) (keep:List Nat) (H:AV) (z:List (Nat×Blk)):Prop:=
 (∃G,P.funcs[f]? =some G∧(G.name== "runtime.NumGoroutine")=false∧G.body.isNone=false)∧
 ∀(w:World) (I:Im) (ρ:Nat→Value) (vs:List Value),(∀b j,I b j→b<w.heap.size)→GlI (zBO P) w I→Frag w I ρ T→Pw (HoldsC w I ρ) vs args→
  Calls P f vs.toArray w fun e w'=> ∃v k h,e= .returned v∧Chg w w' (xJ T ρ)∧Same I w w'∧(∀b j,I b j→k b j)∧
   (∀b j,k b j→b<w'.heap.size∧(I b j∨w.heap.size≤b∨xJ T ρ b))∧Frag w' k h z∧Holds w' k h v H∧
   (∀b,xJ z h b→b<w'.heap.size∧(w.heap.size≤b∨xJ T ρ b))∧(∀id,keep.contains id=true→look Blk.none z id≠ .none→h id= ρ id)
def Cap.av:Cap→AV
 | .top=> .top
 | .d x=> .d x
 | .ptr i o=> .ptr i o
 | .row i=> .row i
theorem Cap.holds {w:World} {I:Im} {ρ:Nat→Value} {v:Value} {c:Cap} (h:HoldsC w I ρ v c):Holds w I ρ v c.av:=by cases c<;>exact h
def zNM:List Cap→Nat→List (Nat×AV)
 | [],_=>[]
 | x::r,k=>(k,x.av)::zNM r (k+1)
theorem z38 (cs:List Cap):∀(k t:Nat),(k≤t∧∃x,cs[t-k]? =some x∧look AV.top (zNM cs k) t=x.av)∨look AV.top (zNM cs k) t= .top:=by
 induction cs with
 | nil=>intro k t;exact .inr rfl
 | cons x ds H=>
  intro k t;simp only[zNM,kU];by_cases e:k=t;subst e;simp;simp only[e,if_false];rcases H (k+1) t with ⟨O,y,G,z⟩ | h
  refine .inl ⟨by omega,y,?_,z⟩;have:t-k=(t-(k+1))+1:=by omega
  rw[this];simpa using G;exact .inr h
theorem Chg.refl (w:World) (O:Nat→Prop):Chg w w O:=⟨rfl,rfl,rfl,Nat.le_refl _,fun _ _ _=>rfl⟩
def Env.gen (gdt:Nat→Option (List Value)) (w0:World) (I0:Im) (hG:GlI gdt w0 I0) (Y:Nat→Value) (T:List (Nat×Blk)) (keep:List Nat) (n:Nat) (hn:n≤1000000):Env where
 B:=w0.heap.size
 I0:=I0
 n:=n
 fr:=fun _ C w=>(Chg w0 w (xJ T Y)∧Same I0 w0 w)∧(∀b j,I0 b j→b<w0.heap.size)∧∀b,¬C b
 wrB:=true
 nle:=hn
 mine:=fun b=>w0.heap.size≤b∨xJ T Y b
 mineB:=fun _ h=> .inl h
 nm:=fun id=>if keep.contains id then some (Y id) else none
 size:=fun _ _ _ h=>h.1.1.size
 csize:=fun _ _ _ h b hb=>absurd hb (h.2.2 b)
 grow:=fun _ _ w w' h hb=>⟨⟨⟨hb.os.trans h.1.1.os,hb.tape.trans h.1.1.tape,hb.output.trans h.1.1.output,Nat.le_trans h.1.1.size hb.size,fun k H z=>(hb.block k (Nat.lt_of_lt_of_le H h.1.1.size)).trans (h.1.1.block k H z)⟩,
  fun b j hi=>(KeepB.of (hb.block b (Nat.lt_of_lt_of_le (h.2.1 b j hi) h.1.1.size))).trans (h.1.2 b j hi)⟩,h.2⟩
 wr:=fun _ _ _ w w' O h G hr hs=>⟨⟨⟨G.os.trans h.1.1.os,G.tape.trans h.1.1.tape,G.output.trans h.1.1.output,Nat.le_trans h.1.1.size G.size,fun k H z=>(G.block k (Nat.lt_of_lt_of_le H h.1.1.size) (fun e=>by
   rcases (hr k e).1 with h1 | h1
   ·omega
   ·exact z h1)).trans (h.1.1.block k H z)⟩,fun b j hi=>(hs b j hi).trans (h.1.2 b j hi)⟩,h.2⟩
 turn:=fun _ _ _ w w' l h hl Z hs=>⟨⟨⟨Z.os.trans h.1.1.os,Z.tape.trans h.1.1.tape,Z.output.trans h.1.1.output,by rw[Z.size];exact h.1.1.size,fun k H z=>(Z.blk k (by omega)).trans (h.1.1.block k H z)⟩,fun b j hi=>(hs b j hi).trans (h.1.2 b j hi)⟩,h.2⟩
 gdt:=gdt
 gl:=fun _ _ w h g zs G j v hj=>⟨(h.1.2 g j (hG g zs G j v hj).2).cell.trans (hG g zs G j v hj).1,(hG g zs G j v hj).2⟩
def CapOf:AV→Cap→Prop
 | _,.top=>True
 | av,c=>av=c.av
theorem CapOf.holds {w:World} {I:Im} {ρ:Nat→Value} {v:Value} {av:AV} {c:Cap} (h:CapOf av c) (k:Holds w I ρ v av):HoldsC w I ρ v c:=by
 cases c with
 | top=>trivial
 | _=>have e:av=_:=h;rw[e] at k;exact k
section
variable {P:Program} {r:Option Nat} {E:Env} {S:AState} {d:Nat} {ty:TypeId} {pos:String} {af:Array Edge} {g:Option (Nat×Bool)}
def RetGS (P:Program) (S:AState):List ResultVar→List Cap→Prop
 | [],ys=>ys= []
 | .tmp t::h,ys=> ∃y zs,ys=y::zs∧CapOf (S.get t).un y∧RetGS P S h zs
 | .cell a t::h,ys=> ∃y zs id e cells,ys=y::zs∧(S.get a).un= .ptr id 0∧S.blk id= .box e cells∧
   ((OneTy P t∧∃av,cells= [av]∧CapOf av y)∨(∃ds,AggTy P t cells.length∧unD cells=some ds∧y= .d (.agg ds)))∧RetGS P S h zs
def yNX (P:Program) (z:Func) (h:List Cap) (k:List (Nat×Blk)):Exit→AState→Prop
 | .ret,S | .normal,S=>RetGS P S z.results.toList h∧zOS S k
 | _,_=>False
theorem RetGS.holds {a:Act} {w:World} {I:Im} {ρ:Nat→Value} {C:Nat→Prop} (h:SatAt E S a w I ρ C):∀(l:List ResultVar) (rs:List Cap) (_:RetGS P S l rs),
  ∃xs:List Value,(l.mapM (zS7 a.tmps)).run P w= .ok xs w∧Pw (HoldsC w I ρ) xs rs:=by
 intro l
 induction l with
 | nil=>intro rs hr;cases hr;exact⟨[],by simp,Pw.nil⟩
 | cons x l ih=>
  intro rs hr;cases x with
  | tmp t=>
   obtain⟨y,ys,rfl,h1,h2⟩:=hr;obtain⟨xs,O,k⟩:=ih ys h2;exact⟨_::xs,by simp[List.mapM_cons,zS7,O],Pw.cons (h1.holds (h.tmps t).un) k⟩
  | cell ad t=>
   obtain⟨y,ys,id,e,cells,rfl,h1,h2,h3,h4⟩:=hr;obtain⟨xs,O,k⟩:=ih ys h4;have hp:=(h.tmps ad).un;rw[h1] at hp;obtain⟨b,ac,hv⟩:=hp;have Y:=h.blks id;rw[h2] at Y;obtain⟨b',arr,ag,hB,hh,al,H,hI⟩:=Y;have an:b'=b:=by rw[ag] at ac;simpa[blockOf] using ac
   subst an;have z:∀(j:Nat) v,arr.toList[j]? =some v→w.cell? ⟨b',0+j,none⟩=some v:=fun j v hj=>by
    rw[Nat.zero_add,cell_of_row w b' j arr e (0,0) hh];simpa using hj
   rcases h3 with ⟨ho,av,hc,hd⟩ | ⟨ds,ha,hd,rfl⟩
   ·subst hc
    have aa:=H.1
    match T:arr.toList,aa with
    | [v0],_=>
     rw[T] at H z;refine⟨v0::xs,?_,Pw.cons (hd.holds (H.2 0 v0 av rfl rfl)) k⟩;have Z:=z 0 v0 rfl;simp only[Nat.add_zero] at Z;simp[List.mapM_cons,zS7,hv,asAddr,loadVar,ho.agg,run_load,Z,O]
   ·have ab:=z02 H hd
    refine⟨.agg arr.toList.toArray::xs,?_,Pw.cons (.agg _ _ ab.1 al ab.2) k⟩;have G:=zDF (P:=P) w ha b' 0 arr.toList H.1 z;simp only[Instr.loadAt,Instr.sureAddr,Sem.run_bind,Sem.run_pure,Result.andThen_ok] at G;simp only[List.mapM_cons,zS7,hv,asAddr,Sem.run_bind,Sem.run_pure,Result.andThen_ok,G,O]
theorem RetGS.run {a:Act} {w:World} {I:Im} {ρ:Nat→Value} {C:Nat→Prop} {Y:Func} {T:List Cap} (h:SatAt E S a w I ρ C) (H:RetGS P S Y.results.toList T):
  ∃v,(results Y a.tmps).run P w= .ok v w∧yK9 w I ρ v T:=by
 obtain⟨xs,O,k⟩:=RetGS.holds h _ _ H;refine⟨_,zLW O,?_⟩;have Z:=k.1
 match xs,T,Z,k with
 | [],[],_,G=>exact⟨_,rfl,G⟩
 | [x],[y],_,G=>exact G.2 0 _ y rfl rfl
 | x::u::xs,y::z::ys,_,G=>exact⟨x::u::xs,by simp,G⟩
def GCX (P:Program) (f:FuncId) (args:List Cap) (T:List (Nat×Blk)) (keep:List Nat) (R:World→Im→(Nat→Value)→Value→Prop) (z:List (Nat×Blk)):Prop:=
 (∃G,P.funcs[f]? =some G∧(G.name== "runtime.NumGoroutine")=false∧G.body.isNone=false)∧
 ∀(w:World) (I:Im) (ρ:Nat→Value) (vs:List Value),(∀b j,I b j→b<w.heap.size)→GlI (zBO P) w I→Frag w I ρ T→Pw (HoldsC w I ρ) vs args→
  Calls P f vs.toArray w fun e w'=> ∃v k h,e= .returned v∧Chg w w' (xJ T ρ)∧Same I w w'∧(∀b j,I b j→k b j)∧
   (∀b j,k b j→b<w'.heap.size∧(I b j∨w.heap.size≤b∨xJ T ρ b))∧Frag w' k h z∧R w' k h v∧
   (∀b,xJ z h b→b<w'.heap.size∧(w.heap.size≤b∨xJ T ρ b))∧(∀id,keep.contains id=true→look Blk.none z id≠ .none→h id= ρ id)
def yJX (h:AState→Prop) (k:List (Nat×Blk)):Exit→AState→Prop
 | .ret,S | .normal,S=>h S∧zOS S k
 | _,_=>False
theorem yB2 {f:FuncId} {O:Func} {c:Code} {args:List Cap} {T T':List (Nat×Blk)} {keep:List Nat} (R:World→Im→(Nat→Value)→Value→Prop) (RS:AState→Prop) (bb:∀(E:Env) (S:AState) (a:Act) (w:World) (I:Im) (ρ:Nat→Value) (C:Nat→Prop),SatAt E S a w I ρ C→RS S→∃v,(results O a.tmps).run P w= .ok v w∧R w I ρ v) (hf:P.funcs[f]? =some O) (aj:(O.name== "runtime.NumGoroutine")=false) (hb:O.body=some c) (hn:args.length≤O.ntmps) (ai:O.ntmps≤1000000)
  (h:∀w0 I0 hG bd,Avc P none (Env.gen (zBO P) w0 I0 hG bd T keep O.ntmps ai) c (yJX RS T') ⟨zNM args 0,T⟩):GCX P f args T keep R T':=by
 refine⟨⟨O,hf,aj,by simp[hb]⟩,fun w I ρ vs hI hG Z ap=>?_⟩;refine callsIn_wide (n:=0) |>.1 (callsIn_of_wp_marks hf hb trivial ?_)
 have am:vs.length=args.length:=ap.1;have ao:Sat (Env.gen (zBO P) w I hG ρ T keep O.ntmps ai) ⟨zNM args 0,T⟩ {tmps:=vs.toArray++Array.replicate (O.ntmps-vs.toArray.size) undef,defers:=[]} w:=by
  refine⟨I,ρ,fun _=>False,⟨fun t=>?_,fun i=>?_,Z.dist,⟨⟨Chg.refl _ _,kV I w⟩,hI,fun _ h=>h⟩,fun _ _ h=>h,fun b j h=>⟨hI b j h,.inl h⟩,by simp[Env.gen];omega,DefOk.nil,fun _ _ _ h=>h,fun _ _ _ _ h=>h,fun id v hv _=>?_⟩⟩
  ·rcases z38 args 0 t with ⟨_,x,hx,hl⟩ | hl
   ·show Holds _ _ _ _ (look AV.top (zNM args 0) t)
    rw[hl];simp only[Nat.sub_zero] at hx;have ht:t<vs.length:=by rw[am];exact(List.getElem?_eq_some_iff.1 hx).1
    refine Cap.holds (ap.2 t _ x ?_ hx);simp[Array.getD_eq_getD_getElem?,Array.getElem?_append,ht]
   ·show Holds _ _ _ _ (look AV.top (zNM args 0) t)
    rw[hl];trivial
  ·exact(Z.ok i).mineM fun b z ag _=> .inr ⟨i,z,ag⟩
  ·simp only[Env.gen] at hv
   split at hv
   ·cases hv;rfl
   ·cases hv
 refine wpIn_mono (h w I hG ρ _ w ao) ?_
 rintro e a w' ⟨S,hK,I1,be,C,hs⟩
 have ak:RS S∧zOS S T'→LeavesInM (fen none) 0 P O a.tmps (fun e w'=> ∃v I' ac,e= .returned v∧Chg w w' (xJ T ρ)∧Same I w w'∧(∀b j,I b j→I' b j)∧
   (∀b j,I' b j→b<w'.heap.size∧(I b j∨w.heap.size≤b∨xJ T ρ b))∧Frag w' I' ac T'∧R w' I' ac v∧
   (∀b,xJ T' ac b→b<w'.heap.size∧(w.heap.size≤b∨xJ T ρ b))∧(∀id,keep.contains id=true→look Blk.none T' id≠ .none→ac id= ρ id)) a.defers .returning w':=by
  rintro⟨an,ad⟩
  refine zON (B:=w.heap.size) a.defers w' hs.defers fun w2 Y al=>?_;have ah:(Env.gen (zBO P) w I hG ρ T keep O.ntmps ai).fr S.ghost C w2:=by
   refine⟨⟨⟨Y.os.trans hs.frame.1.1.os,Y.tape.trans hs.frame.1.1.tape,Y.output.trans hs.frame.1.1.output,Nat.le_trans hs.frame.1.1.size Y.size,fun k hk z=>(Y.block k hk).trans (hs.frame.1.1.block k hk z)⟩,fun b j hi=>(al.same (I:=I) b j hi).trans (hs.frame.1.2 b j hi)⟩,hs.frame.2⟩
  have G:=hs.taken al ah;obtain⟨v,h1,h2⟩:=bb _ _ _ _ _ _ _ G an;have key:∀id,look Blk.none T' id≠ .none→S.blk id=look Blk.none T' id:=fun id z=>by
   rcases zL1 ad id with h | h
   ·exact absurd h z
   ·exact h
  have H:∀id,look Blk.none T' id≠ .none→S.blk id≠ .none:=fun id z=>by rw[key id z];exact z
  refine⟨v,h1,v,I1,be,rfl,ah.1.1,ah.1.2,fun b j hi=>G.sub b j hi,fun b j hi=>⟨(G.old b j hi).1,?_⟩,⟨fun id=>?_,fun id aq b z h1 h2=>G.dist id aq b z (H id h1) (H aq h2)⟩,h2,fun b hb=>?_,fun id hk z=>?_⟩
  ·rcases (G.old b j hi).2 with h | h
   ·exact .inl h
   ·exact .inr h
  ·rcases zL1 ad id with h | h
   ·rw[h];trivial
   ·rw[←h];exact(G.blks id).mineM fun _ _ _ _=>trivial
  ·obtain⟨id,z,ag⟩:=hb
   have:=G.blt id b (H id z) ag;exact⟨this.2,this.1⟩
  ·refine G.nm id (ρ id) ?_ (H id z)
   simp only[Env.gen];rw[if_pos hk]
 cases e with
 | normal=>exact ak hK
 | ret=>exact ak hK
 | _=>exact hK.elim
theorem zC6 {f:FuncId} {z:Func} {c:Code} {args k:List Cap} {T Y:List (Nat×Blk)} {keep:List Nat} (hf:P.funcs[f]? =some z) (G:(z.name== "runtime.NumGoroutine")=false) (hb:z.body=some c) (hn:args.length≤z.ntmps) (H:z.ntmps≤1000000)
  (h:∀w0 Z hG O,Avc P none (Env.gen (zBO P) w0 Z hG O T keep z.ntmps H) c (yNX P z k Y) ⟨zNM args 0,T⟩):GC P f args T keep k Y:=
 yB2 (fun w I ρ v=>yK9 w I ρ v k) (fun S=>RetGS P S z.results.toList k) (fun _ _ _ _ _ _ _ hs hr=>RetGS.run hs hr) hf G hb hn H h
theorem yB3 {f:FuncId} {z:Func} {c:Code} {args:List Cap} {k:AV} {Y:Nat} {T T':List (Nat×Blk)} {keep:List Nat} (hf:P.funcs[f]? =some z) (G:(z.name== "runtime.NumGoroutine")=false) (hb:z.body=some c) (hn:args.length≤z.ntmps) (H:z.ntmps≤1000000) (O:z.results= #[.tmp Y])
  (h:∀w0 I0 hG Z,Avc P none (Env.gen (zBO P) w0 I0 hG Z T keep z.ntmps H) c (yJX (fun S=>(S.get Y).un=k) T') ⟨zNM args 0,T⟩):GCA P f args T keep k T':=
 yB2 (fun w I ρ v=>Holds w I ρ v k) (fun S=>(S.get Y).un=k) (fun E S a w I ρ C hs hr=>⟨_,zLW (xs:=[a.tmps.getD Y undef]) (by rw[O];simp[zS7]),by
  have:=(hs.tmps Y).un;rw[hr] at this;exact this⟩) hf G hb hn H h
end
end Go.AV
namespace Go.AV
open Go.RowKit
def Cap.ren (σ:List (Nat×Nat)):Cap→Cap
 | .ptr i o=> .ptr (look 0 σ i) o
 | .row i=> .row (look 0 σ i)
 | c=>c
def AV.ren (σ:List (Nat×Nat)):AV→AV
 | .row i=> .row (look 0 σ i)
 | .ptr i o=> .ptr (look 0 σ i) o
 | .rs i o n=> .rs (look 0 σ i) o n
 | .wp i o=> .wp (look 0 σ i) o
 | .ws i o n tt=> .ws (look 0 σ i) o n tt
 | .cond g x=> .cond g (x.ren σ)
 | .clo f h=> .clo f (h.map (Cap.ren σ))
 | .tupc h=> .tupc (h.map (Cap.ren σ))
 | .aggc h=> .aggc (h.map (Cap.ren σ))
 | x=>x
def Blk.ren (σ:List (Nat×Nat)):Blk→Blk
 | .box e cells=> .box e (cells.map (AV.ren σ))
 | b=>b
def renL (σ:List (Nat×Nat)) (T:List (Nat×Blk)):List (Nat×Blk):=T.map fun p=>(look 0 σ p.1,p.2.ren σ)
def xK (σ:List (Nat×Nat)) (k:Nat):Bool:=σ.any fun p=>Nat.beq p.1 k
def Cap.idsLt (σ:List (Nat×Nat)):Cap→Bool
 | .ptr i _=>xK σ i
 | .row i=>xK σ i
 | _=>true
def AV.idsLt (σ:List (Nat×Nat)):AV→Bool
 | .row i=>xK σ i
 | .ptr i _=>xK σ i
 | .rs i _ _=>xK σ i
 | .wp i _=>xK σ i
 | .ws i _ _ _=>xK σ i
 | .cond _ x=>x.idsLt σ
 | .clo _ h=>h.all (Cap.idsLt σ)
 | .tupc h=>h.all (Cap.idsLt σ)
 | .aggc h=>h.all (Cap.idsLt σ)
 | _=>true
def Blk.idsLt (σ:List (Nat×Nat)):Blk→Bool
 | .box _ cells=>cells.all (AV.idsLt σ)
 | _=>true
section
variable {w:World} {I:Im}
theorem HoldsC.ren {σ:List (Nat×Nat)} {ρ z:Nat→Value} {v:Value} {c:Cap} (h:∀k,xK σ k=true→z (look 0 σ k)= ρ k) (G:c.idsLt σ =true):HoldsC w I ρ v c↔HoldsC w I z v (c.ren σ):=by
 cases c with
 | top=>exact Iff.rfl
 | d x=>exact Iff.rfl
 | ptr i o=>
  have:xK σ i=true:=G;simp only[HoldsC,Cap.ren,h i this]
 | row i=>
  have:xK σ i=true:=G;simp only[HoldsC,Cap.ren,h i this]
theorem zOV {T Y γ:Type} {R: T→Y→Prop} {R': T→γ→Prop} {f: Y→γ} {xs:List T} {ys:List Y} (h:∀x y,y∈ys→(R x y↔R' x (f y))):Pw R xs ys↔Pw R' xs (ys.map f):=by
 constructor
 rintro⟨G,H⟩
 refine⟨by simpa using G,fun j x y O k=>?_⟩;rw[List.getElem?_map] at k;cases z:ys[j]? with
 | none=>simp[z] at k
 | some Z=>simp[z] at k;subst k;exact(h x Z (List.mem_of_getElem? z)).1 (H j x Z O z)
 rintro⟨G,H⟩
 refine⟨by simpa using G,fun j x y O k=>?_⟩;exact(h x y (List.mem_of_getElem? k)).2 (H j x (f y) O (by simp[k]))
theorem HoldsC.renL {σ:List (Nat×Nat)} {ρ h:Nat→Value} (z:∀k,xK σ k=true→h (look 0 σ k)= ρ k) {xs:List Value} {cs:List Cap} (G:cs.all (Cap.idsLt σ)=true):Pw (HoldsC w I ρ) xs cs↔Pw (HoldsC w I h) xs (cs.map (Cap.ren σ)):=
 zOV fun x y H=>HoldsC.ren z (List.all_eq_true.1 G y H)
theorem Holds.ren {σ : List (Nat × Nat)} {ρ ρ' : Nat → Value} (hρ : ∀ k, xK σ k = true → ρ' (look 0 σ k) = ρ k) {v : Value} : ∀ {x : AV}, x.idsLt σ = true → (Holds w I ρ v x ↔ Holds w I ρ' v (x.ren σ)) := by
  intro x
  induction x with
  | row i => intro hn; have : xK σ i = true := hn
             simp only[Holds, AV.ren, hρ i this]
  | ptr i o => intro hn; have : xK σ i = true := hn
               simp only[Holds, AV.ren, hρ i this]
  | rs i o m => intro hn; have : xK σ i = true := hn
                simp only[Holds, AV.ren, hρ i this]
  | wp i o => intro hn; have : xK σ i = true := hn
              simp only[Holds, AV.ren, hρ i this]
  | ws i o m tt => intro hn; have : xK σ i = true := hn
                   simp only[Holds, AV.ren, hρ i this]
  | cond g x ih => intro hn; simp only[Holds, AV.ren, ih hn]
  | clo f caps => intro hn; simp only[Holds, AV.ren]; constructor
                  · rintro⟨xs, h1, h2⟩; exact⟨xs, h1, (HoldsC.renL hρ hn).1 h2⟩
                  · rintro⟨xs, h1, h2⟩; exact⟨xs, h1, (HoldsC.renL hρ hn).2 h2⟩
  | tupc caps => intro hn; simp only[Holds, AV.ren]; constructor
                 · rintro⟨xs, h1, h2⟩; exact⟨xs, h1, (HoldsC.renL hρ hn).1 h2⟩
                 · rintro⟨xs, h1, h2⟩; exact⟨xs, h1, (HoldsC.renL hρ hn).2 h2⟩
  | aggc caps => intro hn; simp only[Holds, AV.ren]; constructor
                 · rintro⟨xs, h1, h2, h3⟩; exact⟨xs, h1, (HoldsC.renL hρ hn).1 h2, h3⟩
                 · rintro⟨xs, h1, h2, h3⟩; exact⟨xs, h1, (HoldsC.renL hρ hn).2 h2, h3⟩
  | top => intro _; exact Iff.rfl
  | d x => intro _; exact Iff.rfl
  | ip c o => intro _; exact Iff.rfl
  | tup ds => intro _; exact Iff.rfl
  | gh k => intro _; exact Iff.rfl
theorem BlkOk.ren {σ:List (Nat×Nat)} {ρ z:Nat→Value} {k:Nat} {M:Nat→Prop} (h:∀k,xK σ k=true→z (look 0 σ k)= ρ k) (G:xK σ k=true) {x:Blk} (hn:x.idsLt σ =true):BlkOk w I ρ M k x↔BlkOk w I z M (look 0 σ k) (x.ren σ):=by
 cases x with
 | none=>exact Iff.rfl
 | row e size sh cells=>simp only[BlkOk,Blk.ren,h k G]
 | map es=>simp only[BlkOk,Blk.ren,h k G]
 | win e size k' cells=>simp only[BlkOk,Blk.ren,h k G]
 | box e cells=>
  simp only[BlkOk,Blk.ren,h k G];have:∀arr:Array Value,Pw (Holds w I ρ) arr.toList cells↔Pw (Holds w I z) arr.toList (cells.map (AV.ren σ)):=fun arr=>
   zOV fun x y hy=>Holds.ren h (List.all_eq_true.1 hn y hy)
  constructor
  rintro⟨b,arr,H,O,T,Y,Z,h6⟩;exact⟨b,arr,H,O,T,Y,(this arr).1 Z,h6⟩
  rintro⟨b,arr,H,O,T,Y,Z,h6⟩;exact⟨b,arr,H,O,T,Y,(this arr).2 Z,h6⟩
theorem HoldsC.agree {ρ k:Nat→Value} {v:Value} {c:Cap} (h:HoldsC w I ρ v c) (z:∀id,c.mentions id=true→k id= ρ id):HoldsC w I k v c:=by
 cases c with
 | top=>trivial
 | d x=>exact h
 | ptr i o=>simpa only[HoldsC,z i (by simp[Cap.mentions])] using h
 | row i=>simpa only[HoldsC,z i (by simp[Cap.mentions])] using h
theorem Holds.agree {ρ aa:Nat→Value} {v:Value}:∀{x:AV},Holds w I ρ v x→(∀id,x.mentions id=true→aa id= ρ id)→Holds w I aa v x:=by
 intro x
 induction x with
 | row i=>intro h z;simpa only[Holds,z i (by simp[AV.mentions])] using h
 | ptr i o=>intro h z;simpa only[Holds,z i (by simp[AV.mentions])] using h
 | rs i o m=>intro h z;simpa only[Holds,z i (by simp[AV.mentions])] using h
 | wp i o=>intro h z;simpa only[Holds,z i (by simp[AV.mentions])] using h
 | ws i o m tt=>intro h z;simpa only[Holds,z i (by simp[AV.mentions])] using h
 | cond g x ih=>intro h z;exact⟨fun hg=>ih (h.1 hg) (fun id T=>z id (by simpa[AV.mentions] using T)),h.2⟩
 | clo f G=>
  rintro⟨xs,Y,H⟩ z
  exact⟨xs,Y,H.1,fun j x c Z O=>(H.2 j x c Z O).agree fun id T=>z id (by simp only[AV.mentions,List.any_eq_true];exact⟨c,List.mem_of_getElem? O,T⟩)⟩
 | tupc G=>
  rintro⟨xs,Y,H⟩ z
  exact⟨xs,Y,H.1,fun j x c Z O=>(H.2 j x c Z O).agree fun id T=>z id (by simp only[AV.mentions,List.any_eq_true];exact⟨c,List.mem_of_getElem? O,T⟩)⟩
 | aggc G=>
  rintro⟨xs,Y,H,h3⟩ z
  exact⟨xs,Y,⟨H.1,fun j x c Z O=>(H.2 j x c Z O).agree fun id T=>z id (by simp only[AV.mentions,List.any_eq_true];exact⟨c,List.mem_of_getElem? O,T⟩)⟩,h3⟩
 | top=>intro h _;exact h
 | d x=>intro h _;exact h
 | ip c o=>intro h _;exact h
 | tup ds=>intro h _;exact h
 | gh k=>intro h _;exact h
end
def zI3 (h:List Nat) (x:AV):AV:=if h.any (fun k=>x.mentions k) then .top else x
def zD4 (h:List Nat):Blk→Blk
 | .box e cells=> .box e (cells.map (zI3 h))
 | b=>b
def AState.killL (S:AState) (h:List Nat):AState:=
 {tmps:=S.tmps.map fun p=>(p.1,zI3 h p.2),blks:=S.blks.map fun p=>(p.1,zD4 h p.2)}
theorem zWR (S:AState) (h:List Nat) (t:Nat):(S.killL h).get t=zI3 h (S.get t):=zOL _ _ (by simp[zI3,AV.mentions]) _ _
theorem zWS (S:AState) (h:List Nat) (i:Nat):(S.killL h).blk i=zD4 h (S.blk i):=zOL _ _ rfl _ _
theorem zNN {w:World} {I:Im} {ρ k:Nat→Value} {G:List Nat} {v:Value} {x:AV} (h:Holds w I ρ v x) (H:∀id,G.contains id=false→k id= ρ id):Holds w I k v (zI3 G x):=by
 unfold zI3;split;trivial;rename_i T;refine h.agree fun id z=>H id ?_;cases O:G.contains id with
 | false=>rfl
 | true=>
  exfalso;apply T;simp only[List.any_eq_true];exact⟨id,by simpa using O,z⟩
theorem yB4 (z:List Nat) (x:AV):(match zI3 z x with | .gh k=>k | _=>0)=(match x with | .gh k=>k | _=>0):=by
 unfold zI3;by_cases h:(z.any fun k=>x.mentions k)=true;simp only[h,if_true];cases x<;>first | rfl | (simp[AV.mentions] at h)
 simp only[h];rfl
def AState.setL (S:AState) (T:List (Nat×Blk)):AState:={S with blks:=T++S.blks}
theorem zI4 {G:Type} (z: G) (l m:List (Nat×G)) (k:Nat):look z (l++m) k=if l.any (fun p=>Nat.beq p.1 k) then look z l k else look z m k:=by
 induction l with
 | nil=>simp[look]
 | cons p l O=>
  obtain⟨i,x⟩:=p;simp only[List.cons_append,look,List.any_cons];by_cases h:Nat.beq i k=true;simp[h];have H:Nat.beq i k=false:=Bool.eq_false_iff.2 h;simp only[H,O,Bool.false_or];simp
def ArgsAs (σ:List (Nat×Nat)):List AV→List Cap→Prop
 | [],[]=>True
 | x::xs,c::cs=>CapOf x (c.ren σ)∧ArgsAs σ xs cs
 | _,_=>False
theorem ArgsAs.holds {w:World} {I:Im} {ρ G:Nat→Value} {σ:List (Nat×Nat)} (O:∀k,xK σ k=true→G (look 0 σ k)= ρ k):∀{vs:List Value} {xs:List AV} {cs:List Cap},ArgsAs σ xs cs→cs.all (Cap.idsLt σ)=true→Pw (Holds w I G) vs xs→Pw (HoldsC w I ρ) vs cs:=by
 intro vs xs
 induction xs generalizing vs with
 | nil=>
  intro cs h _ z;cases cs with
  | nil=>exact⟨z.1,fun j x y hx Y=>by simp at Y⟩
  | cons c cs=>exact h.elim
 | cons x xs Z=>
  intro cs h H z;cases cs with
  | nil=>exact h.elim
  | cons c cs=>
   cases vs with
   | nil=>have:=z.1;simp at this
   | cons v vs=>
    simp only[List.all_cons,Bool.and_eq_true] at H;refine Pw.cons ((HoldsC.ren O H.1).2 (h.1.holds (z.2 0 v x rfl rfl))) (Z h.2 H.2 ⟨by have:=z.1;simpa using this,fun j a b T hb=>z.2 (j+1) a b (by simpa using T) (by simpa using hb)⟩)
def BlksAs (S:AState) (σ:List (Nat×Nat)):List (Nat×Blk)→Prop
 | []=>True
 | (k,x)::T=>S.blk (look 0 σ k)=x.ren σ∧BlksAs S σ T
theorem BlksAs.look {S:AState} {σ:List (Nat×Nat)}:∀{T:List (Nat×Blk)},BlksAs S σ T→∀k,look Blk.none T k≠ .none→S.blk (look 0 σ k)=(look Blk.none T k).ren σ
 | [],_,k,h=>absurd rfl h
 | (i,x)::T,h,k,z=>by
  rw[kU] at z ⊢;by_cases e:i=k;subst e;simp only[if_true];exact h.1;simp only[e,if_false] at z ⊢;exact BlksAs.look h.2 k z
def zNZ:List Cap→AV
 | [c]=>c.av
 | cs=> .tupc cs
theorem yLA {σ:List (Nat×Nat)} {x:Blk}:x.ren σ≠ .none↔x≠ .none:=by cases x<;>simp[Blk.ren]
def zJL (σ:List (Nat×Nat)) (keep:List Nat) (h:List (Nat×Blk)):List Nat:=
 σ.filterMap fun q=>if keep.contains q.1&&h.any (fun p=>Nat.beq p.1 q.1) then none else some q.2
def zNC (σ:List (Nat×Nat)) (T h:List (Nat×Blk)):List (Nat×Blk):=
 (T.filter fun p=>!h.any (fun q=>Nat.beq q.1 p.1)).map fun p=>(look 0 σ p.1,Blk.none)
theorem BlkOk.agree {w:World} {I:Im} {ρ G:Nat→Value} {M:Nat→Prop} {i:Nat} {x:Blk} {Y:List Nat} (h:BlkOk w I ρ M i x) (hi: G i= ρ i) (ha:∀id,Y.contains id=false→G id= ρ id):BlkOk w I G M i (zD4 Y x):=by
 cases x with
 | none=>trivial
 | row e size sh cells=>simpa only[BlkOk,zD4,hi] using h
 | map es=>simpa only[BlkOk,zD4,hi] using h
 | win e size k cells=>simpa only[BlkOk,zD4,hi] using h
 | box e cells=>
  obtain⟨b,arr,Z,h2,h3,h4,T,h6⟩:=h;refine⟨b,arr,by rw[hi];exact Z,h2,h3,h4,⟨by simpa using T.1,fun j y av hj z=>?_⟩,h6⟩
  rw[List.getElem?_map] at z;cases O:cells[j]? with
  | none=>simp[O] at z
  | some H=>simp[O] at z;subst z;exact zNN (T.2 j y H hj O) ha
theorem yGP {h:List Nat} {x:Blk}:zD4 h x≠ .none↔x≠ .none:=by cases x<;>simp[zD4]
structure Ren (σ:List (Nat×Nat)):Prop where
 keys:(σ.map Prod.fst).Nodup
 vals:(σ.map Prod.snd).Nodup
theorem zET {σ:List (Nat×Nat)} {k:Nat} (h:xK σ k=true):(k,look 0 σ k)∈σ:=by
 induction σ with
 | nil=>simp[xK] at h
 | cons p σ z=>
  obtain⟨i,x⟩:=p;rw[kU];by_cases e:i=k;subst e;simp;simp only[e,if_false];have hb:Nat.beq i k=false:=Bool.eq_false_iff.2 fun h=>e (Nat.eq_of_beq_eq_true h);simp only[xK,List.any_cons,hb,Bool.false_or] at h;exact List.mem_cons_of_mem _ (z h)
theorem z8Z {σ:List (Nat×Nat)} {k x:Nat} (h:(k,x)∈σ):xK σ k=true:=by simp only[xK,List.any_eq_true];exact⟨(k,x),h,by simp[Nat.beq_eq]⟩
theorem z04 {σ:List (Nat×Nat)} (z:(σ.map Prod.fst).Nodup) {k x:Nat} (h:(k,x)∈σ):look 0 σ k=x:=by
 induction σ with
 | nil=>simp at h
 | cons p σ G=>
  obtain⟨i,y⟩:=p;rw[kU];simp only[List.map_cons,List.nodup_cons] at z;rcases List.mem_cons.1 h with h | h;cases h;simp;have:i≠k:=fun e=>z.1 (List.mem_map.2 ⟨(k,x),h,e.symm⟩);simp only[this,if_false];exact G z.2 h
theorem yGQ {σ:List (Nat×Nat)} (z:(σ.map Prod.snd).Nodup) {k H x:Nat} (h:(k,x)∈σ) (O:(H,x)∈σ):k=H:=by
 induction σ with
 | nil=>simp at h
 | cons p σ T=>
  simp only[List.map_cons,List.nodup_cons] at z;rcases List.mem_cons.1 h with G | G<;>rcases List.mem_cons.1 O with h2 | h2
  rw[←G] at h2;exact(Prod.mk.inj h2).1.symm;exact absurd (List.mem_map.2 ⟨_,h2,by rw[←G]⟩) z.1;exact absurd (List.mem_map.2 ⟨_,G,by rw[←h2]⟩) z.1;exact T z.2 G h2
theorem z05 {σ:List (Nat×Nat)} (h:Ren σ) {k G:Nat} (H:xK σ k=true) (z:xK σ G=true) (e:look 0 σ k=look 0 σ G):k=G:=
 yGQ h.vals (zET H) (by rw[e];exact zET z)
theorem zHM {σ:List (Nat×Nat)} {k:Nat} (h:xK σ k=true):look 0 σ k∈σ.map Prod.snd:=List.mem_map.2 ⟨_,zET h,rfl⟩
theorem z06 {σ:List (Nat×Nat)} (z:Ren σ) {i:Nat} (h:i∈σ.map Prod.snd):∃k,xK σ k=true∧look 0 σ k=i:=by obtain⟨⟨k,x⟩,G,rfl⟩:=List.mem_map.1 h;exact⟨k,z8Z G,z04 z.keys G⟩
theorem zQJ {σ:List (Nat×Nat)} (z:Ren σ):∀{T:List (Nat×Blk)},(∀p∈T,xK σ p.1=true)→∀{k:Nat},xK σ k=true→look Blk.none (renL σ T) (look 0 σ k)=(look Blk.none T k).ren σ
 | [],_,k,_=>rfl
 | (i,x)::T,h,k,G=>by
  show look Blk.none ((look 0 σ i,x.ren σ)::renL σ T) (look 0 σ k)=_;rw[kU,kU];by_cases e:i=k;subst e;simp;have:look 0 σ i≠look 0 σ k:=fun H=>e (z05 z (h (i,x) (by simp)) G H);simp only[this,e,if_false];exact zQJ z (fun p O=>h p (by simp[O])) G
theorem z07 {T:List (Nat×Blk)} (h:∀p∈T,p.2≠ .none) (k:Nat):T.any (fun p=>Nat.beq p.1 k)=true↔look Blk.none T k≠ .none:=by
 induction T with
 | nil=>simp[look]
 | cons p T G=>
  obtain⟨i,x⟩:=p;rw[kU,List.any_cons];by_cases e:i=k;subst e;simp[Nat.beq_eq,h (i,x) (by simp)];have:Nat.beq i k=false:=Bool.eq_false_iff.2 fun h=>e (Nat.eq_of_beq_eq_true h);simp only[this,Bool.false_or,e,if_false];exact G fun p z=>h p (by simp[z])
def Blk.isSome:Blk→Bool
 | .none=>false
 | _=>true
def zCG (σ:List (Nat×Nat)) (T:List (Nat×Blk)):Bool:=T.all fun p=>xK σ p.1&&p.2.idsLt σ &&p.2.isSome
theorem zRC {σ:List (Nat×Nat)} {T:List (Nat×Blk)} (h:zCG σ T=true):∀p∈T,xK σ p.1=true∧p.2.idsLt σ =true∧p.2≠ .none:=by intro p k;have:=List.all_eq_true.1 h p k;simp only[Bool.and_eq_true] at this;refine⟨this.1.1,this.1.2,fun e=>?_⟩;rw[e] at this;simp[Blk.isSome] at this
theorem zL4 {T:List (Nat×Blk)} {k:Nat} (h:look Blk.none T k≠ .none):(k,look Blk.none T k)∈T:=by
 induction T with
 | nil=>exact absurd rfl h
 | cons p T z=>
  obtain⟨i,x⟩:=p;rw[kU] at h ⊢;by_cases e:i=k;subst e;simp;simp only[e,if_false] at h ⊢;exact List.mem_cons_of_mem _ (z h)
theorem z80 {σ:List (Nat×Nat)} {T h:List (Nat×Blk)} (i:Nat):look Blk.none (zNC σ T h) i= .none:=by
 unfold zNC
 induction (T.filter fun p=>!h.any (fun q=>Nat.beq q.1 p.1)) with
 | nil=>rfl
 | cons p l k=>rw[List.map_cons,kU];split;rfl;exact k
def zOW (S:AState) (σ:List (Nat×Nat)) (T:List (Nat×Blk)):Prop:= ∀k,xK σ k=true→look Blk.none T k= .none→S.blk (look 0 σ k)= .none
section
variable {P:Program} {r:Option Nat} {E:Env} {S:AState} {d:Nat} {ty:TypeId} {pos:String} {af:Array Edge} {g:Option (Nat×Bool)}
theorem zWT {f:FuncId} {xf:Operand} {extra:List AV} {xs:List Operand} {ats:Array TypeId} {args:List Cap} {bu:AV} {T O:List (Nat×Blk)} {keep:List Nat} (σ:List (Nat×Nat)) (hn:d<E.n) (ap:Ren σ)
  (cq:∀A w I ρ C,SatAt E S A w I ρ C→∃ar:List Value,A.eval xf= .func (.func f) #[] ar.toArray∧Pw (Holds w I ρ) ar extra) (bl:ArgsAs σ (xs.map S.ev++extra) args) (cm:args.all (Cap.idsLt σ)=true) (cz:bu.idsLt σ =true) (hT:BlksAs S σ T) (ck:zCG σ T=true) (bw:zCG σ O=true)
  (cr:zOW S σ T) (cx:∀k,xK σ k=true→E.nm (look 0 σ k)=none∨(keep.contains k=true∧look Blk.none T k≠ .none∧look Blk.none O k≠ .none)) (hc:GCA P f args T keep bu O) (hE:E.wrB=true) (hG:E.gdt=zBO P:=by rfl):
  k4 P r E ⟨some d,.call {callee:= .value xf,args:=xs.toArray,argTypes:=ats},ty,pos,af,g⟩ S
   (((S.killL (zJL σ keep O)).setL (renL σ O++zNC σ T O)).put d (bu.ren σ)):=by
 rintro A w K Q ⟨I,ρ,C,Z⟩ hk
 obtain⟨⟨fn,hf,bq,bm⟩,bn⟩:=hc;have ba:=zRC ck;have G:=zRC bw
 let aq:Nat→Value:=fun k=>ρ (look 0 σ k)
 have bg:∀k,xK σ k=true→ρ (look 0 σ k)= aq k:=fun _ _=>rfl;have az:∀k,look Blk.none T k≠ .none→xK σ k=true∧(look Blk.none T k).idsLt σ =true∧S.blk (look 0 σ k)=(look Blk.none T k).ren σ∧S.blk (look 0 σ k)≠ .none:=fun k h=>by
  have:=ba _ (zL4 h);have h2:=hT.look k h;exact⟨this.1,this.2.1,h2,by rw[h2];exact yLA.2 h⟩
 have bo:Frag w I aq T:=by
  refine⟨fun k=>?_,fun k k' b h h1 h2 hb=>?_⟩
  ·by_cases h:look Blk.none T k= .none
   ·rw[h];trivial
   ·obtain⟨t1,t2,t3,_⟩:=az k h
    have:=Z.blks (look 0 σ k);rw[t3] at this;exact((BlkOk.ren bg t1 t2).2 this).mineM fun _ _ _ _=>trivial
  ·obtain⟨t1,_,_,t4⟩:=az k h1
   obtain⟨u1,_,_,u4⟩:=az k' h2;exact Z.dist _ _ b (fun e=>h (z05 ap t1 u1 e)) t4 u4 hb
 obtain⟨ar,da,cp⟩:=cq A w I ρ C Z;have cn:=bn w I aq (xs.map A.eval++ar) (fun b j hi=>(Z.old b j hi).1) (hG▸Z.gl) bo (ArgsAs.holds bg bl cm (Pw.append (zBC Z xs) cp));refine⟨fun f _=>trivial,?_⟩;rw[Oper.semAt_eq _ _ _ (by simp)];have ce:(execOp A.eval ⟨some d,.call {callee:= .value xf,args:=xs.toArray,argTypes:=ats},ty,pos,af,g⟩).run P w= .ok (.enter f (xs.map A.eval++ar).toArray) w:=by
  simp only[execOp,resolve,da,Deferred.ofValue];have cu:¬fn.name= "runtime.NumGoroutine" :=by simpa using bq
  have cv:¬fn.body=none:=by intro e;simp[e] at bm
  simp[invoke,callFunc,hf,cu,cv,List.map_toArray]
 rw[ce];refine⟨by simp[fen,Fence.wide],?_⟩;show CallsIn Fence.wide 0 P f _ w _;refine callsIn_wide.2 (cn.mono ?_)
 rintro e w' ⟨v,I',bi,rfl,au,am,ay,ao,an,cd,aj,ax⟩
 let dc:Nat→Nat:=fun i=>look 0 (σ.map fun p=>(p.2,p.1)) i
 let al:Nat→Value:=fun i=>if i∈σ.map Prod.snd then bi (dc i) else ρ i
 have aa:∀k,xK σ k=true→al (look 0 σ k)= bi k:=fun k hk=>by
  simp only[al,zHM hk,if_true];congr 1;refine z04 (σ:=σ.map fun p=>(p.2,p.1)) ?_ (List.mem_map.2 ⟨_,zET hk,rfl⟩);rw[List.map_map];exact ap.vals
 have ah:∀i,i∉σ.map Prod.snd→al i= ρ i:=fun i hi=>by simp only[al,hi,if_false]
 have agree:∀id,(zJL σ keep O).contains id=false→al id= ρ id:=by
  intro id hl;by_cases hm:id∈σ.map Prod.snd
  ·obtain⟨k,hk,rfl⟩:=z06 ap hm
   rw[aa k hk];by_cases bd:(keep.contains k&&O.any (fun p=>Nat.beq p.1 k))=true
   ·simp only[Bool.and_eq_true] at bd
    exact ax k bd.1 ((z07 (fun p hp=>(G p hp).2.2) k).1 bd.2)
   ·exfalso
    have:(zJL σ keep O).contains (look 0 σ k)=true:=by
     rw[List.contains_iff_mem];unfold zJL;rw[List.mem_filterMap];exact⟨_,zET hk,by rw[if_neg bd]⟩
    rw[this] at hl;cases hl
  ·exact ah id hm
 have bh:∀b,xJ T aq b→∃k,xK σ k=true∧look Blk.none T k≠ .none∧S.blk (look 0 σ k)≠ .none∧blockOf (ρ (look 0 σ k))=some b:=by
  rintro b ⟨k,h1,h2⟩
  obtain⟨t1,_,_,t4⟩:=az k h1;exact⟨k,t1,h1,t4,h2⟩
 have z:∀b,xJ T aq b→E.mine b∧b<w.heap.size∧¬C b∧∃o,w.heap[b]? =some o∧isData o=true:=by
  intro b hb;obtain⟨k,_,_,h3,h4⟩:=bh b hb;exact⟨(Z.blt _ b h3 h4).1,(Z.blt _ b h3 h4).2,Z.cB _ b h3 h4,Z.cellBlk h3 h4⟩
 let S1:=(S.killL (zJL σ keep O)).setL (renL σ O++zNC σ T O)
 have bk:∀k,look Blk.none O k≠ .none→S1.blk (look 0 σ k)=(look Blk.none O k).ren σ∧xK σ k=true:=by
  intro k h;have hm:=G _ (zL4 h);refine⟨?_,hm.1⟩;show look Blk.none ((renL σ O++zNC σ T O)++(S.killL (zJL σ keep O)).blks) (look 0 σ k)=_;have ha:(renL σ O).any (fun p=>Nat.beq p.1 (look 0 σ k))=true:=by
   simp only[List.any_eq_true];exact⟨(look 0 σ k,(look Blk.none O k).ren σ),List.mem_map.2 ⟨_,zL4 h,rfl⟩,by simp[Nat.beq_eq]⟩
  rw[List.append_assoc,zI4,if_pos ha,zQJ ap (fun p hp=>(G p hp).1) hm.1]
 have Y:∀i,S1.blk i≠ .none→(∃k,xK σ k=true∧look Blk.none O k≠ .none∧i=look 0 σ k)∨(i∉σ.map Prod.snd∧S1.blk i=zD4 (zJL σ keep O) (S.blk i)∧S.blk i≠ .none):=by
  intro i h;by_cases hm:i∈σ.map Prod.snd
  ·obtain⟨k,hk,rfl⟩:=z06 ap hm
   by_cases ab:look Blk.none O k= .none
   ·exfalso
    apply h;show look Blk.none ((renL σ O++zNC σ T O)++(S.killL (zJL σ keep O)).blks) (look 0 σ k)=_;rw[List.append_assoc,zI4];split
    ·rw[zQJ ap (fun p hp=>(G p hp).1) hk,ab];rfl
    ·rw[zI4]
     split
     ·exact z80 _
     ·rename_i hg
      show (S.killL (zJL σ keep O)).blk (look 0 σ k)=_;rw[zWS];by_cases cc:look Blk.none T k= .none
      ·rw[cr k hk cc];rfl
      ·exfalso
       apply hg;simp only[List.any_eq_true];refine⟨(look 0 σ k,Blk.none),List.mem_map.2 ⟨(k,look Blk.none T k),List.mem_filter.2 ⟨zL4 cc,?_⟩,rfl⟩,by simp[Nat.beq_eq]⟩;cases hx:O.any (fun q=>Nat.beq q.1 k) with
       | false=>simp[hx]
       | true=>exact absurd ab ((z07 (fun p hp=>(G p hp).2.2) k).1 hx)
   ·exact .inl ⟨k,hk,ab,rfl⟩
  ·have hb:S1.blk i=zD4 (zJL σ keep O) (S.blk i):=by
    show look Blk.none ((renL σ O++zNC σ T O)++(S.killL (zJL σ keep O)).blks) i=_;have h1:(renL σ O++zNC σ T O).any (fun p=>Nat.beq p.1 i)=false:=by
     rw[List.any_eq_false];intro p hp;have:p.1∈σ.map Prod.snd:=by
      rcases List.mem_append.1 hp with hp | hp
      ·obtain⟨q,hq,rfl⟩:=List.mem_map.1 hp;exact zHM (G q hq).1
      ·obtain⟨q,hq,rfl⟩:=List.mem_map.1 hp;exact zHM (ba q (List.mem_filter.1 hq).1).1
     simp only[Nat.beq_eq];intro e;exact hm (e▸this)
    rw[zI4,h1];exact zWS _ _ _
   exact .inr ⟨hm,hb,by rw[hb] at h;exact yGP.1 h⟩
 have ad:∀i b,i∉σ.map Prod.snd→S.blk i≠ .none→blockOf (ρ i)=some b→¬xJ T aq b:=by
  intro i b hm h hb ho;obtain⟨k,hk,_,h3,h4⟩:=bh b ho;exact Z.dist i (look 0 σ k) b (fun e=>hm (e▸zHM hk)) h h3 hb h4
 have cg:SatAt E S1 A w' I' al C:=by
  refine⟨fun t=>?_,fun i=>?_,fun i i' b h hi cb hb=>?_,?_,fun b j hi=>ay b j (Z.sub b j hi),fun b j hi=>⟨(ao b j hi).1,?_⟩,Z.size,Z.defers.keep fun q hq=>?_,fun b j hi=>?_,fun i b hi hb=>?_,fun i u hu hi=>?_⟩
  ·show Holds w' I' al _ ((S.killL (zJL σ keep O)).get t)
   rw[zWR];exact zNN ((Z.tmps t).mono am ay) agree
  ·by_cases h:S1.blk i= .none
   ·rw[h];trivial
   ·rcases Y i h with ⟨k,hk,ab,rfl⟩ | ⟨hm,hb,H⟩
    ·rw[(bk k ab).1]
     have hm:=G _ (zL4 ab);refine((BlkOk.ren (M:=fun _=>True) aa hk hm.2.1).1 (an.ok k)).mineM fun b _ ak _=>?_;rw[aa k hk] at ak;rcases (aj b ⟨k,ab,ak⟩).2 with h1 | h1
     ·exact E.mineB b (Nat.le_trans (E.size _ _ _ Z.frame) h1)
     ·exact(z b h1).1
    ·rw[hb]
     refine BlkOk.agree ?_ (ah i hm) agree;refine((Z.blks i).mono am fun b ak=>au.block b (Z.blt i b H ak).2 (ad i b hm H ak)).widenI ay fun b j _ ak hi=>?_;rcases (ao b j hi).2 with h1 | h1 | h1
     ·exact h1
     ·have:=(Z.blt i b H ak).2;omega
     ·exact absurd h1 (ad i b hm H ak)
  ·rcases Y i hi with ⟨k,hk,ab,rfl⟩ | ⟨hm,bx,H⟩
   ·rw[aa k hk] at hb
    rcases Y i' cb with ⟨k2,bp,aw,rfl⟩ | ⟨be,bz,ai⟩
    ·rw[aa k2 bp]
     exact an.dist k k2 b (fun e=>h (by rw[e])) ab aw hb
    ·rw[ah i' be]
     intro bc;rcases (aj b ⟨k,ab,hb⟩).2 with h1 | h1
     ·have:=(Z.blt i' b ai bc).2;omega
     ·exact ad i' b be ai bc h1
   ·rw[ah i hm] at hb
    rcases Y i' cb with ⟨k2,bp,aw,rfl⟩ | ⟨be,bz,ai⟩
    ·rw[aa k2 bp]
     intro bc;rcases (aj b ⟨k2,aw,bc⟩).2 with h1 | h1
     ·have:=(Z.blt i b H hb).2;omega
     ·exact ad i b hm H hb h1
    ·rw[ah i' be]
     exact Z.dist i i' b h H ai hb
  ·have ct:S1.ghost=S.ghost:=by
    unfold AState.ghost;show (match (S.killL (zJL σ keep O)).get GT with | .gh k=>k | _=>0)=_;rw[zWR];exact yB4 _ _
   rw[ct];exact E.wr hE _ _ _ _ _ Z.frame au (fun b hb=>⟨(z b hb).1,(z b hb).2.2⟩) (fun b j hi=>am b j (Z.sub b j hi))
  ·rcases (ao b j hi).2 with h1 | h1 | h1
   ·exact(Z.old b j h1).2
   ·exact .inr (E.mineB b (Nat.le_trans (E.size _ _ _ Z.frame) h1))
   ·exact .inr (z b h1).1
  ·refine(au.block q (Array.getElem?_eq_some_iff.1 hq).1 fun ho=>?_).trans hq
   obtain⟨o,h1,h2⟩:=(z q ho).2.2.2;rw[hq] at h1;cases h1;cases h2
  ·rcases (ao b j hi).2 with h1 | h1 | h1
   ·exact Z.cI b j h1
   ·intro hc;have:=E.csize _ _ _ Z.frame _ hc;omega
   ·exact(z b h1).2.2.1
  ·rcases Y i hi with ⟨k,hk,ab,rfl⟩ | ⟨hm,bx,H⟩
   ·rw[aa k hk] at hb
    rcases (aj b ⟨k,ab,hb⟩).2 with h1 | h1
    ·intro hc;have:=E.csize _ _ _ Z.frame _ hc;omega
    ·exact(z b h1).2.2.1
   ·rw[ah i hm] at hb;exact Z.cB i b H hb
  ·rcases Y i hi with ⟨k,hk,ab,rfl⟩ | ⟨hm,bx,H⟩
   ·rcases cx k hk with h0 | ⟨h1,h2,h3⟩
    ·rw[h0] at hu;cases hu
    ·rw[aa k hk,ax k h1 h3]
     exact Z.nm _ u hu (az k h2).2.2.2
   ·rw[ah i hm];exact Z.nm i u hu H
 exact hk _ _ ⟨I',al,C,cg.put hn ((Holds.ren aa cz).1 cd)⟩
theorem z08 {f:FuncId} {xf:Operand} {extra:List AV} {xs:List Operand} {ats:Array TypeId} {args z:List Cap} {T H:List (Nat×Blk)} {keep:List Nat} (σ:List (Nat×Nat)) (hn:d<E.n) (al:Ren σ)
  (ag:∀A w I ρ C,SatAt E S A w I ρ C→∃O:List Value,A.eval xf= .func (.func f) #[] O.toArray∧Pw (Holds w I ρ) O extra) (G:ArgsAs σ (xs.map S.ev++extra) args) (ad:args.all (Cap.idsLt σ)=true) (ak:z.all (Cap.idsLt σ)=true) (hT:BlksAs S σ T) (ac:zCG σ T=true) (aa:zCG σ H=true)
  (ah:zOW S σ T) (aj:∀k,xK σ k=true→E.nm (look 0 σ k)=none∨(keep.contains k=true∧look Blk.none T k≠ .none∧look Blk.none H k≠ .none)) (hc:GC P f args T keep z H) (hE:E.wrB=true) (hG:E.gdt=zBO P:=by rfl):
  k4 P r E ⟨some d,.call {callee:= .value xf,args:=xs.toArray,argTypes:=ats},ty,pos,af,g⟩ S
   (((S.killL (zJL σ keep H)).setL (renL σ H++zNC σ T H)).put d ((zNZ z).ren σ)):=zWT σ hn al ag G ad (by
  match z,ak with
  | [],_=>rfl
  | [x],hl=>
   have hx:x.idsLt σ =true:=by simpa using hl
   cases x<;>exact hx
  | x::y::zs,hl=>exact hl) hT ac aa ah aj ⟨hc.1,fun w I ρ vs Y Z h3 h4=>(hc.2 w I ρ vs Y Z h3 h4).mono (by
   rintro e w' ⟨v,I',am,rfl,a1,a2,a3,a4,a5,ab,a6,a7⟩
   refine⟨v,I',am,rfl,a1,a2,a3,a4,a5,?_,a6,a7⟩
   match z,ab with
   | [],⟨ys,Y,Z⟩=>exact⟨ys,Y,Z⟩
   | [x],h=>exact Cap.holds h
   | x::y::zs,⟨ys,Y,Z⟩=>exact⟨ys,Y,Z⟩)⟩ hE hG
theorem z6F {f:FuncId} {xs:List Operand} {ats:Array TypeId} {args h:List Cap} {T G:List (Nat×Blk)} {keep:List Nat} (σ:List (Nat×Nat)) (hn:d<E.n) (ac:Ren σ)
  (z:ArgsAs σ (xs.map S.ev) args) (Y:args.all (Cap.idsLt σ)=true) (ab:h.all (Cap.idsLt σ)=true) (hT:BlksAs S σ T) (O:zCG σ T=true) (H:zCG σ G=true)
  (Z:zOW S σ T) (aa:∀k,xK σ k=true→E.nm (look 0 σ k)=none∨(keep.contains k=true∧look Blk.none T k≠ .none∧look Blk.none G k≠ .none)) (hc:GC P f args T keep h G) (hE:E.wrB=true) (hG:E.gdt=zBO P:=by rfl):
  k4 P r E ⟨some d,.call {callee:= .value (.func f),args:=xs.toArray,argTypes:=ats},ty,pos,af,g⟩ S
   (((S.killL (zJL σ keep G)).setL (renL σ G++zNC σ T G)).put d ((zNZ h).ren σ)):=
 z08 σ hn ac (extra:=[]) (fun A w I ρ C _=>⟨[],by simp[Act.eval],Pw.nil⟩) (by rw[List.append_nil];exact z) Y ab hT O H Z aa hc hE hG
theorem z09 {f:FuncId} {xf:Operand} {cs:List Cap} {xs:List Operand} {ats:Array TypeId} {args z:List Cap} {T H:List (Nat×Blk)} {keep:List Nat} (σ:List (Nat×Nat)) (hn:d<E.n) (ah:Ren σ) (ag:S.ev xf= .clo f cs)
  (G:ArgsAs σ (xs.map S.ev++cs.map Cap.av) args) (Z:args.all (Cap.idsLt σ)=true) (ad:z.all (Cap.idsLt σ)=true) (hT:BlksAs S σ T) (Y:zCG σ T=true) (O:zCG σ H=true)
  (ab:zOW S σ T) (ac:∀k,xK σ k=true→E.nm (look 0 σ k)=none∨(keep.contains k=true∧look Blk.none T k≠ .none∧look Blk.none H k≠ .none)) (hc:GC P f args T keep z H) (hE:E.wrB=true) (hG:E.gdt=zBO P:=by rfl):
  k4 P r E ⟨some d,.call {callee:= .value xf,args:=xs.toArray,argTypes:=ats},ty,pos,af,g⟩ S
   (((S.killL (zJL σ keep H)).setL (renL σ H++zNC σ T H)).put d ((zNZ z).ren σ)):=
 z08 σ hn ah (extra:=cs.map Cap.av) (fun A w I ρ C hs=>by
  have h:=hs.ev xf;rw[ag] at h;obtain⟨ys,h1,h2⟩:=h;refine⟨ys,h1,by simpa using h2.1,fun j x y hx hy=>?_⟩;rw[List.getElem?_map] at hy;obtain⟨c,hc,rfl⟩:=Option.map_eq_some_iff.1 hy;exact Cap.holds (h2.2 j x c hx hc)) G Z ad hT Y O ab ac hc hE hG
end
end Go.AV
namespace Go.AV
open Go.RowKit Go.M
def outK (E:Env) (e:Exit) (S2:AState):Exit→AState→Prop:=fun h S'=>h=e∧zE3 E S' S2
def yLB {X Y:Type} (E:Env) (T:X→AState) (y:Y) (K:Exit→AState→Prop):Stp X Y→Exit→AState→Prop
 | .next x',.normal,S=>zE3 E S (T x')
 | .next _,_,_=>False
 | .done _,.normal,_=>False
 | .done h,e,S=>h=y→K e S
section
variable {P:Program} {r:Option Nat} {E:Env} {S S2:AState} {K:Exit→AState→Prop}
theorem z39 {e:Exit} (h:zE3 E S S2):outK E e S2 e S:=⟨rfl,h⟩
theorem zTK {c:Code} {e:Exit} (z:Avc P r E c (outK E e S2) S) (G:K e S2):Avc P r E c K S:=fun a w O=>
 wpIn_mono (z a w O) fun Y k w' ⟨S',H,h⟩=>by
  obtain⟨rfl,T⟩:=H;exact⟨S2,G,T k w' h⟩
theorem zB {c:Code} {X Y:Type} {body:X→Option (Stp X Y)} {x0:X} {y:Y} (T:X→AState) (h:zC body x0=some y) (G:zE3 E S (T x0))
  (round:∀x s,body x=some s→Avc P r E c (yLB E T y K s) (T x)):Avc P r E (.loop c) K S:=by
 obtain⟨n,H⟩:=zKK.1 h;refine z0N (ι:=Nat×X) (fun q=>T q.2) (fun q=>iter body q.1 q.2=some y) (fun q=>q.1) (n,x0) H G ?_
 rintro⟨m,x⟩ k
 cases m with
 | zero=>cases k
 | succ m=>
  simp only[iter] at k;cases hb:body x with
  | none=>rw[hb] at k;cases k
  | some s=>
   rw[hb] at k;refine z0M (round x s hb) fun e S' z=>?_;cases s with
   | next x'=>
    cases e with
    | normal=>exact⟨(m,x'),k,Nat.lt_succ_self m,z⟩
    | _=>exact z.elim
   | done Z=>
    have O:Z=y:=by simpa using k
    cases e with
    | normal=>exact z.elim
    | _=>exact z O
end
def ds (s:Str):DV:= .v (.string ⟨s.toArray⟩)
structure En (α:Type) where
 dv: α→DV
 size:Nat
 ok:∀x,okDV size (dv x)=true
def En.cells {h:Type} (e:En h) (x: h):List DV:=vH (e.dv x)
theorem zTL {size:Nat} {d:DV} (h:okDV size d=true):(vH d).length=size:=by cases d<;>simp_all [okDV,vH]
theorem En.len {h:Type} (e:En h) (x: h):(e.cells x).length=e.size:=zTL (e.ok x)
def eI:En Int:=⟨di,1,fun _=>rfl⟩
def e8:En Int:=⟨dby,1,fun _=>rfl⟩
def eB:En Bool:=⟨db,1,fun _=>rfl⟩
def eS:En Str:=⟨ds,1,fun _=>rfl⟩
def En.all {h:Type} (e:En h) (l:List h):List DV:=l.flatMap e.cells
def zN {h:Type} (e:En h) (l:List h):DV:= .sl e.size (e.all l)
def eL {h:Type} (e:En h):En (List h):=⟨zN e,1,fun _=>rfl⟩
section
variable {α:Type} (e:En α)
theorem jE (l:List α):(e.all l).length=l.length*e.size:=by
 induction l with
 | nil=>simp[En.all]
 | cons x l h=>simp only[En.all,List.flatMap_cons,List.length_append,List.length_cons] at h ⊢;rw[h,e.len,Nat.add_mul];omega
theorem zKL (l m:List α):e.all (l++m)=e.all l++e.all m:=by simp[En.all]
theorem zGS (l:List α) (k:Nat):(e.all l).drop (k*e.size)=e.all (l.drop k):=by
 induction k generalizing l with
 | zero=>simp
 | succ k h=>
  cases l with
  | nil=>simp[En.all]
  | cons x l=>
   rw[List.drop_succ_cons,←h l];show (e.cells x++e.all l).drop ((k+1)*e.size)=_;have:(k+1)*e.size=(e.cells x).length+k*e.size:=by rw[e.len,Nat.add_mul];omega
   rw[this,List.drop_length_add_append]
theorem zDH (l:List α) (k:Nat):(e.all l).take (k*e.size)=e.all (l.take k):=by
 induction k generalizing l with
 | zero=>simp[En.all]
 | succ k h=>
  cases l with
  | nil=>simp[En.all]
  | cons x l=>
   rw[List.take_succ_cons];show (e.cells x++e.all l).take ((k+1)*e.size)=e.cells x++e.all (l.take k);have:(k+1)*e.size=(e.cells x).length+k*e.size:=by rw[e.len,Nat.add_mul];omega
   rw[this,List.take_length_add_append,h]
theorem zMU {l:List α} {k:Nat} {x: α} (h:l[k]? =some x) (off:Nat) (H:off<e.size):(e.all l)[k*e.size+off]? =(e.cells x)[off]?:=by
 have G:(e.all l)[k*e.size+off]? =((e.all l).drop (k*e.size))[off]?:=by rw[List.getElem?_drop]
 rw[G,zGS];obtain⟨z,O⟩:=List.getElem?_eq_some_iff.1 h;rw[List.drop_eq_getElem_cons z,O];show (e.cells x++e.all (l.drop (k+1)))[off]? =_;rw[List.getElem?_append_left (by rw[e.len];exact H)]
theorem zYE {l:List α} {k:Nat} {x: α} (h:l[k]? =some x) (off n:Nat) (H:off+n≤e.size):((e.all l).drop (k*e.size+off)).take n=((e.cells x).drop off).take n:=by rw[←List.drop_drop,zGS];obtain⟨z,G⟩:=List.getElem?_eq_some_iff.1 h;rw[List.drop_eq_getElem_cons z,G];show ((e.cells x++e.all (l.drop (k+1))).drop off).take n=_;rw[List.drop_append_of_le_length (by rw[e.len];omega),List.take_append_of_le_length (by simp only[List.length_drop,e.len];omega)]
theorem yGR {l:List α} {k:Nat} {x: α} (h:l[k]? =some x) {y: α} {off:Nat} {d:DV} (G:off<e.size) (H:(e.cells x).set off d=e.cells y):(e.all l).set (k*e.size+off) d=e.all (l.set k y):=by
 induction l generalizing k with
 | nil=>simp at h
 | cons z l O=>
  cases k with
  | zero=>
   simp at h;subst h;show (e.cells z++e.all l).set (0*e.size+off) d=e.cells y++e.all l;rw[Nat.zero_mul,Nat.zero_add,List.set_append_left _ _ (by rw[e.len];exact G),H]
  | succ k=>
   simp at h;show (e.cells z++e.all l).set ((k+1)*e.size+off) d=e.cells z++e.all (l.set k y);rw[←O h];have:(k+1)*e.size+off=(e.cells z).length+(k*e.size+off):=by rw[e.len,Nat.add_mul];omega
   rw[this,List.set_append_right _ _ (by omega)];simp
end
theorem xP {k:Type} {l:List k} {i:Int} {v: k} (h:z7 l i=some v):0≤i∧i=(i.toNat:Int)∧i.toNat<l.length∧l[i.toNat]? =some v:=by unfold z7 at h;split at h;rename_i hi;exact⟨hi,by omega,(List.getElem?_eq_some_iff.1 h).1,h⟩;cases h
theorem zN0 (s:Str):(⟨s.toArray⟩:ByteArray).toList=s:=by rw[ByteArray.toList_eq]
end Go.AV
namespace Go.AV
open Go.RowKit Go.M
section
variable {P:Program} {r:Option Nat} {E:Env} {S:AState} {d:Nat} {ty:TypeId} {pos:String} {af:Array Edge} {g:Option (Nat×Bool)}
section ints
variable {k:IntKind} {x y:Operand} {a b:Int} {tx tz:TypeId} (hn:d<E.n) (hx:S.ev x= .d (.v (.int k a))) (hy:S.ev y= .d (.v (.int k b)))
include hn hx hy
theorem zTM:AOp P r E S ⟨some d,.binOp .add tx x y tz,ty,pos,af,g⟩ d (.d (.v (.int k (k.wrap (a+b))))):=
 ⟨rfl,hn,fun S' h=>kR rfl hn (by simp) fun A w I ρ C z=>by
  simp only[execOp,z.val ((h.ev (by simp[Op.operands])).trans hx),z.val ((h.ev (by simp[Op.operands])).trans hy)];simp[binOp,eqGuard,Op.intArith]⟩
theorem zWU:AOp P r E S ⟨some d,.binOp .sub tx x y tz,ty,pos,af,g⟩ d (.d (.v (.int k (k.wrap (a-b))))):=
 ⟨rfl,hn,fun S' h=>kR rfl hn (by simp) fun A w I ρ C z=>by
  simp only[execOp,z.val ((h.ev (by simp[Op.operands])).trans hx),z.val ((h.ev (by simp[Op.operands])).trans hy)];simp[binOp,eqGuard,Op.intArith]⟩
theorem yNY:AOp P r E S ⟨some d,.binOp .mul tx x y tz,ty,pos,af,g⟩ d (.d (.v (.int k (k.wrap (a*b))))):=
 ⟨rfl,hn,fun S' h=>kR rfl hn (by simp) fun A w I ρ C z=>by
  simp only[execOp,z.val ((h.ev (by simp[Op.operands])).trans hx),z.val ((h.ev (by simp[Op.operands])).trans hy)];simp[binOp,eqGuard,Op.intArith]⟩
theorem yB5 {c:Int} (z:zIX k.wrap a b=some c):AOp P r E S ⟨some d,.binOp .quo tx x y tz,ty,pos,af,g⟩ d (.d (.v (.int k c))):=
 ⟨rfl,hn,fun S' h=>kR rfl hn (by simp) fun A w I ρ C G=>by
  unfold zIX at z;split at z;cases z;rename_i hb;cases z;simp only[execOp,G.val ((h.ev (by simp[Op.operands])).trans hx),G.val ((h.ev (by simp[Op.operands])).trans hy)];simp[binOp,eqGuard,Op.intDiv,hb]⟩
theorem yJY {c:Int} (z:zD3 a b=some c):AOp P r E S ⟨some d,.binOp .rem tx x y tz,ty,pos,af,g⟩ d (.d (.v (.int k c))):=
 ⟨rfl,hn,fun S' h=>kR rfl hn (by simp) fun A w I ρ C G=>by
  unfold zD3 at z;split at z;cases z;rename_i hb;cases z;simp only[execOp,G.val ((h.ev (by simp[Op.operands])).trans hx),G.val ((h.ev (by simp[Op.operands])).trans hy)];simp[binOp,eqGuard,Op.intDiv,hb]⟩
end ints
theorem yLC {k h:IntKind} {x:Operand} {a:Int} {z td:TypeId} {ds:TypeDesc} (H:d<E.n) (O:P.underlying z=some ds) (G:P.underlying td=some (.int h)) (T:S.ev x= .d (.v (.int k a))):
  AOp P r E S ⟨some d,.convert z td x,ty,pos,af,g⟩ d (.d (.v (.int h (h.wrap a)))):=zS9 H O G T
section strs
variable {x y:Operand} {a b:Str} {tx tz:TypeId} (hn:d<E.n) (hx:S.ev x= .d (ds a)) (hy:S.ev y= .d (ds b))
include hn hx hy
theorem zL5:AOp P r E S ⟨some d,.binOp .eql tx x y tz,ty,pos,af,g⟩ d (.d (.v (.bool (a==b)))):=by
 have:=yK1 (P:=P) (r:=r) (ty:=ty) (pos:=pos) (af:=af) (g:=g) (tx:=tx) (tz:=tz) hn hx hy
 rwa [zN0,zN0] at this
theorem z4A:AOp P r E S ⟨some d,.binOp .neq tx x y tz,ty,pos,af,g⟩ d (.d (.v (.bool (!(a==b))))):=by
 have:=yK2 (P:=P) (r:=r) (ty:=ty) (pos:=pos) (af:=af) (g:=g) (tx:=tx) (tz:=tz) hn hx hy
 rwa [zN0,zN0] at this
theorem yB6:AOp P r E S ⟨some d,.binOp .lss tx x y tz,ty,pos,af,g⟩ d (.d (.v (.bool (Op.bytesLess a b)))):=by
 have:=yK3 (P:=P) (r:=r) (ty:=ty) (pos:=pos) (af:=af) (g:=g) (tx:=tx) (tz:=tz) hn hx hy
 rwa [zN0,zN0] at this
theorem yLD:AOp P r E S ⟨some d,.binOp .gtr tx x y tz,ty,pos,af,g⟩ d (.d (.v (.bool (!Op.bytesLess a b&& !(a==b))))):=
 ⟨rfl,hn,fun S' h=>kR rfl hn (by simp) fun A w I ρ C k=>by
  have z:A.eval x= .string ⟨a.toArray⟩:=k.val ((h.ev (by simp[Op.operands])).trans hx);have G:A.eval y= .string ⟨b.toArray⟩:=k.val ((h.ev (by simp[Op.operands])).trans hy);simp only[execOp,z,G];simp[binOp,eqGuard,Op.stringOp,zN0]⟩
end strs
theorem zTN {t:TypeId} {x:Operand} {s:Str} (h:d<E.n) (k:P.underlying t=some .string) (z:S.ev x= .d (ds s)):
  AOp P r E S ⟨some d,.call {callee:= .builtin .len,args:= #[x],argTypes:= #[t]},ty,pos,af,g⟩ d (.d (.v (.int .i64 s.length))):=by
 have:=z8O (P:=P) (r:=r) (ty:=ty) (pos:=pos) (af:=af) (g:=g) h k z;have e:(⟨s.toArray⟩:ByteArray).size=s.length:=by simp[ByteArray.size]
 rwa [e] at this
theorem yB7 {t:TypeId} {x k:Operand} {s:Str} {kk:IntKind} {i c:Int} (T:d<E.n) (Y:P.underlying t=some .string) (Z:S.ev x= .d (ds s)) (hi:S.ev k= .d (.v (.int kk i))) (h:z03 s i=some c):
  AOp P r E S ⟨some d,.index t x k,ty,pos,af,g⟩ d (.d (.v (.int .u8 c))):=by
 unfold z03 at h;cases hb:z7 s i with
 | none=>rw[hb] at h;cases h
 | some b=>
  rw[hb] at h;cases h;obtain⟨h0,G,H,O⟩:=xP hb;have e:(⟨s.toArray⟩:ByteArray).size=s.length:=by simp[ByteArray.size]
  have:=yBW (P:=P) (r:=r) (ty:=ty) (pos:=pos) (af:=af) (g:=g) T Y Z hi G (by rw[e];exact H)
  have z:(s.toArray.toList.getD i.toNat 0)=b:=by simp[List.getD_eq_getElem?_getD,O]
  simp only[z] at this;exact this
section sl
variable {α:Type} {en:En α} {t e bytes:Nat} {z:Value} {l:List α} {x:Operand}
theorem z6G (k:d<E.n) (h:SlTy P t e en.size bytes z) (G:S.ev x= .d (zN en l)):
  AOp P r E S ⟨some d,.call {callee:= .builtin .len,args:= #[x],argTypes:= #[t]},ty,pos,af,g⟩ d (.d (.v (.int .i64 l.length))):=
 z57 k h G (jE en l)
theorem yLE {id:Nat} {sh:Bool} (k:d<E.n) (h:SlTy P t e en.size bytes z) (G:S.ev x= .row id) (hb:S.blk id= .row e en.size sh (en.all l)):
  AOp P r E S ⟨some d,.call {callee:= .builtin .len,args:= #[x],argTypes:= #[t]},ty,pos,af,g⟩ d (.d (.v (.int .i64 l.length))):=
 zWG k h G hb (jE en l)
theorem yZ {k:Operand} {T:IntKind} {i:Int} {v: α} (H:d<E.n) (G:SlTy P t e en.size bytes z) (O:S.ev x= .d (zN en l)) (hi:S.ev k= .d (.v (.int T i))) (h:z7 l i=some v):
  AOp P r E S ⟨some d,.indexAddr t x k,ty,pos,af,g⟩ d (.ip (en.all l) (i.toNat*en.size)):=
 z8P H G O hi (xP h).2.1 (jE en l) (xP h).2.2.1
theorem zD5 {id:Nat} {sh:Bool} {k:Operand} {T:IntKind} {i:Int} {v: α} (H:d<E.n) (G:SlTy P t e en.size bytes z) (O:S.ev x= .row id) (hb:S.blk id= .row e en.size sh (en.all l)) (hi:S.ev k= .d (.v (.int T i))) (h:z7 l i=some v):
  AOp P r E S ⟨some d,.indexAddr t x k,ty,pos,af,g⟩ d (.ptr id (i.toNat*en.size)):=
 z0T H G O hb hi (xP h).2.1 (jE en l) (xP h).2.2.1
theorem zT {tt:TypeId} {i:Int} {v: α} {off:Nat} {y:DV} (G:d<E.n) (k:OneTy P tt) (O:S.ev x= .ip (en.all l) (i.toNat*en.size+off)) (H:z7 l i=some v) (h:(en.cells v)[off]? =some y):
  AOp P r E S ⟨some d,.load tt x,ty,pos,af,g⟩ d (.d y):=
 xT G k O (by rw[zMU en (xP H).2.2.2 off (by rw[←en.len v];exact(List.getElem?_eq_some_iff.1 h).1)];exact h)
theorem xQ {tt:TypeId} {id:Nat} {sh:Bool} {i:Int} {v: α} {off:Nat} {y:DV} (G:d<E.n) (k:OneTy P tt) (O:S.ev x= .ptr id (i.toNat*en.size+off)) (hb:S.blk id= .row e en.size sh (en.all l)) (H:z7 l i=some v) (h:(en.cells v)[off]? =some y):
  AOp P r E S ⟨some d,.load tt x,ty,pos,af,g⟩ d (.d y):=
 z30 G k O hb (by rw[zMU en (xP H).2.2.2 off (by rw[←en.len v];exact(List.getElem?_eq_some_iff.1 h).1)];exact h)
theorem vI {tt n:Nat} {i:Int} {v: α} {off:Nat} {es:List DV} (G:d<E.n) (h:AggTy P tt n) (T:S.ev x= .ip (en.all l) (i.toNat*en.size+off)) (O:z7 l i=some v) (Y:((en.cells v).drop off).take n=es) (k:es.length=n) (H:off+n≤en.size):
  AOp P r E S ⟨some d,.load tt x,ty,pos,af,g⟩ d (.d (.agg es)):=
 zKJ G h T (by rw[zYE en (xP O).2.2.2 off n H];exact Y) k
theorem wQ {tt n:Nat} {id:Nat} {sh:Bool} {i:Int} {v: α} {off:Nat} {es:List DV} (G:d<E.n) (h:AggTy P tt n) (T:S.ev x= .ptr id (i.toNat*en.size+off)) (hb:S.blk id= .row e en.size sh (en.all l)) (O:z7 l i=some v) (Y:((en.cells v).drop off).take n=es) (k:es.length=n) (H:off+n≤en.size):
  AOp P r E S ⟨some d,.load tt x,ty,pos,af,g⟩ d (.d (.agg es)):=
 z0U G h T hb (by rw[zYE en (xP O).2.2.2 off n H];exact Y) k
end sl
theorem yB8 {w:World} {I:Im} {ρ:Nat→Value} {v:Value} {cells:List DV} (h:Rep w I v (.pt cells)):Holds w I ρ v (.ip cells 0):=by
 cases h with
 | pt b off xs cells H z k G=>exact⟨b,off,xs,rfl,⟨H,G⟩,k,z⟩
theorem wR {s k off n:Nat} {t:TypeId} {x:Operand} {cells:List DV} (H:d<E.n) (T:FldTy P s k off n t) (hx:S.ev x= .d (.pt cells)):
  AOp P r E S ⟨some d,.fieldAddr s x k,ty,pos,af,g⟩ d (.ip cells (0+off)):=
 ⟨rfl,H,fun S' Y=>zW rfl H (by simp) fun A w I ρ C hs=>by
  have h:=hs.ev x;rw[(Y.ev (by simp[Op.operands])).trans hx] at h;obtain⟨b,G,xs,hv,Z,O,z⟩:=yB8 (ρ:=ρ) h;refine⟨.pointer (some ⟨b,G+(0+off),none⟩),?_,b,G,xs,rfl,Z,O,z⟩;simp only[execOp,hv,Sem.run_bind,zL3 T w b (G+0),Nat.add_assoc];rfl⟩
theorem zOX {t n:Nat} {x:Operand} {cells:List DV} (G:d<E.n) (O:AggTy P t n) (hx:S.ev x= .d (.pt cells)) (Z:cells.length=n):
  AOp P r E S ⟨some d,.load t x,ty,pos,af,g⟩ d (.d (.agg cells)):=
 ⟨rfl,G,fun S' T=>zW rfl G (by simp) fun A w I ρ C hs=>by
  have h:=hs.ev x;rw[(T.ev (by simp[Op.operands])).trans hx] at h;obtain⟨b,o',xs,hv,z,H,k⟩:=yB8 (ρ:=ρ) h;refine⟨.agg xs.toArray,?_,.agg _ _ z.1 H z.2⟩;simp only[execOp,hv,Sem.run_bind,Nat.add_zero];rw[zDF w O b o' xs (by rw[z.1];exact Z) (fun j v Y=>(k j v Y).1)]
  rfl⟩
theorem zJW {t:TypeId} {x:Operand} {e:DV} (k:d<E.n) (h:OneTy P t) (z:S.ev x= .d (.pt [e])):
  AOp P r E S ⟨some d,.load t x,ty,pos,af,g⟩ d (.d e):=z8T k h z rfl
theorem SatAt.newPt {A:Act} {w:World} {I:Im} {ρ:Nat→Value} {C:Nat→Prop} (H:SatAt E S A w I ρ C) {e:Nat} {xs:List Value} {cells:List DV} (T:Reps w I xs cells) (h1:∀x∈xs,x.oneCell'=true):
  ∃G:Im,SatAt E S A (w.alloc (.cells xs.toArray e)) G ρ C∧Rep (w.alloc (.cells xs.toArray e)) G (.pointer (some ⟨w.heap.size,0,none⟩)) (.pt cells):=by
 have Y:∀b j,I b j→b<w.heap.size:=fun b j h=>(H.old b j h).1;have hB:Below w.heap.size w (w.alloc (.cells xs.toArray e)):=⟨rfl,rfl,rfl,by simp,fun k hk=>_root_.Go.heap_alloc_old w _ hk⟩
 let G:Im:=fun b j=>I b j∨b=w.heap.size
 have z:∀b j,I b j→G b j:=fun b j h=> .inl h;have O:=H.grow hB;refine⟨G,O.widen (B:=w.heap.size) z (fun b j hi=>?_) (fun i b hi hb=>(H.blt i b hi hb).2) (E.size _ _ _ H.frame) (fun b hc=>E.csize _ _ _ H.frame b hc),?_⟩
 ·rcases hi with hi | rfl
  ·exact⟨by have:=Y b j hi;simp;omega,.inl hi⟩
  ·exact⟨by simp,.inr (Nat.le_refl _)⟩
 ·have Z:=T.mono (zEQ (.cells xs.toArray e) Y) z
  refine .pt _ _ xs cells Z.1 (fun j x hj=>⟨?_,.inr rfl⟩) h1 Z.2;rw[Nat.zero_add,cell_of_row _ _ j xs.toArray e (0,0) (heap_alloc_new w _)];simpa using hj
theorem zOY {k:TypeId} {x:Operand} {u:DV} {size:Nat} (H:d<E.n) (hx:S.ev x= .d u) (z:okDV size u=true):
  AOp P r E S ⟨some d,.box k x,ty,pos,af,g⟩ d (.d (.pt (vH u))):=
 ⟨rfl,H,fun S' ha=>wM (by simp) fun A w I ρ C O=>by
  have h:=O.ev x;rw[(ha.ev (by simp[Op.operands])).trans hx] at h;obtain⟨Y,Z,_⟩:=Rep.flat h z;obtain⟨T,G,hr⟩:=O.newPt (e:=k) Y Z;refine⟨.pointer (some ⟨w.heap.size,0,none⟩),_,?_,T,ρ,C,G.put H hr⟩;simp[execOp,Instr.box,newVar,newRow]⟩
structure StTy (P:Program) (t:TypeId) (places:List (Nat×Nat)) (zs:List Value):Prop where
 und:∃fields,P.underlying t=some (.struct fields)∧∀w,(fields.mapM fun (f:Field)=>do pure (f.offset,←sizeOf f.type)).run P w= .ok places.toArray w
 zero:∀w,(zeroValue t).run P w= .ok (.agg zs.toArray) w
 one:∀x∈zs,x.oneCell'=true
def zOZ (places:List (Nat×Nat)):List DV→List (Nat×DV)→Option (List DV)
 | cells,[]=>some cells
 | cells,(i,v)::rest=>match places[i]? with
  | none=>none
  | some (off,size)=>if okDV size v&&Nat.ble (off+size) cells.length then zOZ places (cells.take off++vH v++cells.drop (off+size)) rest else none
theorem zTO {w:World} {I:Im} {places:List (Nat×Nat)}:∀(ds:List (Nat×DV)) (vs:List (Nat×Value)) (arr:Array Value) (cells h:List DV),Reps w I arr.toList cells→(∀x∈arr.toList,x.oneCell'=true)→
  Pw (fun (v:Nat×Value) (y:Nat×DV)=>v.1=y.1∧Rep w I v.2 y.2) vs ds→zOZ places cells ds=some h→
  ∃k,Instr.fill (fun i=>places[i]?) arr vs=some k∧Reps w I k.toList h∧∀x∈k.toList,x.oneCell'=true:=by
 intro ds
 induction ds with
 | nil=>
  intro vs arr cells h T Y H z;have:vs= []:=List.eq_nil_of_length_eq_zero H.1;subst this;simp only[zOZ,Option.some.injEq] at z;subst z;exact⟨arr,rfl,T,Y⟩
 | cons p ds ih=>
  intro vs arr cells h T Y H z;obtain⟨i,y⟩:=p;cases vs with
  | nil=>have:=H.1;simp at this
  | cons q vs=>
   obtain⟨i',v⟩:=q;obtain⟨hi,hv⟩:=H.2 0 (i',v) (i,y) rfl rfl;simp only at hi hv;subst hi;simp only[zOZ] at z;cases G:places[i']? with
   | none=>simp[G] at z
   | some os=>
    obtain⟨off,size⟩:=os;simp only[G] at z;split at z
    ·rename_i hc
     simp only[Bool.and_eq_true] at hc;obtain⟨O,ad,ag⟩:=Rep.flat hv hc.1;have ah:off+size≤cells.length:=Nat.le_of_ble_eq_true hc.2;have ak:v.cells.size=size:=by rw[←Array.length_toList,O.1,ag]
     have ab:arr.toList.length=cells.length:=T.1;have ai:Reps w I (arr.toList.take off++v.cells.toList++arr.toList.drop (off+size)) (cells.take off++vH y++cells.drop (off+size)):=
      Pw.append (Pw.append (T.take off) O) (T.drop (off+size))
     obtain⟨k,ha,aj,Z⟩:=ih vs (arr.toList.take off++v.cells.toList++arr.toList.drop (off+size)).toArray _ h (by simpa using ai) (by
      intro x hx;simp only[List.mem_append] at hx;rcases hx with (hx | hx) | hx
      ·exact Y x (List.mem_of_mem_take hx)
      ·exact ad x hx
      ·exact Y x (List.mem_of_mem_drop hx)) ⟨by have:=H.1;simpa using this,fun j a b ha hb=>H.2 (j+1) a b (by simpa using ha) (by simpa using hb)⟩ z
     refine⟨k,?_,aj,Z⟩;rw[z0Q (off:=off) (size:=size) G ak (by rw[←Array.length_toList,ab];exact ah)]
     exact ha
    ·cases z
def dvP (S:AState):List (Nat×Operand)→Option (List (Nat×DV))
 | []=>some []
 | (i,x)::r=>match S.ev x,dvP S r with
  | .d y,some ys=>some ((i,y)::ys)
  | _,_=>none
theorem zMV {A:Act} {w:World} {I:Im} {ρ:Nat→Value} {C:Nat→Prop} (z:SatAt E S A w I ρ C):∀{H:List (Nat×Operand)} {ds:List (Nat×DV)},dvP S H=some ds→
  Pw (fun (v:Nat×Value) (y:Nat×DV)=>v.1=y.1∧Rep w I v.2 y.2) (H.map fun p=>(p.1,A.eval p.2)) ds
 | [],ds,h=>by simp[dvP] at h;subst h;exact Pw.nil
 | (i,x)::r,ds,h=>by
  simp only[dvP] at h;split at h
  ·rename_i y ys O k
   cases h;have G:=z.ev x;rw[O] at G;exact Pw.cons ⟨rfl,G⟩ (zMV z k)
  ·cases h
theorem zMW {S':AState} {o:Oper} (z:Agree S S' o):∀{k:List (Nat×Operand)},(∀p∈k,p.2∈o.op.operands)→dvP S' k=dvP S k
 | [],_=>rfl
 | (i,x)::r,h=>by
  simp only[dvP];rw[z.ev (h (i,x) (by simp)),zMW z fun p G=>h p (by simp[G])]
theorem zHN {t:TypeId} {places:List (Nat×Nat)} {zs:List Value} {G:List (Nat×Operand)} {ds:List (Nat×DV)} {cells:List DV} (Z:d<E.n) (H:StTy P t places zs) (O:dvP S G=some ds) (hf:zOZ places (zs.map DV.v) ds=some cells):
  AOp P r E S ⟨some d,.build t G.toArray,ty,pos,af,g⟩ d (.d (.agg cells)):=
 ⟨rfl,Z,fun S' ha=>zW rfl Z (by simp) fun A w I ρ C hs=>by
  obtain⟨z,hu,T⟩:=H.und;have k:dvP S' G=some ds:=(zMW ha (fun p T=>by simp only[Op.operands];simp;exact⟨p.1,T⟩)).trans O
  obtain⟨h,h1,Y,h3⟩:=zTO (places:=places) ds (G.map fun p=>(p.1,A.eval p.2)) zs.toArray (zs.map DV.v) cells (by simpa using zQB w I zs) (by simpa using H.one) (zMV hs k) hf;refine⟨.agg h,?_,by have:=Rep.agg (w:=w) (I:=I) h.toList cells Y.1 h3 Y.2;rw[Array.toArray_toList] at this;exact this⟩
  have hz:=H.zero w;simp only[execOp,Instr.build,List.map_toArray,Sem.run_bind,hz,Result.andThen_ok,run_underlying hu,T w,Value.cells,List.getElem?_toArray,h1,Sem.run_pure]⟩
end
end Go.AV
namespace Go.AV
open Go.RowKit Go.M
section
variable {P:Program} {r:Option Nat} {E:Env} {S:AState} {d:Nat} {ty:TypeId} {pos:String} {af:Array Edge} {g:Option (Nat×Bool)}
variable {α:Type} {en:En α} {t e bytes:Nat} {z:Value} {l m l':List α} {x s:Operand}
theorem zO0 (h:app l m=some l'):l'=l++m∧l.length+m.length≤LIM:=by unfold app at h;split at h;rename_i k;exact⟨(Option.some.inj h).symm,k⟩;cases h
theorem zWV (hb:bytes≤32768) (h:l.length+m.length≤LIM):(l.length+m.length)*bytes≤140737488355328:=by have k:(l.length+m.length)*bytes≤4294967296*bytes:=Nat.mul_le_mul_right _ h;have G:4294967296*bytes≤4294967296*32768:=Nat.mul_le_mul_left _ hb;omega
theorem yB9 {id:Nat} {sh:Bool} {cells:List DV} (hb:S.blk id= .row e en.size sh cells) (news:List DV):(S.kill id).app id news=(S.kill id).setBlk id (.row e en.size sh (cells++news)):=by unfold AState.app;rw[zH2,hb];rfl
theorem z6 {id:Nat} {sh:Bool} (Z:d<E.n) (T:SlTy P t e en.size bytes z) (hs:S.ev s= .row id) (hb:S.blk id= .row e en.size sh (en.all l)) (hx:S.ev x= .d (zN en m)) (Y:app l m=some l') (k:0<bytes) (h:bytes≤32768)
  (O:E.wrB=true) (H:E.nm id=none):
  k4 P r E ⟨some d,.call {callee:= .builtin .append,args:= #[s,x],argTypes:= #[t,t]},ty,pos,af,g⟩ S (((S.kill id).setBlk id (.row e en.size sh (en.all l'))).put d (.row id)):=by
 obtain⟨rfl,G⟩:=zO0 Y;have:=z31 (P:=P) (r:=r) (ty:=ty) (pos:=pos) (af:=af) (g:=g) Z T hs hb hx (jE en l) (jE en m) k (zWV h G) O H;rw[yB9 hb] at this;rw[zKL];exact this
theorem z4B {n:Int} {zero: α} (hn:d<E.n) (hT:SlTy P t e en.size bytes z) (hx:S.ev x= .d (.v (.int .i64 n))) (hz:z.cells.toList.map DV.v=en.cells zero) (G:mkM zero n=some l) (h:bytes≤32768) (H:E.nm d=none):
  k4 P r E ⟨some d,.makeSlice t x x,ty,pos,af,g⟩ S (((S.kill d).setBlk d (.row e en.size false (en.all l))).put d (.row d)):=by
 unfold mkM at G;split at G
 ·rename_i Y
  cases G;have O:n=((n.toNat:Nat):Int):=by omega
  have T:n.toNat*bytes≤140737488355328:=by
   have O:n.toNat*bytes≤4294967296*bytes:=Nat.mul_le_mul_right _ Y.2;have T:4294967296*bytes≤4294967296*32768:=Nat.mul_le_mul_left _ h;omega
  have:=zQC (P:=P) (r:=r) (ty:=ty) (pos:=pos) (af:=af) (g:=g) hn hT hx O T (by have:=Y.2;unfold LIM at this;unfold maxLen;omega) H
  have e1:zE5 z n.toNat=en.all (List.replicate n.toNat zero):=by
   unfold zE5;rw[hz]
   induction n.toNat with
   | zero=>rfl
   | succ k Z=>simp only[List.replicate_succ,List.flatten_cons,En.all,List.flatMap_cons] at Z ⊢;rw[Z]
  rw[e1] at this;exact this
 ·cases G
theorem zMX {i:Int} {v: α} (h:uQ l i v=some l'):l'=l.set i.toNat v∧0≤i∧i.toNat<l.length:=by unfold uQ at h;split at h;rename_i k;exact⟨(Option.some.inj h).symm,k⟩;cases h
theorem wA {tt:TypeId} {y:Operand} {id off:Nat} {i:Int} {v k: α} {u:DV} (O:OneTy P tt) (hx:S.ev x= .ptr id (i.toNat*en.size+off)) (hb:S.blk id= .row e en.size false (en.all l)) (hy:S.ev y= .d u) (hv:z7 l i=some v)
  (Z:(en.cells v).set off u=en.cells k) (T:off<en.size) (Y:uQ l i k=some l') (G:(AV.d u).one=true) (H:E.wrB=true):
  k4 P r E ⟨none,.store tt x y,ty,pos,af,g⟩ S (S.setBlk id (.row e en.size false (en.all l'))):=by
 obtain⟨rfl,h0,h⟩:=zMX Y;rw[←yGR en (xP hv).2.2.2 T Z];refine zS4 O hx hb ?_ hy G H;rw[jE];have:(i.toNat+1)*en.size≤l.length*en.size:=Nat.mul_le_mul_right _ h;rw[Nat.add_mul] at this;omega
theorem zCP {lo hi:Int} (h:slc l lo hi=some l'):l'=(l.take hi.toNat).drop lo.toNat∧0≤lo∧lo≤hi∧hi.toNat≤l.length:=by unfold slc at h;split at h;rename_i k;exact⟨(Option.some.inj h).symm,k⟩;cases h
theorem z1A {lo:Operand} {G:IntKind} {a:Int} (O:d<E.n) (H:SlTy P t e en.size bytes z) (T:S.ev x= .d (zN en l)) (k:S.ev lo= .d (.v (.int G a))) (h:slc l a l.length=some l'):
  AOp P r E S ⟨some d,.slice t x (some lo) none none,ty,pos,af,g⟩ d (.d (zN en l')):=by
 obtain⟨rfl,Y,Z,h3⟩:=zCP h;exact zWL O H T (jE en l) (l:=a.toNat) (h:=l.length) ⟨⟨G,a,k,by omega⟩,rfl,by omega,by omega⟩ (by rw[zDH,zGS];simp)
theorem zTP {hi:Operand} {G:IntKind} {b:Int} (T:d<E.n) (O:SlTy P t e en.size bytes z) (Y:S.ev x= .d (zN en l)) (k:S.ev hi= .d (.v (.int G b))) (h:slc l 0 b=some l'):
  AOp P r E S ⟨some d,.slice t x none (some hi) none,ty,pos,af,g⟩ d (.d (zN en l')):=by
 obtain⟨rfl,Z,h2,H⟩:=zCP h;exact zWL T O Y (jE en l) (l:=0) (h:=b.toNat) ⟨rfl,⟨G,b,k,by omega⟩,by omega,H⟩ (by rw[zDH];simp)
def findAt {h:Type} [DecidableEq h] (a: h):List h→List MapEntry→Nat→Option (Nat×Value)
 | k::G,x::es,i=>if a=k then some (i,x.val) else findAt a G es (i+1)
 | _,_,_=>none
structure KeyTy {κ:Type} [DecidableEq κ] (P:Program) (kt:TypeId) (kv: κ→Value):Prop where
 same:∀a,Instr.sameBits 10000 (kv a) (kv a)=true
 check:∀a b w,(Instr.checkKey b 10000 kt (kv a)).run P w= .ok () w
 find:∀a (ks:List κ) (es:List MapEntry) w,Pw (fun (x:MapEntry) k=>x.key=kv k) es ks→(Instr.findKey kt (kv a) es).run P w= .ok (findAt a ks es 0) w
theorem zHO {α k:Type} {R: α→k→Prop} {x: α} {y: k} {xs:List α} {ys:List k} (h:Pw R (x::xs) (y::ys)):R x y∧Pw R xs ys:=
 ⟨h.2 0 x y rfl rfl,by have:=h.1;simpa using this,fun j a b G hb=>h.2 (j+1) a b (by simpa using G) (by simpa using hb)⟩
theorem zL6 {H:Type} [DecidableEq H] {kv: H→Value} {td:TypeDesc} (O:∀a b,Instr.sameNow td (kv a) (kv b)=some (decide (a=b))) (a: H):∀(es:List MapEntry) (G:List H) (i:Nat),Pw (fun (x:MapEntry) k=>x.key=kv k) es G→
  Instr.findNow td (kv a) es i=some (findAt a G es i)
 | [],G,i,h=>by
  cases G with
  | nil=>rfl
  | cons k G=>have:=h.1;simp at this
 | x::es,G,i,h=>by
  cases G with
  | nil=>have:=h.1;simp at this
  | cons k G=>
   obtain⟨T,Y⟩:=zHO h;simp only[Instr.findNow,T,O,findAt];by_cases e:a=k
   ·simp[e]
   ·simp only[e,decide_false,if_false]
    exact zL6 O a es G (i+1) Y
def kI (n:Int):Value:= .int .i64 n
def kS (s:Str):Value:= .string ⟨s.toArray⟩
theorem z82 {h:TypeId} (k:P.underlying h=some (.int .i64)) (n:Nat) (a:Int) (b:Bool) (w:World):(Instr.checkKey b (n+1) h (kI a)).run P w= .ok () w:=by simp only[kI,Instr.checkKey,Sem.run_bind,run_underlying k,Result.andThen_ok];rfl
theorem z83 {h:TypeId} (k:P.underlying h=some .string) (n:Nat) (a:Str) (b:Bool) (w:World):(Instr.checkKey b (n+1) h (kS a)).run P w= .ok () w:=by simp only[kS,Instr.checkKey,Sem.run_bind,run_underlying k,Result.andThen_ok];rfl
theorem yLF {G:TypeId} (k:P.underlying G=some (.int .i64)):KeyTy P G kI where
 same:=fun a=>by simp[kI,Instr.sameBits]
 check:=fun a b w=>z82 k 9999 a b w
 find:=fun a H es w h=>by
  have:=zL6 (kv:=kI) (td:= .int .i64) (fun a b=>by simp only[kI,Instr.sameNow,if_true];rfl) a es H 0 h
  simp only[Instr.findKey,Sem.run_bind,run_underlying k,Result.andThen_ok];rw[this];rfl
theorem zTQ (a b:Str):((⟨a.toArray⟩:ByteArray)==⟨b.toArray⟩)=decide (a=b):=by show (a.toArray==b.toArray)=_;rw[Bool.eq_iff_iff];simp
theorem yLG {G:TypeId} (k:P.underlying G=some .string):KeyTy P G kS where
 same:=fun a=>by simp only[kS,Instr.sameBits,zTQ];simp
 check:=fun a b w=>z83 k 9999 a b w
 find:=fun a H es w h=>by
  have:=zL6 (kv:=kS) (td:= .string) (fun a b=>by simp only[kS,Instr.sameNow,zTQ]) a es H 0 h;simp only[Instr.findKey,Sem.run_bind,run_underlying k,Result.andThen_ok];rw[this];rfl
theorem z1B {w:World} {I:Im} (vs:List Value) (h:vs.all Value.oneCell'=true):Rep w I (.agg vs.toArray) (.agg (vs.map DV.v)):=
 .agg vs _ (by simp) (fun x k=>List.all_eq_true.1 h x k) (zQB w I vs).2
def vV {h k:Type} (kv: h→Value) (ev:En k) (m:List (h×k)):List (Value×DV):=m.map fun p=>(kv p.1,ev.dv p.2)
structure MapTy (P:Program) (t kt vt:TypeId) (zv:Value):Prop where
 und:P.underlying t=some (.map kt vt)
 zero:∀w,(zeroValue vt).run P w= .ok zv w
section
variable {κ ν:Type} [DecidableEq κ] {kv: κ→Value} {ev:En ν} {mp:List (κ×ν)} {k: κ} {kt vt:TypeId} {zv:Value} {zero: ν} {km kk:Operand} {id:Nat}
theorem zKM {w:World} {I:Im} {a: κ}:∀{m:List (κ×ν)} {es:List MapEntry} {i:Nat},Pw (fun (x:MapEntry) (y:Value×DV)=>x.key=y.1∧Rep w I x.val y.2) es (vV kv ev m)→
  (mget m a=none∧findAt a (m.map Prod.fst) es i=none)∨∃v j x,mget m a=some v∧findAt a (m.map Prod.fst) es i=some (i+j,x)∧Rep w I x (ev.dv v)∧(∃y,es[j]? =some y∧y.key=kv a∧y.val=x)∧
   ∀(u:Value) (G: ν) (f:MapEntry→MapEntry),(∀y,(f y).key=y.key∨(f y).key=kv a)→(∀y,(f y).val=u)→Rep w I u (ev.dv G)→Pw (fun (x:MapEntry) (y:Value×DV)=>x.key=y.1∧Rep w I x.val y.2) (es.modify j f) (vV kv ev (zAQ m a G))
 | [],es,i,h=>by left;exact⟨rfl,by cases es<;>rfl⟩
 | (k',G)::m,[],i,h=>by have:=h.1;simp[vV] at this
 | (k',G)::m,x::es,i,h=>by
  obtain⟨O,h2⟩:=zHO h;simp only[List.map_cons,findAt,mget,zAQ];by_cases e:a=k'
  ·subst e
   right;refine⟨G,0,x.val,by simp,by simp,O.2,⟨x,rfl,O.1,rfl⟩,fun u H f hk hv Z=>?_⟩;simp only[if_true,List.modify_zero_cons];refine Pw.cons ⟨?_,by rw[hv];exact Z⟩ h2
   rcases hk x with hk | hk
   ·rw[hk];exact O.1
   ·exact hk
  ·simp only[e,if_false]
   rcases zKM (a:=a) (m:=m) (es:=es) (i:=i+1) h2 with ⟨T,Y⟩ | ⟨v,j,y,T,Y,e3,⟨q,q1,q2,q3⟩,e4⟩
   ·left;exact⟨T,Y⟩
   ·right
    refine⟨v,j+1,y,T,by rw[Y];congr 2;omega,e3,⟨q,by simpa using q1,q2,q3⟩,fun u H f hk hv Z=>?_⟩
    simp only[List.modify_succ_cons];exact Pw.cons O (e4 u H f hk hv Z)
theorem z1C {m:List (κ×ν)} {a: κ} (h:mget m a=none) (v: ν):zAQ m a v=m++ [(a,v)]:=by
 induction m with
 | nil=>rfl
 | cons p m G=>
  obtain⟨H,O⟩:=p;simp only[mget,zAQ] at h ⊢;split at h;cases h;rename_i e;simp only[e,if_false,G h,List.cons_append]
omit [DecidableEq κ] in
theorem zYF {w:World} {I:Im} {m:List (κ×ν)} {es:List MapEntry} (h:Pw (fun (x:MapEntry) (y:Value×DV)=>x.key=y.1∧Rep w I x.val y.2) es (vV kv ev m)):Pw (fun (x:MapEntry) k=>x.key=kv k) es (m.map Prod.fst):=by
 refine⟨by rw[h.1];simp[vV],fun j x k O G=>?_⟩
 rw[List.getElem?_map] at G;cases H:m[j]? with
 | none=>simp[H] at G
 | some p=>
  simp[H] at G;subst G;exact(h.2 j x (kv p.1,ev.dv p.2) O (by simp[vV,H])).1
theorem zKN {w:World} {I:Im} {b G:Nat} {h:Array MapEntry} (hT:MapTy P t kt vt zv) (Z:KeyTy P kt kv) (hh:w.heap[b]? =some (.map h G)) (hp:Pw (fun (x:MapEntry) (y:Value×DV)=>x.key=y.1∧Rep w I x.val y.2) h.toList (vV kv ev mp)) (hz:Rep w I zv (ev.dv zero)) (ok:Bool):
  ∃v,(Instr.lookup t (.map (some b)) (kv k) ok).run P w= .ok (if ok then .tuple #[v,.bool (zCO mp k)] else v) w∧Rep w I v (ev.dv (zAN mp k zero)):=by
 have T:=Z.find k _ h.toList w (zYF hp);have H:(getObj b).run P w= .ok (.map h G) w:=by simp[getObj,Sem.run,hh]
 rcases zKM (a:=k) (i:=0) hp with ⟨O,Y⟩ | ⟨v,j,x,O,Y,e3,_,_⟩
 ·rw[Y] at T
  refine⟨zv,?_,by simpa[zAN,O] using hz⟩;simp only[Instr.lookup,Sem.run_bind,run_underlying hT.und,Result.andThen_ok,H,Sem.run_pure,Z.check,T,hT.zero,zCO,O];rfl
 ·rw[Y] at T
  refine⟨x,?_,by simpa[zAN,O] using e3⟩;simp only[Instr.lookup,Sem.run_bind,run_underlying hT.und,Result.andThen_ok,H,Sem.run_pure,Z.check,T,zCO,O];rfl
theorem yCA (hn:d<E.n) (hT:MapTy P t kt vt zv) (hK:KeyTy P kt kv) (hm:S.ev km= .row id) (hb:S.blk id= .map (vV kv ev mp)) (hk:S.ev kk= .d (.v (kv k))) (hz:∀w I,Rep w I zv (ev.dv zero)):
  AOp P r E S ⟨some d,.lookup t km kk false,ty,pos,af,g⟩ d (.d (ev.dv (zAN mp k zero))):=
 ⟨rfl,hn,fun S' H=>zW rfl hn (by simp) fun A w I ρ C T=>by
  have h:=T.blks id;rw[(H.blk id).trans hb] at h;obtain⟨b,ab,G,aa,_,hh,hp,_⟩:=h;have hv:=T.ev km;rw[(H.ev (by simp[Op.operands])).trans hm] at hv;have Y:A.eval km= .map (some b):=Eq.trans hv aa;have O:=T.val ((H.ev (x:=kk) (by simp[Op.operands])).trans hk);have Z:=hz w I;obtain⟨v,h1,h2⟩:=zKN (w:=w) (I:=I) hT hK hh hp Z false;refine⟨v,?_,h2⟩;simp only[execOp,Y,O,Sem.run_bind,h1];rfl⟩
theorem zWW (hn:d<E.n) (hT:MapTy P t kt vt zv) (hK:KeyTy P kt kv) (hm:S.ev km= .row id) (hb:S.blk id= .map (vV kv ev mp)) (hk:S.ev kk= .d (.v (kv k))) (hz:∀w I,Rep w I zv (ev.dv zero)):
  AOp P r E S ⟨some d,.lookup t km kk true,ty,pos,af,g⟩ d (.tup [ev.dv (zAN mp k zero),db (zCO mp k)]):=
 ⟨rfl,hn,fun S' H=>zW rfl hn (by simp) fun A w I ρ C T=>by
  have h:=T.blks id;rw[(H.blk id).trans hb] at h;obtain⟨b,ab,G,aa,_,hh,hp,_⟩:=h;have hv:=T.ev km;rw[(H.ev (by simp[Op.operands])).trans hm] at hv;have Y:A.eval km= .map (some b):=Eq.trans hv aa;have O:=T.val ((H.ev (x:=kk) (by simp[Op.operands])).trans hk);have Z:=hz w I;obtain⟨v,h1,h2⟩:=zKN (w:=w) (I:=I) hT hK hh hp Z true;refine⟨.tuple #[v,.bool (zCO mp k)],?_,[v,.bool (zCO mp k)],rfl,Pw.cons h2 (Pw.cons (.v _) Pw.nil)⟩;simp only[execOp,Y,O,Sem.run_bind,h1];rfl⟩
theorem z84 (Y:d<E.n) (G:E.nm d=none):k4 P r E ⟨some d,.makeMap t none,ty,pos,af,g⟩ S (((S.kill d).setBlk d (.map [])).put d (.row d)):=
 wM (by simp) fun A w I ρ C H=>by
  have O:∀b j,I b j→b<w.heap.size:=fun b j h=>(H.old b j h).1;have hb:=H.update (zH4 w (.map #[] 0)) (id:=d) (u:= .map (some w.heap.size)) (x:= .map []) (by simp) (zEQ _ O) (fun b hb=> .inl (by simp[blockOf] at hb;omega))
   ⟨w.heap.size,#[],0,by simp[upd],E.mineB _ (E.size _ _ _ H.frame),heap_alloc_new w _,Pw.nil,fun j T=>by have:=O _ j T;omega⟩ (.inl rfl) G
  refine⟨.map (some w.heap.size),w.alloc (.map #[] 0),?_,I,_,C,hb.put Y (by simp[Holds,upd])⟩;simp only[execOp,Instr.makeMap,Option.map_none,Sem.run_bind,run_newObj_alloc,Result.andThen_ok,Sem.run_pure]
theorem zKO {w:World} {b G:Nat} {H:Array MapEntry} {O:Obj} (h:w.heap[b]? =some (.map H G)):(setObj b O).run P w= .ok () {w with heap:=w.heap.setIfInBounds b O}:=by simp[setObj,Sem.run,h]
theorem z1D {x:Operand} {v: ν} {u:DV} (hT:MapTy P t kt vt zv) (hK:KeyTy P kt kv) (hm:S.ev km= .row id) (hb:S.blk id= .map (vV kv ev mp)) (hk:S.ev kk= .d (.v (kv k))) (hx:S.ev x= .d u) (hu:u=ev.dv v) (hE:E.wrB=true):
    k4 P r E ⟨none,.mapUpdate t km kk x,ty,pos,af,g⟩ S (S.setBlk id (.map (vV kv ev (zAQ mp k v)))):=
  zFO rfl (by simp) fun A w I ρ C hs=>by
    subst hu;have ad:=hs.blks id;rw[hb] at ad;obtain⟨b,O,T,ab,hM,hh,hp,hI⟩:=ad;have hv:=hs.ev km;rw[hm] at hv;have aj:A.eval km= .map (some b):=Eq.trans hv ab;have ah:=hs.val hk;have aa:=hs.ev x;rw[hx] at aa;have ao:=(Array.getElem?_eq_some_iff.1 hh).1;have hf:=hK.find k _ O.toList w (zYF hp);have Z:(getObj b).run P w= .ok (.map O T) w:=by simp[getObj,Sem.run,hh]
    have ac:∀(H:Array MapEntry) (G:Nat),Pw (fun (x:MapEntry) (y:Value×DV)=>x.key=y.1∧Rep w I x.val y.2) H.toList (vV kv ev (zAQ mp k v))→
        Sat E (S.setBlk id (.map (vV kv ev (zAQ mp k v)))) A {w with heap:=w.heap.setIfInBounds b (.map H G)}:=by
      intro H G aq;have hg:w.grownBy {w with heap:=w.heap.setIfInBounds b (.map H G)} (some b):=
        ⟨rfl,rfl,rfl,by simp,fun q _ hq=>Array.getElem?_setIfInBounds_ne (fun e=>hq (by rw[e]))⟩
      have Y:Same I w {w with heap:=w.heap.setIfInBounds b (.map H G)}:=fun b' j hi=>by
        have:b'≠b:=fun e=>hI j (e▸hi);exact KeepB.of (Array.getElem?_setIfInBounds_ne (fun e=>this e.symm))
      refine⟨I,ρ,C,hs.modify hg (by rw[hb];simp) (by rw[ab];rfl) Y ⟨b,H,G,ab,hM,by simp[ao],aq.imp fun _ _ h=>⟨h.1,h.2.mono Y (fun _ _ h=>h)⟩,hI⟩ hE⟩
    rcases zKM (a:=k) (i:=0) hp with ⟨e1,e2⟩ | ⟨v0,j,x0,e1,e2,e3,⟨q,q1,q2,q3⟩,e4⟩
    · rw[e2] at hf
      refine⟨_,?_,ac (O.push {key:=kv k,val:=A.eval x,born:=T}) (T+1) ?_⟩
      · simp only[execOp,aj,ah,Instr.mapUpdate,Sem.run_bind,run_underlying hT.und,Result.andThen_ok,Z,hK.check,hf,zKO hh,Sem.run_pure]
      · rw[z1C e1]
        simp only[vV,List.map_append,Array.toList_push,List.map_cons,List.map_nil];exact Pw.append hp (Pw.cons ⟨rfl,aa⟩ Pw.nil)
    · rw[e2] at hf
      have hq:O[0+j]? =some q:=by rw[Nat.zero_add];simpa using q1
      have ag:(Instr.keyThatStays (((O[0+j]?).map (·.key)).getD (kv k)) (kv k)).run P w= .ok (kv k) w:=by
        rw[hq];simp only[Option.map_some,Option.getD_some,q2,Instr.keyThatStays,hK.same,if_true,Sem.run_pure]
      refine⟨_,?_,ac (O.modify (0+j) fun e=>{e with key:=kv k,val:=A.eval x}) T ?_⟩
      · simp only[execOp,aj,ah,Instr.mapUpdate,Sem.run_bind,run_underlying hT.und,Result.andThen_ok,Z,hK.check,hf,ag,zKO hh,Sem.run_pure]
      · rw[Nat.zero_add,Array.toList_modify]
        exact e4 (A.eval x) v _ (fun _=> .inr rfl) (fun _=>rfl) aa
end
end
end Go.AV
namespace Go.AV
open Go.RowKit Go.M
def FnC (P:Program) (c:DV) (ds k:List DV):Prop:=
 (∃f h,c= .fn f h∧zE P f (ds++h) k)∨(∃f,c= .v (.func (.func f) #[] #[])∧zE P f ds k)
section
variable {P:Program} {r:Option Nat} {E:Env} {S:AState} {d:Nat} {ty:TypeId} {pos:String} {af:Array Edge} {g:Option (Nat×Bool)}
theorem zGI {x:Operand} {xs:List Operand} {ats:Array TypeId} {c:DV} {ds rs:List DV} (hn:d<E.n) (hx:S.ev x= .d c) (O:unD (xs.map S.ev)=some ds) (z:FnC P c ds rs) (hG:E.gdt=zBO P:=by rfl):
  AOp P r E S ⟨some d,.call {callee:= .value x,args:=xs.toArray,argTypes:=ats},ty,pos,af,g⟩ d (zV7 rs):=by
 rcases z with ⟨f,an,rfl,z⟩ | ⟨f,rfl,z⟩
 ·exact yGM hn hx O z hG
 ·refine⟨rfl,hn,fun S' ha=>?_⟩
  have am:=(ha.ev (x:=x) (by simp[Op.operands,Call.operands])).trans hx;have T:unD (xs.map S'.ev)=some ds:=by
   have:xs.map S'.ev=xs.map S.ev:=List.map_congr_left fun y hy=>ha.ev (by simp[Op.operands,Call.operands,hy]);rw[this];exact O
  obtain⟨ag,ah⟩:=zH5 S' T
  rintro A w K Q ⟨I,ρ,C,hs⟩ hk
  obtain⟨⟨fn,hf,H,k⟩,G⟩:=z;obtain⟨I1,h1,h,h3⟩:=SatAt.dvL _ hs (zBC hs xs) ag;rw[ah] at h;have hv:=hs.val am;have ad:=G w I1 (xs.map A.eval) (fun b j hi=>(h.old b j hi).1) (hG▸h.gl) h3;refine⟨fun f _=>trivial,?_⟩;rw[Oper.semAt_eq _ _ _ (by simp)];have aa:(execOp A.eval ⟨some d,.call {callee:= .value x,args:=xs.toArray,argTypes:=ats},ty,pos,af,g⟩).run P w= .ok (.enter f (xs.map A.eval).toArray) w:=by
   simp only[execOp,resolve,hv,Deferred.ofValue];have aj:¬fn.name= "runtime.NumGoroutine" :=by simpa using H
   have ak:¬fn.body=none:=by intro e;simp[e] at k
   simp[invoke,callFunc,hf,aj,ak,List.map_toArray]
  rw[aa];refine⟨by simp[fen,Fence.wide],?_⟩;show CallsIn Fence.wide 0 P f _ w _;refine callsIn_wide.2 (ad.mono ?_)
  rintro e w' ⟨v,I',rfl,hb,ab,Y,Z⟩
  refine hk _ _ ⟨I',ρ,C,SatAt.put ?_ hn (zLU Z)⟩;have h4:=h.grow hb;exact h4.widen ab Y (fun i b hi ac=>(h.blt i b hi ac).2) (E.size _ _ _ h.frame) (fun b z=>E.csize _ _ _ h.frame b z)
variable {ops:Array Oper} {o:Oper} {rest:List Oper} {J:AState→Prop} {j t:Nat} {want b c:Bool} {x:AV}
theorem kE (h:AOp P r E S o d x) (k:Sq P r E ops rest (S.put d x) J) (z:o.guard=none:=by rfl):Sq P r E ops (o::rest) S J:=yK4 (zTB z h) k
theorem daa (h:AOp P r E S o d x) (k:DA P r E ops rest (S.put d x) J) (z:o.guard=none:=by rfl):DA P r E ops (o::rest) S J:=yK5 (zTB z h) k
theorem gF {b:Bool} (h:gd false b=true):b=false:=by cases b;rfl;cases h
theorem zTR {t:Nat} {x:DV} (h:S.dv (S.get t).un=some x):RetS P S [.tmp t] [x]:=⟨_,_,rfl,h,rfl⟩
theorem xU {a t id e:Nat} {cells:List AV} {ds:List DV} (h:(S.get a).un= .ptr id 0) (k:S.blk id= .box e cells) (z:AggTy P t cells.length) (G:S.dvL cells=some ds):RetS P S [.cell a t] [.agg ds]:=
 ⟨_,_,id,e,cells,rfl,h,k,.inr ⟨ds,z,G,rfl⟩,rfl⟩
end
end Go.AV
namespace Go.AV
open Go.RowKit Go.M
abbrev wi (n:Int):Int:=IntKind.i64.wrap n
abbrev wu (n:Int):Int:=IntKind.u64.wrap n
theorem zM {a b:Bool} (h:(a&&b)=true):a=true∧b=true:=by simpa using h
section
variable {P:Program}
theorem zYG {t n:Nat} (h:(P.info? t).map (·.size)=some n) (w:World):(sizeOf t).run P w= .ok n w:=by
 cases hi:P.info? t with
 | none=>simp[hi] at h
 | some i=>simp[hi] at h;simp[sizeOf,typeInfo,hi,h]
theorem zYH {t:Nat} {z:Value} (h:(P.info? t).bind (·.zero)=some z) (w:World):(zeroValue t).run P w= .ok z w:=by
 cases hi:P.info? t with
 | none=>simp[hi] at h
 | some i=>simp[hi] at h;simp[zeroValue,typeInfo,hi,h]
theorem FldTy.of {s k off n:Nat} {t:TypeId} {z:Array Field} (T:P.underlying s=some (.struct z)) (G:(z[k]?).map (fun f=>(f.offset,f.type))=some (off,t)) (O:(P.info? t).map (·.size)=some n) (H:0<n):FldTy P s k off n t:=by
 cases h:z[k]? with
 | none=>simp[h] at G
 | some f=>simp[h] at G;exact⟨⟨z,f,T,h,G.1,G.2⟩,zYG O,H⟩
theorem zRD (w:World):∀(k:List Field) (places:List (Nat×Nat)),k.map (fun f=>(f.offset,(P.info? f.type).map (·.size)))=places.map (fun p=>(p.1,some p.2))→
    (k.mapM fun (f:Field)=>(do pure (f.offset,←sizeOf f.type):Sem (Nat×Nat))).run P w= .ok places w
  | [],places,h=>by cases places with
    | nil=>simp
    | cons p z=>simp at h
  | f::k,places,h=>by cases places with
    | nil=>simp at h
    | cons p z=>
      simp only[List.map_cons,List.cons.injEq,Prod.mk.injEq] at h;have G:=zYG h.1.2 w;have H:=zRD w k z h.2;simp only[List.mapM_cons,Sem.run_bind,G,Result.andThen_ok,Sem.run_pure,H,h.1.1]
theorem StTy.of {t:TypeId} {places:List (Nat×Nat)} {zs:List Value} {h:Array Field} (G:P.underlying t=some (.struct h)) (z:h.toList.map (fun f=>(f.offset,(P.info? f.type).map (·.size)))=places.map (fun p=>(p.1,some p.2)))
    (O:((P.info? t).bind (·.zero))=some (.agg zs.toArray)) (k:zs.all Value.oneCell'=true):StTy P t places zs:=by
  refine⟨⟨h,G,fun w=>?_⟩,zYH O,fun x H=>List.all_eq_true.1 k x H⟩;rw[Array.mapM_eq_mapM_toList];simp only[Sem.run_map,zRD w _ _ z,Result.andThen_ok]
theorem MapTy.of {t k h:TypeId} {z:Value} (G:P.underlying t=some (.map k h)) (H:(P.info? h).bind (·.zero)=some z):MapTy P t k h z:=⟨G,zYH H⟩
def NilL:List DV→List DV→Prop
 | [],[]=>True
 | a::as,b::bs=>(a=b∨(a= .v (.slice none 0 0)∧∃s,b= .sl s []))∧NilL as bs
 | _,_=>False
theorem zO1 {w:World} {I:Im}:∀{vs:List Value} {as bs:List DV},NilL as bs→Reps w I vs as→Reps w I vs bs
 | vs,[],[],_,h=>h
 | vs,[],b::bs,h,_=>h.elim
 | vs,a::as,[],h,_=>h.elim
 | [],a::as,b::bs,_,k=>by have:=k.1;simp at this
 | v::vs,a::as,b::bs,h,k=>by
  obtain⟨z,G⟩:=zHO k;refine Pw.cons ?_ (zO1 h.2 G);rcases h.1 with rfl | ⟨rfl,s,rfl⟩;exact z;cases z;exact .nil _ _ _
theorem yGS {f:FuncId} {as bs k:List DV} (h:zE P f bs k) (G:NilL as bs):zE P f as k:=
 ⟨h.1,fun w I vs z hG H=>h.2 w I vs z hG (zO1 G H)⟩
end
end Go.AV
namespace Go.AV
open Go.RowKit Go.M
section
variable {P:Program}
structure EqFld (P:Program) (f:Field):Prop where
 name:f.name≠ "_"
 agg:∀w,(isAgg f.type).run P w= .ok false w
 und:(∃k,P.underlying f.type=some (.int k))∨P.underlying f.type=some .bool∨P.underlying f.type=some .string
theorem run_equalIn_int {t:TypeId} {k h:IntKind} (z:P.underlying t=some (.int k)) (d:Nat) (a b:Int) (w:World):(Op.equalIn (d+1) t (.int h a) (.int h b)).run P w= .ok (decide (a=b)) w:=by rw[Op.equalIn];simp only[Sem.run_bind,run_underlying z,Result.andThen_ok,if_true,Sem.run_pure];rfl
theorem zRT {t:TypeId} (h:P.underlying t=some .string) (d:Nat) (a b:Str) (w:World):(Op.equalIn (d+1) t (.string ⟨a.toArray⟩) (.string ⟨b.toArray⟩)).run P w= .ok (decide (a=b)) w:=by rw[Op.equalIn];simp only[Sem.run_bind,run_underlying h,Result.andThen_ok,Sem.run_pure,zTQ]
theorem zH9 {t:TypeId} {xs:Array Value} {off:Nat} {a:Value} (h:∀w,(isAgg t).run P w= .ok false w) (k:xs[off]? =some a) (w:World):(part t xs off).run P w= .ok a w:=by simp[part,h,k]
theorem zWX {w:World} {F:Field→Option Bool×PUnit→Sem (ForInStep (Option Bool×PUnit))}:∀(k:List Field) (cs:List Bool),Pw (fun (f:Field) c=> ∀s,(F f s).run P w= .ok (if c then .yield (none,()) else .done (some false,())) w) k cs→
  (forIn k ((none,()):Option Bool×PUnit) F).run P w= .ok (if cs.all id then (none,()) else (some false,())) w
 | [],cs,h=>by cases cs with
  | nil=>simp
  | cons c cs=>have:=h.1;simp at this
 | f::k,cs,h=>by cases cs with
  | nil=>have:=h.1;simp at this
  | cons c cs=>
   obtain⟨z,G⟩:=zHO h;have H:=zWX k cs G;rw[List.forIn_cons];simp only[Sem.run_bind,z,Result.andThen_ok];cases c with
   | false=>simp
   | true=>simpa using H
def Eqs (P:Program) (d:Nat) (xs ys:Array Value) (w:World) (h:List Field) (cs:List Bool):Prop:=
 Pw (fun (f:Field) c=>f.name≠ "_" ∧(∀w,(isAgg f.type).run P w= .ok false w)∧∃a b,xs[f.offset]? =some a∧ys[f.offset]? =some b∧(Op.equalIn d f.type a b).run P w= .ok c w) h cs
theorem z6H {d:Nat} {xs ys:Array Value} {w:World}:Eqs P d xs ys w [] []:=Pw.nil
section
variable {d:Nat} {xs ys:Array Value} {w:World} {f:Field} {fs:List Field} {cs:List Bool} (hn:(f.name== "_")=false) (ho:OneTy P f.type) (hs:Eqs P (d+1) xs ys w fs cs)
include hn ho hs
theorem zYI {k h:IntKind} {a b:Int} (z:P.underlying f.type=some (.int k)) (G:xs[f.offset]? =some (.int h a)) (H:ys[f.offset]? =some (.int h b)):Eqs P (d+1) xs ys w (f::fs) (decide (a=b)::cs):=
 Pw.cons ⟨by simpa using hn,ho.agg,_,_,G,H,run_equalIn_int z d a b w⟩ hs
theorem yGT {a b:Str} (h:P.underlying f.type=some .string) (k:xs[f.offset]? =some (.string ⟨a.toArray⟩)) (z:ys[f.offset]? =some (.string ⟨b.toArray⟩)):Eqs P (d+1) xs ys w (f::fs) (decide (a=b)::cs):=
 Pw.cons ⟨by simpa using hn,ho.agg,_,_,k,z,zRT h d a b w⟩ hs
end
structure EqTy {α:Type} [DecidableEq α] (P:Program) (t:TypeId) (en:En α):Prop where
 eq:∀(a b: α) (va vb:Value) w I,Rep w I va (en.dv a)→Rep w I vb (en.dv b)→(∃xs ys,va= .agg xs∧vb= .agg ys)∧(Op.equal t va vb).run P w= .ok (decide (a=b)) w
 guard:∀(op:BinOp) (x y:Operand) xs ys w,(eqGuard op t x y (.agg xs) (.agg ys)).run P w= .ok () w
theorem zTS {w:World} {I:Im} {u v:Value} (h:Rep w I u (.v v)):u=v:=by cases h;rfl
theorem zMY {w:World} {I:Im} {v:Value} {vs:List Value} (h:Rep w I v (.agg (vs.map DV.v))):v= .agg vs.toArray:=by
 cases h with
 | agg xs cells T k O=>
  congr 2;apply List.ext_getElem?;intro j;have G:xs.length=vs.length:=by simpa using T
  by_cases H:j<xs.length;have k:xs[j]? =some xs[j]:=List.getElem?_eq_getElem H;have z:vs[j]? =some (vs[j]'(by omega)):=List.getElem?_eq_getElem (by omega);have:=O j xs[j] (.v (vs[j]'(by omega))) k (by simp[z]);rw[k,z,zTS this];rw[List.getElem?_eq_none (by omega),List.getElem?_eq_none (by omega)]
theorem EqTy.of {G:Type} [DecidableEq G] {t:TypeId} {en:En G} {k:Array Field} {vals: G→List Value} {cs: G→G→List Bool} (hu:P.underlying t=some (.struct k)) (T:P.stoodInHeld t=false) (hg:P.eqGuardType P.depth t=false)
  (hv:∀a,en.dv a= .agg ((vals a).map DV.v)) (he:∀a b w,Eqs P (9998+1) (vals a).toArray (vals b).toArray w k.toList (cs a b)) (hc:∀a b,(cs a b).all id=decide (a=b)):EqTy P t en where
 eq:=fun a b va vb w I Z h2=>by
  rw[hv] at Z h2;rw[zMY Z,zMY h2];refine⟨⟨_,_,rfl,rfl⟩,?_⟩;show (Op.equalIn (9999+1) t _ _).run P w=_;rw[Op.equalIn];simp only[Sem.run_bind,run_underlying hu,Result.andThen_ok];have O:(program).run P w= .ok P w:=by rfl
  simp only[O,T,Result.andThen_ok,Bool.false_eq_true,if_false,Sem.run_pure];rw[←Array.forIn_toList,←hc a b];have z:=fun F h=>zWX (P:=P) (w:=w) (F:=F) k.toList (cs a b) h;simp only[Sem.run_bind];rw[z _ ⟨(he a b w).1,fun j f c hf H s=>?_⟩]
  ·simp only[Result.andThen_ok]
   cases (cs a b).all id<;>simp
  ·obtain⟨q1,q2,x,y,q3,q4,q5⟩:=(he a b w).2 j f c hf H
   simp only[q1,ne_eq,not_false_eq_true,if_true,Sem.run_bind,zH9 q2 q3,zH9 q2 q4,Result.andThen_ok];have Y:(Op.equalIn 9999 f.type x y).run P w= .ok c w:=q5;rw[Y];cases c<;>simp
 guard:=fun op x y xs ys w=>by
  have O:(program).run P w= .ok P w:=by rfl
  cases op<;>simp[eqGuard,O,hg]
variable {r:Option Nat} {E:Env} {S:AState} {d:Nat} {ty:TypeId} {pos:String} {af:Array Edge} {g:Option (Nat×Bool)}
theorem yGU {k:Type} [DecidableEq k] {en:En k} {x y:Operand} {a b: k} {tx tz:TypeId} (Z:d<E.n) (Y:EqTy P tx en) (hx:S.ev x= .d (en.dv a)) (hy:S.ev y= .d (en.dv b)):
  AOp P r E S ⟨some d,.binOp .eql tx x y tz,ty,pos,af,g⟩ d (.d (.v (.bool (decide (a=b))))):=
 ⟨rfl,Z,fun S' h=>kR rfl Z (by simp) fun A w I ρ C hs=>by
  have H:=hs.ev x;rw[(h.ev (by simp[Op.operands])).trans hx] at H;have O:=hs.ev y;rw[(h.ev (by simp[Op.operands])).trans hy] at O;obtain⟨⟨xs,ys,z,G⟩,T⟩:=Y.eq a b _ _ w I H O;rw[z,G] at T;have hb:binOp .eql tx (.agg xs) (.agg ys)=(do pure (.bool (←Op.equal tx (.agg xs) (.agg ys)))):=rfl;simp only[execOp,z,G,Sem.run_bind,Y.guard,Result.andThen_ok,hb,T,Sem.run_pure]⟩
theorem zYJ {k:Type} [DecidableEq k] {en:En k} {x y:Operand} {a b: k} {tx tz:TypeId} (Z:d<E.n) (Y:EqTy P tx en) (hx:S.ev x= .d (en.dv a)) (hy:S.ev y= .d (en.dv b)):
  AOp P r E S ⟨some d,.binOp .neq tx x y tz,ty,pos,af,g⟩ d (.d (.v (.bool (!decide (a=b))))):=
 ⟨rfl,Z,fun S' h=>kR rfl Z (by simp) fun A w I ρ C hs=>by
  have H:=hs.ev x;rw[(h.ev (by simp[Op.operands])).trans hx] at H;have O:=hs.ev y;rw[(h.ev (by simp[Op.operands])).trans hy] at O;obtain⟨⟨xs,ys,z,G⟩,T⟩:=Y.eq a b _ _ w I H O;rw[z,G] at T;have hb:binOp .neq tx (.agg xs) (.agg ys)=(do pure (.bool (!(←Op.equal tx (.agg xs) (.agg ys))))):=rfl;simp only[execOp,z,G,Sem.run_bind,Y.guard,Result.andThen_ok,hb,T,Sem.run_pure]⟩
theorem zO2 {t n:Nat} {x y:Operand} {id eb:Nat} {cells:List AV} {ds:List DV} (hT:AggTy P t n) (hx:S.ev x= .ptr id 0) (hb:S.blk id= .box eb cells) (hy:S.ev y= .d (.agg ds)) (hl:cells.length=n) (ag:ds.length=n) (hE:E.wrB=true):
  k4 P r E ⟨none,.store t x y,ty,pos,af,g⟩ S (S.setBlk id (.box eb (ds.map AV.d))):=
 zFO rfl (by simp) fun A w I ρ C hs=>by
  have h:=hs.ev x;rw[hx] at h;obtain⟨b,G,hv⟩:=h;have O:=hs.blks id;rw[hb] at O;obtain⟨H,arr,z,hB,hh,an,ah,hI⟩:=O;have ad:H=b:=by rw[z] at G;simpa[blockOf] using G
  subst ad;have Z:=hs.ev y;rw[hy] at Z;have k:Rep w I (A.eval y) (.agg ds):=Z;generalize he:A.eval y=vy at k;cases k with
  | agg xs aa T h1 hr=>
   have ax:arr.size=n:=by rw[←Array.length_toList,ah.1];exact hl
   have aj:xs.length=n:=by rw[T];exact ag
   have Y:=zS1 (P:=P) w hT (b:=H) (off:=0) (vs:=xs) hh (by omega) aj h1;have e1:arr.toList.take 0++xs++arr.toList.drop (0+n)=xs:=by
    rw[List.drop_eq_nil_of_le (by simp;omega)];simp
   rw[e1] at Y;refine⟨_,?_,I,ρ,C,hs.modify (zAC w H xs.toArray) (by rw[hb];simp) G (xB hI) ⟨H,xs.toArray,z,hB,setRow_heap w H arr _ eb _ hh,by simpa using h1,?_,hI⟩ hE⟩
   ·simp only[execOp,hv,he,Sem.run_bind,Y]
    rfl
   ·have ai:Reps w I xs ds:=⟨T,hr⟩
    exact yK8 (ρ:=ρ) (Reps.mono ai (xB hI) (fun _ _ h=>h))
end
end Go.AV
namespace Go.AV
open Go.RowKit Go.M
section
variable {P:Program} {r:Option Nat} {E:Env} {S:AState} {d:Nat} {ty:TypeId} {pos:String} {af:Array Edge} {g:Option (Nat×Bool)}
theorem yCB {a:Act} {w:World} {x y:DV} (z:d<E.n) (k:∀w I v,Rep w I v x→Rep w I v y) (h:Sat E (S.put d (.d x)) a w):Sat E (S.put d (.d y)) a w:=by
 obtain⟨I,ρ,C,h⟩:=h;refine⟨I,ρ,C,⟨fun u=>?_,h.blks,h.dist,by have:=h.frame;rw[zCW _ _ z] at this ⊢;exact this,h.sub,h.old,h.size,h.defers,h.cI,h.cB,h.nm⟩⟩
 have:=h.tmps u;rw[vX] at this ⊢;by_cases e:d=u;simp only[e,if_true] at this ⊢;exact k _ _ _ this;simp only[e,if_false] at this ⊢;exact this
theorem AOp.conv {o:Oper} {x y:DV} (h:AOp P r E S o d (.d x)) (H:∀w I v,Rep w I v x→Rep w I v y):AOp P r E S o d (.d y):=
 ⟨h.1,h.2.1,fun S' G a w K Q T O=>h.2.2 S' G a w K Q T fun z w' k=>O z w' (yCB h.2.1 H k)⟩
theorem z1E {as bs:List DV} (z:NilL as bs) {w:World} {I:Im} {v:Value} (h:Rep w I v (.agg as)):Rep w I v (.agg bs):=by
 cases h with
 | agg xs cells H k G=>
  have:=zO1 z (⟨H,G⟩:Reps w I xs as);exact .agg xs bs this.1 k this.2
theorem AOp.nils {o:Oper} {as bs:List DV} (h:AOp P r E S o d (.d (.agg as))) (k:NilL as bs):AOp P r E S o d (.d (.agg bs)):=h.conv fun _ _ _ z=>z1E k z
theorem z4C {x:Operand} {i:Nat} {cs:List Cap} {c:Cap} (z:d<E.n) (Y:S.ev x= .tupc cs) (hi:cs[i]? =some c):AOp P r E S ⟨some d,.extract x i,ty,pos,af,g⟩ d c.av:=
 ⟨rfl,z,fun S' H=>zW rfl z (by simp) fun A w I ρ C O=>by
  have h:=O.ev x;rw[(H.ev (by simp[Op.operands])).trans Y] at h;obtain⟨xs,T,G⟩:=h;have k:i<xs.length:=by rw[G.1];exact(List.getElem?_eq_some_iff.1 hi).1
  refine⟨xs[i],?_,Cap.holds (G.2 i _ c (List.getElem?_eq_getElem k) hi)⟩;simp only[execOp,T];simp[Instr.extract,List.getElem?_eq_getElem k]⟩
theorem zRE {x:Operand} {c:List Cap} (h:d<E.n) (k:S.ev x= .tupc c):AOp P r E S ⟨some d,.move x,ty,pos,af,g⟩ d (.tupc c):=zES h k
theorem zYK {x:Operand} (h:d<E.n):AOp P r E S ⟨some d,.assign x,ty,pos,af,g⟩ d .top:=
 ⟨rfl,h,fun S' k=>zW rfl h (by simp) fun A w I ρ C z=>⟨A.eval x,by simp[execOp],trivial⟩⟩
theorem zYL {id e size:Nat} {cells:List DV} (hb:S.blk id= .row e size false cells):zE3 E S (S.setBlk id (.win e size 0 cells)):=by
 rintro a w ⟨I,ρ,C,h⟩
 have hk:=h.blks id;rw[hb] at hk;obtain⟨hp,n,xs,hl,k,h1,hr,hI⟩:=hk;have ac:S.blk id≠ .none:=by rw[hb];simp
 have key:∀i,(S.setBlk id (.win e size 0 cells)).blk i≠ .none→S.blk i≠ .none:=by
  intro i hi;rw[yA] at hi;by_cases H:id=i;subst H;exact ac;simpa[H] using hi
 refine⟨I,ρ,C,⟨h.tmps,fun i=>?_,fun i i' b hn hi aa=>h.dist i i' b hn (key i hi) (key i' aa),h.frame,h.sub,h.old,h.size,h.defers,h.cI,fun i b hi=>h.cB i b (key i hi),fun i v z hi=>h.nm i v z (key i hi)⟩⟩;rw[yA];by_cases H:id=i;subst H;simp only[if_true];rcases k.2 with ⟨z,ab⟩ | ⟨O,Y,G,z,hB,hh,T,ao,Z,aq⟩
 subst ab;exact⟨none,0,0,xs,z,Nat.le_refl _,hp.1,hl,hr,h1,.inl ⟨rfl,rfl⟩⟩;refine⟨_,n,Y,xs,z,T,hp.1,hl,hr,h1,.inr ⟨O,0,G,rfl,hp.2 O (by rw[z];rfl),hh,?_,fun j x hj=>?_,fun j _ hj hi=>?_⟩⟩
 rw[Nat.zero_add,Z];exact Nat.mul_le_mul_right _ T;have:=k.cells (g:=O) (by rw[z];rfl) j x hj
 rw[w9,cell_of_row w O (0+j) G e (0,0) hh] at this;exact this;have:=(hI O j (by rw[z];rfl) hi).1;cases this;simp only[H,if_false];exact h.blks i
end
end Go.AV
namespace Go.AV
open Go.RowKit Go.M
def zQK (S:AState) (σ:List (Nat×Nat)) (T:List (Nat×Blk)):Bool:=σ.all fun p=>match look Blk.none T p.1,S.blk p.2 with
 | .none,.none=>true
 | .none,_=>false
 | _,_=>true
theorem zL7 {S:AState} {σ:List (Nat×Nat)} {T:List (Nat×Blk)} (h:zQK S σ T=true):zOW S σ T:=by
 intro k G z;have:=List.all_eq_true.1 h _ (zET G);simp only[z] at this;cases hb:S.blk (look 0 σ k) with
 | none=>rfl
 | _=>rw[hb] at this;simp at this
theorem zTT {σ:List (Nat×Nat)} (h:((σ.map Prod.fst).Nodup∧(σ.map Prod.snd).Nodup)):Ren σ:=⟨h.1,h.2⟩
section
variable {P:Program} {r:Option Nat} {E:Env} {S:AState} {d:Nat} {ty:TypeId} {pos:String} {af:Array Edge} {g:Option (Nat×Bool)}
theorem zBE {f:FuncId} {xs:List Operand} {ats:Array TypeId} {args h:List Cap} {T G:List (Nat×Blk)} {keep:List Nat} (σ:List (Nat×Nat)) (hc:GC P f args T keep h G) (hn:d<E.n) (ac:(σ.map Prod.fst).Nodup∧(σ.map Prod.snd).Nodup)
  (z:ArgsAs σ (xs.map S.ev) args) (Y:args.all (Cap.idsLt σ)=true) (ab:h.all (Cap.idsLt σ)=true) (hT:BlksAs S σ T) (O:zCG σ T=true) (H:zCG σ G=true)
  (Z:zQK S σ T=true) (aa:∀k,E.nm k=none) (hE:E.wrB=true) (hG:E.gdt=zBO P:=by rfl):
  k4 P r E ⟨some d,.call {callee:= .value (.func f),args:=xs.toArray,argTypes:=ats},ty,pos,af,g⟩ S
   (((S.killL (zJL σ keep G)).setL (renL σ G++zNC σ T G)).put d ((zNZ h).ren σ)):=
 z6F σ hn (zTT ac) z Y ab hT O H (zL7 Z) (fun k _=> .inl (aa _)) hc hE hG
end
theorem nl0:NilL [] []:=trivial
theorem nlE {a:DV} {as bs:List DV} (h:NilL as bs):NilL (a::as) (a::bs):=⟨.inl rfl,h⟩
theorem nlN {s:Nat} {as bs:List DV} (h:NilL as bs):NilL (.v (.slice none 0 0)::as) (.sl s []::bs):=⟨.inr ⟨rfl,_,rfl⟩,h⟩
end Go.AV
namespace Go.AV
open Go.RowKit Go.M
structure ArTy (P:Program) (t:TypeId) (n es:Nat) (e:TypeId) (zs:List Value):Prop where
 und:P.underlying t=some (.array n e)
 size:∀w,(sizeOf e).run P w= .ok es w
 pos:0<es
 zero:∀w,(zeroValue t).run P w= .ok (.agg zs.toArray) w
 one:∀x∈zs,x.oneCell'=true
def arP (n es:Nat):List (Nat×Nat):=(List.range n).map fun i=>(i*es,es)
theorem yGV {n es i:Nat} {q:Nat×Nat} (h:(arP n es)[i]? =some q):i<n∧q=(i*es,es):=by unfold arP at h;rw[List.getElem?_map] at h;by_cases hi:i<n;simp[hi] at h;exact⟨hi,h.symm⟩;simp[hi] at h
theorem ArTy.of {P:Program} {t e:TypeId} {n es:Nat} {zs:List Value} (G:P.underlying t=some (.array n e)) (z:(P.info? e).map (·.size)=some es) (k:0<es) (O:((P.info? t).bind (·.zero))=some (.agg zs.toArray)) (h:zs.all Value.oneCell'=true):ArTy P t n es e zs:=
 ⟨G,zYG z,k,zYH O,fun x H=>List.all_eq_true.1 h x H⟩
theorem zTU {f g:Nat→Option (Nat×Nat)}:∀(vs:List (Nat×Value)) (arr:Array Value),(∀p∈vs,f p.1=g p.1)→Instr.fill f arr vs=Instr.fill g arr vs
 | [],_,_=>rfl
 | (i,v)::vs,arr,h=>by
  simp only[Instr.fill];rw[h (i,v) (by simp)];cases g i with
  | none=>rfl
  | some q=>
   obtain⟨off,size⟩:=q;simp only;split;rfl;exact zTU vs _ (fun p k=>h p (by simp[k]))
theorem z1F {places:List (Nat×Nat)}:∀{ds:List (Nat×DV)} {cells k:List DV},zOZ places cells ds=some k→∀p∈ds,∃q,places[p.1]? =some q
 | [],_,_,_,p,hp=>by cases hp
 | (i,v)::ds,cells,k,h,p,hp=>by
  simp only[zOZ] at h;cases z:places[i]? with
  | none=>rw[z] at h;cases h
  | some q=>
   rw[z] at h;obtain⟨off,size⟩:=q;simp only at h;split at h;rcases List.mem_cons.1 hp with e | hp
   rw[e];exact⟨_,z⟩;exact z1F h p hp;cases h
theorem zTV {P:Program} {z:Type} {w:World} {F: z→Option Bool×PUnit→Sem (ForInStep (Option Bool×PUnit))}:∀(k:List z) (cs:List Bool),Pw (fun (f: z) c=> ∀s,(F f s).run P w= .ok (if c then .yield (none,()) else .done (some false,())) w) k cs→
  (forIn k ((none,()):Option Bool×PUnit) F).run P w= .ok (if cs.all id then (none,()) else (some false,())) w
 | [],cs,h=>by cases cs with
  | nil=>simp
  | cons c cs=>have:=h.1;simp at this
 | f::k,cs,h=>by cases cs with
  | nil=>have:=h.1;simp at this
  | cons c cs=>
   obtain⟨G,H⟩:=zHO h;have O:=zTV k cs H;rw[List.forIn_cons];simp only[Sem.run_bind,G,Result.andThen_ok];cases c with
   | false=>simp
   | true=>simpa using O
section
variable {P:Program} {r:Option Nat} {E:Env} {S:AState} {d:Nat} {ty:TypeId} {pos:String} {af:Array Edge} {g:Option (Nat×Bool)}
theorem yCC {t e:TypeId} {n es:Nat} {zs:List Value} {H:List (Nat×Operand)} {ds:List (Nat×DV)} {cells:List DV} (hn:d<E.n) (O:ArTy P t n es e zs) (T:dvP S H=some ds) (hf:zOZ (arP n es) (zs.map DV.v) ds=some cells):
  AOp P r E S ⟨some d,.build t H.toArray,ty,pos,af,g⟩ d (.d (.agg cells)):=
 ⟨rfl,hn,fun S' ha=>zW rfl hn (by simp) fun A w I ρ C hs=>by
  have z:dvP S' H=some ds:=(zMW ha (fun p Y=>by simp only[Op.operands];simp;exact⟨p.1,Y⟩)).trans T
  have k:=zMV hs z;obtain⟨h,h1,Z,h3⟩:=zTO (places:=arP n es) ds (H.map fun p=>(p.1,A.eval p.2)) zs.toArray (zs.map DV.v) cells (by simpa using zQB w I zs) (by simpa using O.one) k hf;refine⟨.agg h,?_,by have:=Rep.agg (w:=w) (I:=I) h.toList cells Z.1 h3 Z.2;rw[Array.toArray_toList] at this;exact this⟩
  have hz:=O.zero w;have hc:Instr.fill (fun i=>some (i*es,es)) zs.toArray (H.map fun p=>(p.1,A.eval p.2))=some h:=by
   rw[←h1];apply zTU;intro p Y;obtain⟨j,hj,e1⟩:=List.getElem_of_mem Y;have G:j<ds.length:=by rw[←k.1];exact hj
   have h4:=k.2 j _ _ (List.getElem?_eq_getElem hj) (List.getElem?_eq_getElem G);obtain⟨q,hq⟩:=z1F hf ds[j] (List.getElem_mem G);rw[e1] at h4;rw[h4.1,hq,(yGV hq).2]
  simp only[execOp,Instr.build,List.map_toArray,Sem.run_bind,hz,Result.andThen_ok,run_underlying O.und,O.size w,Value.cells,hc,Sem.run_pure]⟩
theorem zL8 {α:Type} {en:En α} {l:List α} {t e:TypeId} {n:Nat} {zs:List Value} {x Z:Operand} {kk:IntKind} {i:Int} {v: α} (hn:d<E.n) (hT:ArTy P t n 1 e zs) (ho:OneTy P e) (hc:∀v,en.cells v= [en.dv v]) (hx:S.ev x= .d (.agg (en.all l))) (hl:l.length=n) (hi:S.ev Z= .d (.v (.int kk i))) (hv:z7 l i=some v):
  AOp P r E S ⟨some d,.index t x Z,ty,pos,af,g⟩ d (.d (en.dv v)):=
 ⟨rfl,hn,fun S' ha=>zW rfl hn (by simp) fun A w I ρ C hs=>by
  have G:=hs.ev x;rw[(ha.ev (by simp[Op.operands])).trans hx] at G;have h2:=hs.ev Z;rw[(ha.ev (by simp[Op.operands])).trans hi] at h2;have H:=zTS h2;obtain⟨q0,q1,q2,q3⟩:=xP hv;have z:en.size=1:=by rw[←en.len v,hc];rfl
  generalize hX:A.eval x=vx at G;cases G with
  | agg xs cells Y aj hr=>
   have k:(en.all l).length=l.length:=by rw[jE,z,Nat.mul_one]
   have hg:(en.all l)[i.toNat]? =some (en.dv v):=by
    have:=zMU (e:=en) q3 0 (by omega);rw[z,Nat.mul_one,Nat.add_zero,hc] at this;simpa using this
   have T:i.toNat<xs.length:=by rw[Y,k];exact q2
   have h:xs[i.toNat]? =some xs[i.toNat]:=List.getElem?_eq_getElem T;refine⟨xs[i.toNat],?_,hr i.toNat _ _ h hg⟩;have O:0≤i∧i<(n:Int):=⟨q0,by omega⟩;simp only[execOp,hX,H,Instr.index,Sem.run_bind,asIntOf,Sem.run_pure,Result.andThen_ok,run_underlying hT.und,O,and_self,if_true,hT.size w,Nat.mul_one];rw[zH9 ho.agg (a:=xs[i.toNat]) (by simp[h])];rfl⟩
theorem yCD {H O:Type} {R: H→O→Prop} {xs:List H} {ys:List O} (h:Pw R xs ys) (a n:Nat):Pw R ((xs.drop a).take n) ((ys.drop a).take n):=by refine⟨by simp[h.1],fun j x y k z=>?_⟩;rw[List.getElem?_take] at k z;by_cases G:j<n;simp only[G,if_true,List.getElem?_drop] at k z;exact h.2 (a+j) x y k z;simp[G] at k
theorem z87 {α:Type} {en:En α} {l:List α} {t e:TypeId} {n:Nat} {zs:List Value} {x Z:Operand} {kk:IntKind} {i:Int} {v: α} (hn:d<E.n) (hT:ArTy P t n en.size e zs) (ho:AggTy P e en.size) (hc:∀v,en.dv v= .agg (en.cells v)) (hx:S.ev x= .d (.agg (en.all l))) (hl:l.length=n) (hi:S.ev Z= .d (.v (.int kk i))) (hv:z7 l i=some v):
  AOp P r E S ⟨some d,.index t x Z,ty,pos,af,g⟩ d (.d (en.dv v)):=
 ⟨rfl,hn,fun S' ha=>zW rfl hn (by simp) fun A w I ρ C hs=>by
  have z:=hs.ev x;rw[(ha.ev (by simp[Op.operands])).trans hx] at z;have h2:=hs.ev Z;rw[(ha.ev (by simp[Op.operands])).trans hi] at h2;have H:=zTS h2;obtain⟨q0,q1,q2,q3⟩:=xP hv;generalize hX:A.eval x=vx at z;cases z with
  | agg xs cells Y G hr=>
   have k:((en.all l).drop (i.toNat*en.size)).take en.size=en.cells v:=by
    have:=zYE (e:=en) q3 0 en.size (by omega);rw[Nat.add_zero,List.drop_zero,←en.len v,List.take_length] at this;rw[←en.len v];exact this
   have h:=yCD (R:=Rep w I) ⟨Y,hr⟩ (i.toNat*en.size) en.size;rw[k] at h;have O:(xs.toArray.extract (i.toNat*en.size) (i.toNat*en.size+en.size))=((xs.drop (i.toNat*en.size)).take en.size).toArray:=by
    rw[List.extract_toArray,List.extract_eq_take_drop];congr 2;omega
   refine⟨.agg ((xs.drop (i.toNat*en.size)).take en.size).toArray,?_,?_⟩
   ·have T:0≤i∧i<(n:Int):=⟨q0,by omega⟩
    simp only[execOp,hX,H,Instr.index,Sem.run_bind,asIntOf,Sem.run_pure,Result.andThen_ok,run_underlying hT.und,T,and_self,if_true,hT.size w,part,ho.agg w,O]
   ·rw[hc]
    exact .agg _ _ h.1 (fun y hy=>G y (List.mem_of_mem_drop (List.mem_of_mem_take hy))) h.2⟩
theorem yGW {t n h:Nat} {zs:List Value} (G:d<E.n) (O:AggTy P t n) (T:E.gdt h=some zs) (Z:zs.length=n) (H:zs.all Value.oneCell'=true):
  AOp P r E S ⟨some d,.load t (.global h),ty,pos,af,g⟩ d (.d (.agg (zs.map DV.v))):=
 ⟨rfl,G,fun S' ha=>zW rfl G (by simp) fun A w I ρ C hs=>by
  have z:=hs.gl h zs T;refine⟨.agg zs.toArray,?_,.agg _ _ (by simp) (fun x hx=>List.all_eq_true.1 H x hx) (zQB w I zs).2⟩;have k:A.eval (.global h)= .pointer (some ⟨h,0,none⟩):=rfl;simp only[execOp,k,Sem.run_bind];rw[zDF w O h 0 zs Z (fun j v Y=>by rw[Nat.zero_add];exact(z j v Y).1)]
  rfl⟩
theorem zKP {t e:TypeId} {n es:Nat} {zs:List Value} (h:ArTy P t n es e zs) {k:Nat} (O:k<n) (H:IntKind) (w:World) (b o:Nat):
  (Instr.indexAt t (.pointer (some ⟨b,o,none⟩)) (.int H (k:Int))).run P w= .ok (.pointer (some ⟨b,o+k*es,none⟩)) w:=by
 have z:(⟨b,o,none⟩:Addr).add (k*es)=⟨b,o+k*es,none⟩:=by
  unfold Addr.add;split
  ·rename_i e;rw[e];rfl
  ·rfl
 have G:0≤(k:Int)∧(k:Int)<(n:Int):=⟨by omega,by omega⟩;simp only[Instr.indexAt,Sem.run_bind,asIntOf,Sem.run_pure,Result.andThen_ok,run_underlying h.und,Instr.sureAddr,G,and_self,if_true,h.size w,Int.toNat_natCast,z]
theorem zRU {t e:TypeId} {n es id o:Nat} {zs:List Value} {x H:Operand} {kk:IntKind} {k:Nat} (Y:d<E.n) (hT:ArTy P t n es e zs) (hx:S.ev x= .ptr id o) (hi:S.ev H= .d (.v (.int kk (k:Int)))) (hk:k<n):
  AOp P r E S ⟨some d,.indexAddr t x H,ty,pos,af,g⟩ d (.ptr id (o+k*es)):=
 ⟨rfl,Y,fun S' T=>zW rfl Y (by simp) fun A w I ρ C Z=>by
  have h:=Z.ev x;rw[(T.ev (by simp[Op.operands])).trans hx] at h;have O:=Z.ev H;rw[(T.ev (by simp[Op.operands])).trans hi] at O;have z:=zTS O;obtain⟨b,G,hv⟩:=h;refine⟨.pointer (some ⟨b,o+k*es,none⟩),?_,b,G,rfl⟩;simp only[execOp,hv,z,Sem.run_bind,zKP hT hk kk w b o];rfl⟩
theorem z88 {t e:TypeId} {n es:Nat} {zs:List Value} {cells:List DV} {x H:Operand} {kk:IntKind} {k:Nat} (Z:d<E.n) (hT:ArTy P t n es e zs) (hx:S.ev x= .d (.pt cells)) (hi:S.ev H= .d (.v (.int kk (k:Int)))) (hk:k<n):
  AOp P r E S ⟨some d,.indexAddr t x H,ty,pos,af,g⟩ d (.ip cells (0+k*es)):=
 ⟨rfl,Z,fun S' Y=>zW rfl Z (by simp) fun A w I ρ C hs=>by
  have h:=hs.ev x;rw[(Y.ev (by simp[Op.operands])).trans hx] at h;have T:=hs.ev H;rw[(Y.ev (by simp[Op.operands])).trans hi] at T;have z:=zTS T;obtain⟨b,O,xs,hv,hr,h1,G⟩:=yB8 (ρ:=ρ) h;refine⟨.pointer (some ⟨b,O+(0+k*es),none⟩),?_,b,O,xs,rfl,hr,h1,G⟩;simp only[execOp,hv,z,Sem.run_bind,zKP hT hk kk w b (O+0),Nat.add_assoc];rfl⟩
end
theorem EqTy.ofA {P:Program} {h:Type} [DecidableEq h] {t e:TypeId} {n:Nat} {zs:List Value} {en:En h} {vals: h→List Value} {cs: h→h→List Bool} (T:ArTy P t n 1 e zs) (Z:OneTy P e) (hg:P.eqGuardType P.depth t=false)
  (hv:∀a,en.dv a= .agg ((vals a).map DV.v)) (Y:∀a b w,Pw (fun (i:Nat) c=> ∃x y,(vals a)[i]? =some x∧(vals b)[i]? =some y∧(Op.equalIn (9998+1) e x y).run P w= .ok c w) (List.range n) (cs a b)) (hc:∀a b,(cs a b).all id=decide (a=b)):EqTy P t en where
 eq:=fun a b va vb w I H O=>by
  rw[hv] at H O;rw[zMY H,zMY O];refine⟨⟨_,_,rfl,rfl⟩,?_⟩;show (Op.equalIn (9999+1) t _ _).run P w=_;rw[Op.equalIn];simp only[Sem.run_bind,run_underlying T.und,Result.andThen_ok,T.size w];rw[Std.Legacy.Range.forIn_eq_forIn_range'];have ag:List.range' 0 ((n-0+1-1)/1) 1=List.range n:=by simp[List.range_eq_range']
  have z:(Std.Legacy.Range.size [0:n])=n:=by simp[Std.Legacy.Range.size]
  simp only[z];rw[←List.range_eq_range',←hc a b];rw[zTV (P:=P) (w:=w) (List.range n) (cs a b) ⟨(Y a b w).1,fun j f c hf k s=>?_⟩]
  ·simp only[Result.andThen_ok]
   cases (cs a b).all id<;>simp
  ·obtain⟨x,y,q3,q4,q5⟩:=(Y a b w).2 j f c hf k
   simp only[Sem.run_bind,Nat.mul_one,zH9 Z.agg (xs:=(vals a).toArray) (a:=x) (by simpa using q3),zH9 Z.agg (xs:=(vals b).toArray) (a:=y) (by simpa using q4),Result.andThen_ok];have G:(Op.equalIn 9999 e x y).run P w= .ok c w:=q5;rw[G];cases c<;>simp
 guard:=fun op x y xs ys w=>by
  have hp:(program).run P w= .ok P w:=by rfl
  cases op<;>simp[eqGuard,hp,hg]
end Go.AV
namespace Go.AV
open Go.RowKit Go.M
theorem zRF {P:Program} {G:Type} [DecidableEq G] {O:TypeId} {kv: G→Value} {w:World} (H:∀a b,(Op.equal O (kv a) (kv b)).run P w= .ok (decide (a=b)) w) (a: G):∀(es:List MapEntry) (z:List G) (i:Nat),Pw (fun (x:MapEntry) k=>x.key=kv k) es z→
  (Instr.findAsking O (kv a) es i).run P w= .ok (findAt a z es i) w
 | [],z,i,h=>by
  cases z with
  | nil=>simp[Instr.findAsking,findAt]
  | cons k z=>have:=h.1;simp at this
 | x::es,z,i,h=>by
  cases z with
  | nil=>have:=h.1;simp at this
  | cons k z=>
   obtain⟨T,Y⟩:=zHO h;have Z:=zRF H a es z (i+1) Y;simp only[Instr.findAsking,Sem.run_bind,T,H,Result.andThen_ok,findAt];by_cases e:a=k
   ·simp[e]
   ·simp[e,Z]
theorem z1G {td:TypeDesc} {k:Value} {es:List MapEntry} (h:∀x∈es,Instr.sameNow td k x.key=none) (i:Nat):Instr.findNow td k es i=if es= [] then some none else none:=by
 cases es with
 | nil=>rfl
 | cons x es=>simp[Instr.findNow,h x (by simp)]
theorem yCE {P:Program} {H:Type} [DecidableEq H] {z:TypeId} {en:En H} {kv: H→Value} {vals: H→List Value} {td:TypeDesc} (hu:P.underlying z=some td) (hT:EqTy P z en) (hv:∀a,en.dv a= .agg ((vals a).map DV.v)) (G:∀a,kv a= .agg (vals a).toArray) (Y:∀a,(vals a).all Value.oneCell'=true)
  (hs:∀a,(vals a).all (fun x=>Instr.sameBits 9999 x x)=true) (hc:∀a b w,(Instr.checkKey b 10000 z (kv a)).run P w= .ok () w):KeyTy P z kv where
 same:=fun a=>by
  rw[G];have:∀(l:List Value),l.all (fun x=>Instr.sameBits 9999 x x)=true→(l.zip l).all (fun (x,y)=>Instr.sameBits 9999 x y)=true:=by
   intro l
   induction l with
   | nil=>intro _;rfl
   | cons x l ih=>intro h;simp only[List.all_cons,Bool.and_eq_true] at h;simp only[List.zip_cons_cons,List.all_cons,Bool.and_eq_true];exact⟨h.1,ih h.2⟩
  show Instr.sameBits (9999+1) _ _=true;rw[Instr.sameBits];simp[this _ (hs a)]
 check:=hc
 find:=fun a T es w h=>by
  have O:∀a b,(Op.equal z (kv a) (kv b)).run P w= .ok (decide (a=b)) w:=by
   intro a b;have ra:Rep w (fun _ _=>False) (kv a) (en.dv a):=by rw[G,hv];exact z1B _ (Y a)
   have rb:Rep w (fun _ _=>False) (kv b) (en.dv b):=by rw[G,hv];exact z1B _ (Y b)
   exact(hT.eq a b _ _ w _ ra rb).2
  have hn:=z1G (td:=td) (k:=kv a) (es:=es) (fun x _=>by rw[G];cases td<;>rfl) 0
  simp only[Instr.findKey,Sem.run_bind,run_underlying hu,Result.andThen_ok,hn];by_cases Z:es= []
  ·subst Z
   cases T with
   | nil=>simp[findAt]
   | cons k T=>have:=h.1;simp at this
  ·simp only[Z,if_false]
   exact zRF O a es T 0 h
end Go.AV
namespace Go.AV
open Go.RowKit Go.M
def DV.pure:DV→Bool
 | .v _=>true
 | .agg cs=>cs.all DV.isV
 | _=>false
theorem yCF {w w':World} {I G:Im} {v:Value} {d:DV} (h:Rep w I v d) (k:d.pure=true):Rep w' G v d:=by
 cases h with
 | v=>exact .v v
 | agg xs cells z H O=>exact .agg xs cells z H (yBY (w:=w) (I:=I) ⟨z,O⟩ k).2
 | _=>simp[DV.pure] at k
def pc (y:DV):Cap:=if y.pure then .d y else .top
theorem z1H {w w':World} {I z:Im} {ρ:Nat→Value} {v:Value} {y:DV} (h:Rep w I v y):HoldsC w' z ρ v (pc y):=by unfold pc;by_cases k:y.pure=true;simp only[k,if_true];exact yCF h k;simp only[k,if_false];trivial
def yJZ:List DV→AV
 | [y]=>(pc y).av
 | ys=> .tupc (ys.map pc)
theorem z1I {w w':World} {I T:Im} {ρ:Nat→Value} {v:Value}:∀{O:List DV},z0L w I v O→Holds w' T ρ v (yJZ O)
 | [],h=>by
  obtain⟨xs,G,z⟩:=h;exact⟨xs,G,by have:=z.1;simp at this;subst this;exact Pw.nil⟩
 | [y],h=>Cap.holds (z1H h)
 | x::y::zs,h=>by
  obtain⟨xs,G,z⟩:=h;refine⟨xs,G,by simpa using z.1,fun j u c Y k=>?_⟩;rw[List.getElem?_map] at k;cases H:(x::y::zs)[j]? with
  | none=>rw[H] at k;cases k
  | some q=>rw[H] at k;cases k;exact z1H (z.2 j u q Y H)
section
variable {P:Program} {r:Option Nat} {E:Env} {S:AState} {d:Nat} {ty:TypeId} {pos:String} {af:Array Edge} {g:Option (Nat×Bool)}
theorem zI5 {w:World} {I:Im} {ρ:Nat→Value} {M:Nat→Prop} {id e size k n:Nat} {cells:List DV} (h:BlkOk w I ρ M id (.win e size k cells)) (Y:cells.length=n*size):
  0<size∧∃A c xs,ρ id= .slice A n c∧n≤c∧Reps w I xs cells∧(∀x∈xs,x.oneCell'=true)∧(0<n→∃b off arr,A=some ⟨b,off,none⟩∧M b∧w.heap[b]? =some (.cells arr e (0,0))∧off+n*size≤arr.size∧(∀(j:Nat) x,xs[j]? =some x→arr[off+j]? =some x)∧(∀j,off≤j→j<off+n*size→I b j→j<off+k*size)):=by
 obtain⟨A,n',c,xs,hv,G,H,z,Z,O,T⟩:=h;obtain rfl:=zFN z Y H;refine⟨H,A,c,xs,hv,G,Z,O,fun h0=>?_⟩;rcases T with ⟨_,h⟩ | h
 ·omega
 ·exact h
section win
variable {t e size bytes k n:Nat} {z:Value} {x:Operand} {id:Nat} {cells:List DV}
theorem z89 (T:d<E.n) (Z:SlTy P t e size bytes z) (hx:S.ev x= .row id) (hb:S.blk id= .win e size k cells) (hl:cells.length=n*size):
  AOp P r E S ⟨some d,.call {callee:= .builtin .len,args:= #[x],argTypes:= #[t]},ty,pos,af,g⟩ d (.d (.v (.int .i64 n))):=
 ⟨rfl,T,fun S' H=>kR rfl T (by simp) fun A w I ρ C Y=>by
  have h:=Y.ev x;rw[(H.ev (by simp[Op.operands,Call.operands])).trans hx] at h;have hv:A.eval x= ρ id:=h;have O:=Y.blks id;rw[(H.blk id).trans hb] at O;obtain⟨_,A',c,xs,G,_⟩:=zI5 O hl;exact zSF w Z.und _ _ _ x A (hv.trans G) _ rfl⟩
theorem zRG {lo hi:Option Operand} {l h:Nat} (hn:d<E.n) (hT:SlTy P t e size bytes z) (hx:S.ev x= .row id) (Z:S.blk id= .win e size k cells) (hl:cells.length=n*size) (hb:Bd S n lo hi l h):
    AOp P r E S ⟨some d,.slice t x lo hi none,ty,pos,af,g⟩ d (.ws id (l*size) (h-l) false):=
  ⟨rfl,hn,fun S' Y=>zW rfl hn (by simp) fun A w I ρ C hs=>by
    have h1:=hs.ev x;rw[(Y.ev (x:=x) (by simp[Op.operands])).trans hx] at h1;have hv:A.eval x= ρ id:=h1;have hk:=hs.blks id;rw[(Y.blk id).trans Z] at hk;obtain⟨_,T,c,xs,O,H,_,_,G⟩:=zI5 hk hl;obtain⟨ab,aa⟩:=(hb.agree Y).vals hs;have ai:=hb.len;have al:=hb.le;refine⟨_,?_,(if c=l then T else T.map (·.add (l*size))),c-l,rfl,by omega,(by simp),fun h0=>?_⟩
    · simp only[execOp,hv,O,Sem.run_bind,Option.map_none,zMT w hT.und (hT.size w) T n c l h _ _ ab aa hb.le hb.len H]
      rfl
    · obtain⟨b,off,arr,rfl,_⟩:=G (by omega)
      refine⟨b,off,n,c,O,?_⟩;rw[if_neg (by omega)];simp[w9]⟩
theorem z4D (w:World) (Z:P.underlying t=some (.slice e)) (Y:(sizeOf e).run P w= .ok size w) (A:Option Addr) (n c l h m:Nat) (lo:Option Value) (G H:IntKind) (T:lo=none∧l=0∨∃k,lo=some (.int k l))
    (O:l≤h) (hm:h≤m) (hc:m≤c):(Instr.sliceAt t (.slice A n c) lo (some (.int G h)) (some (.int H m))).run P w= .ok (.slice (if m=l then A else A.map (·.add (l*size))) (h-l) (m-l)) w:=by
  have hb:(Instr.sliceBounds true n c lo (some (.int G h)) (some (.int H m))).run P w= .ok (l,h,m) w:=by
    rcases T with ⟨rfl,rfl⟩ | ⟨k,rfl⟩
    · simp[Instr.sliceBounds,xC (P:=P) w H m c _ (by omega),xC (P:=P) w G h m _ (by omega)]
    · simp[Instr.sliceBounds,xC (P:=P) w H m c _ (by omega),xC (P:=P) w G h m _ (by omega),xC (P:=P) w k l h _ O]
  simp[Instr.sliceAt,Instr.slice,run_underlying Z,hb,Y]
end win
end
end Go.AV
namespace Go.AV
open Go.RowKit Go.M
def mpD {h k:Type} (kv: h→Value) (ev:En k) (m:List (h×k)):DV:= .mp (m.map fun p=>kv p.1) (m.map fun p=>ev.dv p.2)
theorem yLK {w:World} {I:Im} {v:Value} {Z ν:Type} {kv: Z→Value} {ev:En ν} {m:List (Z×ν)} (h:Rep w I v (mpD kv ev m)):
  ∃b z k,v= .map (some b)∧w.heap[b]? =some (.map z k)∧Pw (fun (x:MapEntry) (y:Value×DV)=>x.key=y.1∧Rep w I x.val y.2) z.toList (vV kv ev m):=by
 unfold mpD at h;generalize Y:(m.map fun p=>kv p.1)=ks at h;generalize O:(m.map fun p=>ev.dv p.2)=vs at h;cases h with
 | mp b k z vs hh hI hx hr=>
  refine⟨b,z,k,rfl,hh,?_,fun j x y T G=>?_⟩
  ·have:=congrArg List.length Y;simp at this;simp[vV,this]
  ·simp only[vV,List.getElem?_map] at G
   cases H:m[j]? with
   | none=>rw[H] at G;cases G
   | some p=>
    rw[H] at G;cases G;refine⟨?_,hr j x _ T (by rw[←O];simp[H])⟩
    have:=congrArg (fun l=>l[j]?) Y;simp only[List.getElem?_map,H,T,Option.map_some,Option.some.injEq] at this;exact this.symm
theorem yN0 {w:World} {I:Im} {b k:Nat} {h:Array MapEntry} {Y Z:Type} {kv: Y→Value} {ev:En Z} {m:List (Y×Z)} (hh:w.heap[b]? =some (.map h k)) (hI:I b 0)
    (H:Pw (fun (x:MapEntry) (y:Value×DV)=>x.key=y.1∧Rep w I x.val y.2) h.toList (vV kv ev m)):Rep w I (.map (some b)) (mpD kv ev m):=by
  have hk:h.toList.map (·.key)=m.map fun p=>kv p.1:=by
    apply List.ext_getElem?;intro j;simp only[List.getElem?_map];cases O:h.toList[j]? with
    | none=>
      have T:h.toList.length≤j:=List.getElem?_eq_none_iff.1 O;have h2:m.length≤j:=by have:=H.1;simp only[vV,List.length_map] at this;omega
      simp[List.getElem?_eq_none_iff.2 h2]
    | some x=>
      have T:j<m.length:=by have:=(List.getElem?_eq_some_iff.1 O).1;have h3:=H.1;simp only[vV,List.length_map] at h3;omega
      have z:m[j]? =some m[j]:=List.getElem?_eq_getElem T;have:=(H.2 j x (kv m[j].1,ev.dv m[j].2) O (by simp[vV,z])).1;simp[z,this]
  unfold mpD;rw[←hk];refine .mp b k h _ hh hI (by have:=H.1;simpa[vV] using this) fun j x dd hj G=>?_
  rw[List.getElem?_map] at G;cases z:m[j]? with
  | none=>rw[z] at G;cases G
  | some p=>rw[z] at G;cases G;exact(H.2 j x (kv p.1,ev.dv p.2) hj (by simp[vV,z])).2
theorem yGX {vals:List Value} {u:DV} (h:u= .agg (vals.map DV.v)):∀(w:World) (I:Im) v,Rep w I v u→v= .agg vals.toArray:=by
 subst h;intro w I v h;cases h with
 | agg xs cells H z O=>
  congr 2;apply List.ext_getElem?;intro j;cases k:xs[j]? with
  | none=>
   have z:xs.length≤j:=List.getElem?_eq_none_iff.1 k;rw[List.length_map] at H;exact(List.getElem?_eq_none_iff.2 (by omega)).symm
  | some x=>
   have z:j<vals.length:=by have:=(List.getElem?_eq_some_iff.1 k).1;rw[List.length_map] at H;omega
   have G:vals[j]? =some vals[j]:=List.getElem?_eq_getElem z;rw[G,zTS (O j x (.v vals[j]) k (by simp[G]))]
section
variable {P:Program} {r:Option Nat} {E:Env} {S:AState} {d:Nat} {ty:TypeId} {pos:String} {af:Array Edge} {g:Option (Nat×Bool)}
theorem zQL {x:Operand} {id off:Nat} (k:d<E.n) (T:S.ev x= .ptr id off):AOp P r E S ⟨some d,.nilCheck x,ty,pos,af,g⟩ d (.ptr id off):=
 ⟨rfl,k,fun S' H=>zW rfl k (by simp) fun A w I ρ C O=>by
  have h:=O.ev x;rw[(H.ev (by simp[Op.operands])).trans T] at h;obtain⟨b,z,G⟩:=h;exact⟨_,by simp[execOp,G],b,z,rfl⟩⟩
theorem zIA {x:Operand} {cells:List DV} (G:d<E.n) (k:S.ev x= .d (.pt cells)):AOp P r E S ⟨some d,.nilCheck x,ty,pos,af,g⟩ d (.d (.pt cells)):=
 ⟨rfl,G,fun S' O=>zW rfl G (by simp) fun A w I ρ C Z=>by
  have h:=Z.ev x;rw[(O.ev (by simp[Op.operands])).trans k] at h;have z:Rep w I (A.eval x) (.pt cells):=h;generalize hv:A.eval x=v at z;cases z with
  | pt b off xs cells k T H Y=>exact⟨_,by simp[execOp,hv],.pt b off xs cells k T H Y⟩⟩
theorem zWY {f:Nat→Option (Nat×Nat)}:∀(vs:List (Nat×Value)) (arr k:Array Value) (i:Nat) (v:Value) (off:Nat),Instr.fill f arr vs=some k→f i=some (off,1)→v.oneCell'=true→off<k.size→Instr.fill f arr (vs++ [(i,v)])=some (k.setIfInBounds off v)
 | [],arr,k,i,v,off,h,hi,G,z=>by
  simp only[Instr.fill,Option.some.injEq] at h;subst h;simp only[List.nil_append,Instr.fill,hi,zJU G];have:¬(off+1 > arr.size):=by omega
  simp[this]
 | (j,u)::vs,arr,k,i,v,off,h,hi,G,z=>by
  simp only[Instr.fill,List.cons_append] at h ⊢;cases H:f j with
  | none=>rw[H] at h;cases h
  | some q=>
   obtain⟨o,s⟩:=q;rw[H] at h;simp only at h ⊢;split at h;cases h;rename_i O;rw[if_neg O];exact zWY vs _ _ i v off h hi G z
theorem yCG {t:TypeId} {places:List (Nat×Nat)} {zs:List Value} (Y:List (Nat×Operand)) (i:Nat) (x:Operand) {ds:List (Nat×DV)} {cells:List DV} {id off:Nat} (hn:d<E.n) (hT:StTy P t places zs) (ad:dvP S Y=some ds) (hf:zOZ places (zs.map DV.v) ds=some cells)
  (hx:S.ev x= .row id) (hr:zV5 S (.row id)=true) (hi:places[i]? =some (off,1)) (ah:Nat.ble (off+1) cells.length=true):
  AOp P r E S ⟨some d,.build t (Y++ [(i,x)]).toArray,ty,pos,af,g⟩ d (.aggc ((cells.map Cap.d).set off (.row id))):=
 ⟨rfl,hn,fun S' ha=>zW rfl hn (by simp) fun A w I ρ C hs=>by
  obtain⟨Z,hu,hp⟩:=hT.und;have T:off<cells.length:=Nat.le_of_ble_eq_true ah;have O:dvP S' Y=some ds:=(zMW ha (fun p hp=>by simp only[Op.operands];simp;exact .inl ⟨p.1,hp⟩)).trans ad
  obtain⟨k,h1,h2,h3⟩:=zTO (places:=places) ds (Y.map fun p=>(p.1,A.eval p.2)) zs.toArray (zs.map DV.v) cells (by simpa using zQB w I zs) (by simpa using hT.one) (zMV hs O) hf;have hv:=hs.ev x;rw[(ha.ev (x:=x) (by simp[Op.operands])).trans hx] at hv;have z:(A.eval x).oneCell'=true:=zS2 hs.blks hv rfl (fun i' e=>by
   cases e;have:=zS3 hr id rfl
   rwa [ha.blk])
  have al:off<k.size:=by rw[←Array.length_toList,h2.1];exact T
  have ag:=zWY (f:=fun i=>places[i]?) (Y.map fun p=>(p.1,A.eval p.2)) zs.toArray k i (A.eval x) off h1 hi z al;refine⟨.agg (k.toList.set off (A.eval x)).toArray,?_,_,rfl,?_,?_⟩
  ·have hz:=hT.zero w
   simp only[execOp,Instr.build,List.map_toArray,Sem.run_bind,hz,Result.andThen_ok,run_underlying hu,hp w,Value.cells,List.getElem?_toArray,List.map_append,List.map_cons,List.map_nil,ag,Sem.run_pure];congr 2;congr 1;rw[←Array.toList_inj];simp
  ·have aj:Pw (HoldsC w I ρ) k.toList (cells.map Cap.d):=by
    refine⟨by rw[h2.1,List.length_map],fun j u c hu H=>?_⟩;rw[List.getElem?_map] at H;cases G:cells[j]? with
    | none=>rw[G] at H;cases H
    | some q=>rw[G] at H;cases H;exact h2.2 j u q hu G
   exact aj.set (y:=Cap.row id) hv off
  ·intro y hy
   rcases List.mem_or_eq_of_mem_set hy with h | h
   ·exact h3 y h
   ·rw[h];exact z⟩
theorem z4E {k:TypeId} {x:Operand} {cs:List Cap} (hn:d<E.n) (hx:S.ev x= .aggc cs) (H:E.nm d=none):
  k4 P r E ⟨some d,.box k x,ty,pos,af,g⟩ S (((S.kill d).setBlk d (.box k ((cs.map Cap.av).map (zEP d)))).put d (.ptr d 0)):=
 wM (by simp) fun A w I ρ C Y=>by
  have h:=Y.ev x;rw[hx] at h;obtain⟨xs,hv,T,Z⟩:=h;have O:Pw (Holds w I ρ) xs (cs.map Cap.av):=by
   refine⟨by rw[T.1,List.length_map],fun j u c hu G=>?_⟩;rw[List.getElem?_map] at G;cases z:cs[j]? with
   | none=>rw[z] at G;cases G
   | some q=>rw[z] at G;cases G;exact Cap.holds (T.2 j u q hu z)
  have hb:=Y.newBox (id:=d) (e:=k) (arr:=xs.toArray) (cells:=cs.map Cap.av) (by simpa using O) (by simpa using Z) H;refine⟨.pointer (some ⟨w.heap.size,0,none⟩),w.alloc (.cells xs.toArray k),?_,I,_,C,hb.put hn (show Holds _ _ _ (.pointer (some ⟨w.heap.size,0,none⟩)) (AV.ptr d 0) from ⟨w.heap.size,by simp[upd,blockOf],rfl⟩)⟩;simp only[execOp,hv,Instr.box,newVar,Value.cells];simp[newRow]
section
variable {t:TypeId} {κ ν:Type} [DecidableEq κ] {kv: κ→Value} {ev:En ν} {mp:List (κ×ν)} {k: κ} {kt vt:TypeId} {zv:Value} {zero: ν} {km kk:Operand} {id:Nat} {uk:DV}
theorem z9A (hn:d<E.n) (hT:MapTy P t kt vt zv) (hK:KeyTy P kt kv) (hm:S.ev km= .row id) (hb:S.blk id= .map (vV kv ev mp)) (hk:S.ev kk= .d uk) (hu:∀(w:World) (I:Im) v,Rep w I v uk→v=kv k) (hz:∀w I,Rep w I zv (ev.dv zero)):
  AOp P r E S ⟨some d,.lookup t km kk false,ty,pos,af,g⟩ d (.d (ev.dv (zAN mp k zero))):=
 ⟨rfl,hn,fun S' H=>zW rfl hn (by simp) fun A w I ρ C T=>by
  have h:=T.blks id;rw[(H.blk id).trans hb] at h;obtain⟨b,ab,G,aa,_,hh,hp,_⟩:=h;have hv:=T.ev km;rw[(H.ev (by simp[Op.operands])).trans hm] at hv;have Y:A.eval km= .map (some b):=Eq.trans hv aa;have z:=T.ev kk;rw[(H.ev (x:=kk) (by simp[Op.operands])).trans hk] at z;have O:=hu _ _ _ z;have Z:=hz w I;obtain⟨v,h1,h2⟩:=zKN (w:=w) (I:=I) hT hK hh hp Z false;refine⟨v,?_,h2⟩;simp only[execOp,Y,O,Sem.run_bind,h1];rfl⟩
theorem z4F (Z:d<E.n) (hT:MapTy P t kt vt zv) (hK:KeyTy P kt kv) (hm:S.ev km= .d (mpD kv ev mp)) (hk:S.ev kk= .d uk) (hu:∀(w:World) (I:Im) v,Rep w I v uk→v=kv k) (hz:∀w I,Rep w I zv (ev.dv zero)):
  AOp P r E S ⟨some d,.lookup t km kk true,ty,pos,af,g⟩ d (.tup [ev.dv (zAN mp k zero),db (zCO mp k)]):=
 ⟨rfl,Z,fun S' Y=>zW rfl Z (by simp) fun A w I ρ C hs=>by
  have hv:=hs.ev km;rw[(Y.ev (by simp[Op.operands])).trans hm] at hv;obtain⟨b,T,z,H,hh,hp⟩:=yLK hv;have h:=hs.ev kk;rw[(Y.ev (x:=kk) (by simp[Op.operands])).trans hk] at h;have G:=hu _ _ _ h;have O:=hz w I;obtain⟨v,h1,h2⟩:=zKN (w:=w) (I:=I) hT hK hh hp O true;refine⟨.tuple #[v,.bool (zCO mp k)],?_,[v,.bool (zCO mp k)],rfl,Pw.cons h2 (Pw.cons (.v _) Pw.nil)⟩;simp only[execOp,H,G,Sem.run_bind,h1];rfl⟩
theorem zO3 {x:Operand} {v: ν} {u:DV} (hT:MapTy P t kt vt zv) (hK:KeyTy P kt kv) (hm:S.ev km= .row id) (hb:S.blk id= .map (vV kv ev mp)) (hk:S.ev kk= .d uk) (ao:∀(w:World) (I:Im) v,Rep w I v uk→v=kv k) (hx:S.ev x= .d u) (hu:u=ev.dv v) (hE:E.wrB=true):
    k4 P r E ⟨none,.mapUpdate t km kk x,ty,pos,af,g⟩ S (S.setBlk id (.map (vV kv ev (zAQ mp k v)))):=
  zFO rfl (by simp) fun A w I ρ C hs=>by
    subst hu;have ac:=hs.blks id;rw[hb] at ac;obtain⟨b,H,O,aa,hM,hh,hp,hI⟩:=ac;have hv:=hs.ev km;rw[hm] at hv;have aj:A.eval km= .map (some b):=Eq.trans hv aa;have ag:=hs.ev kk;rw[hk] at ag;have ah:=ao _ _ _ ag;have Z:=hs.ev x;rw[hx] at Z;have ap:=(Array.getElem?_eq_some_iff.1 hh).1;have hf:=hK.find k _ H.toList w (zYF hp);have Y:(getObj b).run P w= .ok (.map H O) w:=by simp[getObj,Sem.run,hh]
    have ab:∀(G:Array MapEntry) (z:Nat),Pw (fun (x:MapEntry) (y:Value×DV)=>x.key=y.1∧Rep w I x.val y.2) G.toList (vV kv ev (zAQ mp k v))→
        Sat E (S.setBlk id (.map (vV kv ev (zAQ mp k v)))) A {w with heap:=w.heap.setIfInBounds b (.map G z)}:=by
      intro G z ar;have hg:w.grownBy {w with heap:=w.heap.setIfInBounds b (.map G z)} (some b):=
        ⟨rfl,rfl,rfl,by simp,fun q _ hq=>Array.getElem?_setIfInBounds_ne (fun e=>hq (by rw[e]))⟩
      have T:Same I w {w with heap:=w.heap.setIfInBounds b (.map G z)}:=fun b' j hi=>by
        have:b'≠b:=fun e=>hI j (e▸hi);exact KeepB.of (Array.getElem?_setIfInBounds_ne (fun e=>this e.symm))
      refine⟨I,ρ,C,hs.modify hg (by rw[hb];simp) (by rw[aa];rfl) T ⟨b,G,z,aa,hM,by simp[ap],ar.imp fun _ _ h=>⟨h.1,h.2.mono T (fun _ _ h=>h)⟩,hI⟩ hE⟩
    rcases zKM (a:=k) (i:=0) hp with ⟨e1,e2⟩ | ⟨v0,j,x0,e1,e2,e3,⟨q,q1,q2,q3⟩,e4⟩
    · rw[e2] at hf
      refine⟨_,?_,ab (H.push {key:=kv k,val:=A.eval x,born:=O}) (O+1) ?_⟩
      · simp only[execOp,aj,ah,Instr.mapUpdate,Sem.run_bind,run_underlying hT.und,Result.andThen_ok,Y,hK.check,hf,zKO hh,Sem.run_pure]
      · rw[z1C e1]
        simp only[vV,List.map_append,Array.toList_push,List.map_cons,List.map_nil];exact Pw.append hp (Pw.cons ⟨rfl,Z⟩ Pw.nil)
    · rw[e2] at hf
      have hq:H[0+j]? =some q:=by rw[Nat.zero_add];simpa using q1
      have ad:(Instr.keyThatStays (((H[0+j]?).map (·.key)).getD (kv k)) (kv k)).run P w= .ok (kv k) w:=by
        rw[hq];simp only[Option.map_some,Option.getD_some,q2,Instr.keyThatStays,hK.same,if_true,Sem.run_pure]
      refine⟨_,?_,ab (H.modify (0+j) fun e=>{e with key:=kv k,val:=A.eval x}) O ?_⟩
      · simp only[execOp,aj,ah,Instr.mapUpdate,Sem.run_bind,run_underlying hT.und,Result.andThen_ok,Y,hK.check,hf,ad,zKO hh,Sem.run_pure]
      · rw[Nat.zero_add,Array.toList_modify]
        exact e4 (A.eval x) v _ (fun _=> .inr rfl) (fun _=>rfl) Z
end
theorem SatAt.giveUp {a:Act} {w:World} {I:Im} {ρ:Nat→Value} {C:Nat→Prop} (h:SatAt E S a w I ρ C) {id b:Nat} (H:S.blk id≠ .none) (G:blockOf (ρ id)=some b):
  SatAt E (S.setBlk id .none) a w (fun k j=>I k j∨k=b) ρ C:=by
 have T:=h.blt id b H G;have z:∀k j,I k j→(fun k (j:Nat)=>I k j∨k=b) k j:=fun _ _ h=> .inl h;have key:∀i,(S.setBlk id .none).blk i≠ .none→S.blk i≠ .none∧i≠id:=by
  intro i hi;rw[yA] at hi;by_cases e:id=i
  ·subst e;simp at hi
  ·simp only[e,if_false] at hi;exact⟨hi,fun e'=>e e'.symm⟩
 refine⟨fun u=>(h.tmps u).mono (kV I w) z,fun i=>?_,fun i i' k aa hi Z=>h.dist i i' k aa (key i hi).1 (key i' Z).1,h.frame,fun b j hi=>z b j (h.sub b j hi),fun k j hi=>?_,h.size,h.defers,fun k j hi=>?_,fun i k hi Y=>h.cB i k (key i hi).1 Y,fun i v hv hi=>h.nm i v hv (key i hi).1⟩
 ·by_cases e:id=i
  ·subst e;rw[yA];simp only[if_true];trivial
  ·rw[yA,if_neg e]
   refine(h.blks i).widenI z fun b2 j hx O hi=>?_;rcases hi with hi | hi
   ·exact hi
   ·subst hi;exact absurd O (h.dist id i b2 e H hx G)
 ·rcases hi with hi | hi
  ·exact h.old k j hi
  ·subst hi;exact⟨T.2,.inr T.1⟩
 ·rcases hi with hi | hi
  ·exact h.cI k j hi
  ·subst hi;exact h.cB id k H G
theorem zYM {κ ν:Type} {kv: κ→Value} {ev:En ν} {m:List (κ×ν)} {bid eb off k:Nat} {cells:List AV} (hb:S.blk bid= .box eb cells) (hc:cells[off]? =some (.row k)) (G:S.blk k= .map (vV kv ev m)):
  zE3 E S ((S.setBlk k .none).setBlk bid (.box eb (cells.set off (.d (mpD kv ev m))))):=by
 rintro a w ⟨I,ρ,C,h⟩
 have O:k≠bid:=by rintro rfl;rw[hb] at G;cases G
 have hk:=h.blks k;rw[G] at hk;obtain⟨b,Z,H,z,hM,hh,hp,hI⟩:=hk;have h2:=h.giveUp (id:=k) (b:=b) (by rw[G];simp) (by rw[z];rfl)
 refine⟨_,ρ,C,h2.rebox (eb:=eb) (cells:=cells) (by rw[yA,if_neg O];exact hb) fun xs hx=>hx.set_right hc fun x T=>?_⟩
 have Y:x= ρ k:=T;rw[Y,z];exact yN0 hh (.inr rfl) (hp.imp fun _ _ q=>⟨q.1,q.2.mono (kV I w) fun _ _ h=> .inl h⟩)
end
end Go.AV


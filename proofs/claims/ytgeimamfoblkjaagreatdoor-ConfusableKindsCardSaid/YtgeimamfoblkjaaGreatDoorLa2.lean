/- The layer of abstract values: what a temporary holds, said once; every rule of it is proved from the model. Conditions: none. -/
import Derived.Test.YtgeimamfoblkjaaGreatDoorLa1
set_option linter.unusedSimpArgs false
set_option linter.unusedVariables false
set_option linter.unnecessarySimpa false
namespace Go.AV
open Go.RowKit
structure Kept (C:Nat→Prop) (w w':World):Prop where
 size:w.heap.size≤w'.heap.size
 blk:∀b,b<w.heap.size→¬C b→w'.heap[b]? =w.heap[b]?
def zUQ (P:Program) (l:Nat) (ys:List Value) (w:World) (b:Bool) (R:World→Prop):Prop:=
 ∃fn tmps assign body,(Instr.yield l ys.toArray).run P w= .ok (.round l fn tmps assign body) w∧
  RoundIn Fence.wide 0 P l fn tmps assign body w fun e w'=>e= .returned (.bool b)∧R w'
def zW2 (P:Program) (E:Env) (l:Nat) (xs:List (List DV)) (go:Nat→Bool:=fun _=>true):Prop:=
 ∀k C w (I:Im) ys x,xs[k]? =some x→E.fr k C w→(∀b j,I b j→b<w.heap.size∧¬C b∧(E.I0 b j∨E.mine b))→Reps w I ys x→
  zUQ P l ys w (go k) fun w2=> ∃C',E.fr (k+1) C' w2∧Kept C w w2∧∀b,C' b→C b∨w.heap.size≤b
section
variable {P:Program} {r:Option Nat} {E:Env} {S:AState} {d:Nat} {ty:TypeId} {pos:String} {af:Array Edge} {g:Option (Nat×Bool)}
theorem SatAt.kept {a:Act} {w w':World} {I:Im} {ρ:Nat→Value} {C C':Nat→Prop} {k:Nat} (h:SatAt E S a w I ρ C) (hk:Kept C w w') (hC:∀b,C' b→C b∨w.heap.size≤b) (hfr:E.fr k C' w'):
  SatAt E (S.put GT (.gh k)) a w' I ρ C':=by
 have hs:Same I w w':=fun b j hi=>KeepB.of (hk.blk b (h.old b j hi).1 (h.cI b j hi));have hCn:∀b,b<w.heap.size→¬C b→¬C' b:=fun b hb hc hc'=>by rcases hC b hc' with h1 | h1;exact hc h1;omega
 have hgh:(S.put GT (.gh k)).ghost=k:=by unfold AState.ghost;rw[zBD];simp
 refine⟨fun t=>?_,fun i=>?_,h.dist,by rw[hgh];exact hfr,h.sub,fun b j hi=>⟨Nat.lt_of_lt_of_le (h.old b j hi).1 hk.size,(h.old b j hi).2⟩,h.size,?_,fun b j hi=>hCn b (h.old b j hi).1 (h.cI b j hi),fun i b hi hb=>hCn b (h.blt i b hi hb).2 (h.cB i b hi hb),h.nm⟩
 ·rw[zBD]
  by_cases e:GT=t
  ·simp only[e,if_true];trivial
  ·simp only[e,if_false];exact(h.tmps t).mono hs (fun _ _ h=>h)
 ·show BlkOk w' I ρ E.mine i (S.blk i)
  cases hx:S.blk i with
  | none=>trivial
  | _=>
   rw[←hx];have hne:S.blk i≠ .none:=by rw[hx];simp
   exact(h.blks i).mono hs (fun b hb=>hk.blk b (h.blt i b hne hb).2 (h.cB i b hne hb))
 ·refine⟨fun dd hd=>?_,h.defers.dist,h.defers.wr⟩
  obtain⟨q,h1,h2,h3,h4⟩:=h.defers.each dd hd;have hlt:=(Array.getElem?_eq_some_iff.1 h4).1;exact⟨q,h1,h2,hCn q hlt h3,(hk.blk q hlt h3).trans h4⟩
theorem zXZ {go:Nat→Bool} {l k:Nat} {x:Operand} {args:List Operand} {ats:Array TypeId} {xs:List (List DV)} {it:List DV} (hn:d<E.n) (hE:zW2 P E l xs go) (hx:S.ev x= .d (.v (.func (.yield l) #[] #[]))) (hds:unD (args.map S.ev)=some it)
  (hk:S.ghost=k) (hit:xs[k]? =some it):
  j9 P r E ⟨some d,.call {callee:= .value x,args:=args.toArray,argTypes:=ats},ty,pos,af,g⟩ S ((S.put GT (.gh (k+1))).put d (.d (.v (.bool (go k))))):=by
 rintro A w K Q ⟨I,ρ,C,hs⟩ hkn
 obtain⟨hd1,hd2⟩:=zEB S hds;obtain⟨I1,h1,h2,h3⟩:=SatAt.dvL _ hs (u7 hs args) hd1;rw[hd2] at h2;have hfr:=h2.frame;rw[hk] at hfr;obtain⟨fn,tmps,assign,body,hrun,hround⟩:=hE k C w I1 (args.map A.eval) it hit hfr (fun b j hi=>⟨(h2.old b j hi).1,h2.cI b j hi,(h2.old b j hi).2⟩) h3;refine⟨fun f _=>trivial,?_⟩;rw[Oper.semAt_eq _ _ _ (by simp)];have hr2:(execOp A.eval ⟨some d,.call {callee:= .value x,args:=args.toArray,argTypes:=ats},ty,pos,af,g⟩).run P w= .ok (.round l fn tmps assign body) w:=by
  have hxv:=hs.val hx;have hmap:args.toArray.map A.eval=(args.map A.eval).toArray:=by simp
  simp only[execOp,resolve,hxv,hmap,Deferred.ofValue,Sem.run_bind,Sem.run_pure,Result.andThen_ok,invoke];simpa using hrun
 rw[hr2];refine⟨by simp[fen,Fence.wide],?_⟩;show RoundIn Fence.wide 0 P l fn tmps assign body w _;refine hround.mono ?_
 rintro e w' ⟨rfl,C',hfr',hkept,hC'⟩
 exact hkn _ _ ⟨I1,ρ,C',(h2.kept hkept hC' hfr').put hn (.v _)⟩
def zQ6 (P:Program) (f:FuncId) (caps:List DV) (xs:List (List DV)) (go:Nat→Bool:=fun _=>true):Prop:=
 (∃fn,P.funcs[f]? =some fn∧(fn.name== "runtime.NumGoroutine")=false∧fn.body.isNone=false)∧
 ∀(w:World) (I:Im) (vs:List Value) (C:Nat→Prop) (l:Nat) (J:Nat→(Nat→Prop)→World→Prop),
  (∀b j,I b j→b<w.heap.size∧¬C b)→Reps w I vs caps→(∀k C w,J k C w→∀b,C b→b<w.heap.size)→(∀k C w w',J k C w→Below w.heap.size w w'→J k C w')→(∀k C w,J k C w→GlI (uO P) w I)→J 0 C w→
  (∀k C w' (I':Im) ys x,xs[k]? =some x→J k C w'→(∀b j,I' b j→b<w'.heap.size∧¬C b∧(I b j∨w.heap.size≤b))→Reps w' I' ys x→zUQ P l ys w' (go k) fun w2=> ∃C',J (k+1) C' w2∧Kept C w' w2∧∀b,C' b→C b∨w'.heap.size≤b)→
  Calls P f (.func (.yield l) #[] #[]::vs).toArray w fun e w'=>e= .returned (.tuple #[])∧∃C',J xs.length C' w'
def Env.iter (gdt:Nat→Option (List Value)) (w0:World) (I0:Im) (J:Nat→(Nat→Prop)→World→Prop) (n:Nat) (hn:n≤1000000) (hc:∀k C w,J k C w→∀b,C b→b<w.heap.size) (hg:∀k C w w',J k C w→Below w.heap.size w w'→J k C w') (hG:∀k C w,J k C w→GlI gdt w I0):Env where
 B:=w0.heap.size
 I0:=I0
 n:=n
 fr:=fun k C w=>J k C w∧w0.heap.size≤w.heap.size
 wrB:=false
 nle:=hn
 mine:=fun b=>w0.heap.size≤b
 mineB:=fun _ h=>h
 nm:=fun _=>none
 size:=fun _ _ _ h=>h.2
 csize:=fun k C w h=>hc k C w h.1
 grow:=fun k C w w' h hb=>⟨hg k C w w' h.1 hb,Nat.le_trans h.2 hb.size⟩
 wr:=fun h=>by cases h
 turn:=fun h=>by cases h
 gdt:=gdt
 gl:=fun k C w h=>hG k C w h.1
def z98 (fn:Func) (n:Nat):Exit→AState→Prop
 | .ret,S | .normal,S=>fn.results= #[]∧S.ghost=n
 | _,_=>False
theorem z45 {go:Nat→Bool} {f:FuncId} {fn:Func} {c:Code} {caps:List DV} {xs:List (List DV)} (hf:P.funcs[f]? =some fn) (hname:(fn.name== "runtime.NumGoroutine")=false) (hb:fn.body=some c) (hn:caps.length+1≤fn.ntmps) (hn2:fn.ntmps≤1000000)
  (h:∀w0 I0 J hc hg hG l,zW2 P (Env.iter (uO P) w0 I0 J fn.ntmps hn2 hc hg hG) l xs go→Avc P none (Env.iter (uO P) w0 I0 J fn.ntmps hn2 hc hg hG) c (z98 fn xs.length) ⟨(GT,.gh 0)::(0,.d (.v (.func (.yield l) #[] #[])))::zI9 caps 1,[]⟩):zQ6 P f caps xs go:=by
 refine⟨⟨fn,hf,hname,by simp[hb]⟩,fun w I vs C l J hI hvs hc hg hG h0 hy=>?_⟩;have hy':zW2 P (Env.iter (uO P) w I J fn.ntmps hn2 hc hg hG) l xs go:=by
  intro k C w2 I2 ys x hx hfr hI2 hr;obtain⟨fn',tmps,assign,body,hrun,hround⟩:=hy k C w2 I2 ys x hx hfr.1 hI2 hr;refine⟨fn',tmps,assign,body,hrun,hround.mono ?_⟩
  rintro e w3 ⟨rfl,C',h1,h2,h3⟩
  exact⟨rfl,C',⟨h1,Nat.le_trans hfr.2 h2.size⟩,h2,h3⟩
 refine callsIn_wide (n:=0) |>.1 (callsIn_of_wp_marks hf hb trivial ?_)
 have hlen:vs.length=caps.length:=hvs.1;have hsat:Sat (Env.iter (uO P) w I J fn.ntmps hn2 hc hg hG) ⟨(GT,.gh 0)::(0,.d (.v (.func (.yield l) #[] #[])))::zI9 caps 1,[]⟩ {tmps:=(.func (.yield l) #[] #[]::vs).toArray++Array.replicate (fn.ntmps-(Value.func (.yield l) #[] #[]::vs).toArray.size) undef,defers:=[]} w:=by
  refine⟨I,fun _=>undef,C,⟨fun t=>?_,fun _=>trivial,fun _ _ _ _ h=>absurd rfl h,⟨h0,Nat.le_refl _⟩,fun _ _ h=>h,fun b j h=>⟨(hI b j h).1,.inl h⟩,by simp[Env.iter];omega,DefOk.nil,fun b j h=>(hI b j h).2,fun _ _ h=>absurd rfl h,fun _ _ h=>by cases h⟩⟩
  show Holds _ _ _ _ (look AV.top ((GT,.gh 0)::(0,.d (.v (.func (.yield l) #[] #[])))::zI9 caps 1) t);rw[k8];by_cases eg:GT=t
  ·simp only[eg,if_true];trivial
  ·simp only[eg,if_false]
   rw[k8];by_cases e0:0=t
   ·subst e0
    simp only[if_true];have:((Value.func (.yield l) #[] #[]::vs).toArray++Array.replicate (fn.ntmps-(Value.func (.yield l) #[] #[]::vs).toArray.size) undef).getD 0 undef= .func (.yield l) #[] #[]:=by
     simp[Array.getD_eq_getD_getElem?,Array.getElem?_append]
    rw[this];exact .v _
   ·simp only[e0,if_false]
    rcases zQX caps 1 t with ⟨h1t,x,hx,hlk⟩ | hlk
    ·rw[hlk]
     have ht:t-1<vs.length:=by rw[hlen];exact(List.getElem?_eq_some_iff.1 hx).1
     refine hvs.2 (t-1) _ x ?_ hx;have e1:t=(t-1)+1:=by omega
     have:((Value.func (.yield l) #[] #[]::vs).toArray++Array.replicate (fn.ntmps-(Value.func (.yield l) #[] #[]::vs).toArray.size) undef)[t]? =vs[t-1]?:=by
      rw[Array.getElem?_append_left (by simp;omega)]
      simp only[List.getElem?_toArray]
      conv=>lhs;rw[e1]
      simp
     simp only[Array.getD_eq_getD_getElem?,this];simp[ht]
    ·rw[hlk];trivial
 refine wpIn_mono (h w I J hc hg hG l hy' _ w hsat) ?_
 rintro en a w' ⟨S,hK,I1,ρ,C1,hs⟩
 have fin:(fn.results= #[]∧S.ghost=xs.length)→LeavesInM (fen none) 0 P fn a.tmps (fun e w'=>e= .returned (.tuple #[])∧∃C',J xs.length C' w') a.defers .returning w':=by
  rintro⟨hres,hgh⟩
  have hfr:=hs.frame;rw[hgh] at hfr;have hnil:a.defers= []:=by
   cases hd:a.defers with
   | nil=>rfl
   | cons q qs=>have:=hs.defers.wr (by rw[hd];simp);cases this
  rw[hnil];exact⟨_,results_none hres _ _ _,rfl,C1,hfr.1⟩
 cases en with
 | normal=>exact fin hK
 | ret=>exact fin hK
 | _=>exact hK.elim
end
end Go.AV
namespace Go.AV
open Go.RowKit
theorem SatAt.weak {E:Env} {S S':AState} {a:Act} {w:World} {I:Im} {ρ:Nat→Value} {C:Nat→Prop} (h:SatAt E S a w I ρ C) (hget:∀t,S'.get t= .top∨S.get t=S'.get t) (hblk:∀t,S'.blk t= .none∨S.blk t=S'.blk t) (hgh:E.fr S'.ghost C w):SatAt E S' a w I ρ C:=by
 have hb:∀i,S'.blk i≠ .none→S.blk i≠ .none:=fun i hi=>by
  rcases hblk i with e | e;exact absurd e hi;rw[e];exact hi
 refine⟨fun t=>?_,fun i=>?_,fun i i' b hn hi hi'=>h.dist i i' b hn (hb i hi) (hb i' hi'),hgh,h.sub,h.old,h.size,h.defers,h.cI,fun i b hi hb'=>h.cB i b (hb i hi) hb',fun i v hv hi=>h.nm i v hv (hb i hi)⟩;rcases hget t with e | e
 rw[e];trivial;rw[←e];exact h.tmps t;rcases hblk i with e | e
 rw[e];trivial;rw[←e];exact h.blks i
theorem zX0 {S:AState}:∀{l:List (Nat×AV)},Cov S l→∀t,look AV.top l t= .top∨S.get t=look AV.top l t
 | [],_,_=> .inl rfl
 | (i,x)::l,h,t=>by
  rw[k8];by_cases e:i=t;simp only[e,if_true];exact .inr (e▸h.1);simp only[e,if_false];exact zX0 h.2 t
theorem zJD {S:AState}:∀{l:List (Nat×Blk)},zMD S l→∀t,look Blk.none l t= .none∨S.blk t=look Blk.none l t
 | [],_,_=> .inl rfl
 | (i,x)::l,h,t=>by
  rw[k8];by_cases e:i=t;simp only[e,if_true];exact .inr (e▸h.1);simp only[e,if_false];exact zJD h.2 t
def xL (T:List (Nat×Blk)) (ρ:Nat→Value) (b:Nat):Prop:= ∃id,look Blk.none T id≠ .none∧blockOf (ρ id)=some b
structure RndOk (E:Env) (w1:World) (Iall:Im) (C0:Nat→Prop):Prop where
 lt:∀b j,Iall b j→b<w1.heap.size
 sub:∀b j,E.I0 b j→Iall b j
 size:E.B≤w1.heap.size
def Env.rnd (E:Env) (w1:World) (Iall:Im) (X C0:Nat→Prop) (boxes:List Nat) (ρ0:Nat→Value) (defs:List Deferred) (l D:Nat) (lp:Loop) (hok:RndOk E w1 Iall C0):Env where
 B:=w1.heap.size
 I0:=Iall
 n:=E.n
 fr:=fun _ C w=>E.fr 0 C0 w∧Same Iall w1 w∧Kept (fun b=>X b∨b=l) w1 w∧(∀b,C b↔C0 b)∧w.heap[l]? =some (.loop lp)∧(l<w1.heap.size∧D<w1.heap.size∧l≠D)∧w.heap[D]? =some (.deferred (some []))∧DefOk E.B E.wrB C0 w defs∧(∀d∈defs,∀q,d.target= .collected q→q<w1.heap.size)
 wrB:=E.wrB
 nle:=E.nle
 mine:=fun b=>(X b∧E.mine b)∨w1.heap.size≤b
 mineB:=fun _ h=> .inr h
 nm:=fun id=>if boxes.contains id then some (ρ0 id) else E.nm id
 size:=fun _ _ _ h=>h.2.2.1.size
 csize:=fun _ C w h b hb=>E.csize _ _ _ h.1 b ((h.2.2.2.1 b).1 hb)
 grow:=fun _ C w w' h hb=>by
  obtain⟨h1,h2,h3,h4,h5,h8,h6,h7,h9⟩:=h;refine⟨E.grow _ _ _ _ h1 hb,fun b j hi=>?_,⟨Nat.le_trans h3.size hb.size,fun b hlt hn=>(hb.block b (Nat.lt_of_lt_of_le hlt h3.size)).trans (h3.blk b hlt hn)⟩,h4,(hb.block l (Array.getElem?_eq_some_iff.1 h5).1).trans h5,h8,(hb.block D (Array.getElem?_eq_some_iff.1 h6).1).trans h6,h7.keep fun q hq=>(hb.block q (Array.getElem?_eq_some_iff.1 hq).1).trans hq,h9⟩;exact(KeepB.of (hb.block b (Nat.lt_of_lt_of_le (hok.lt b j hi) h3.size))).trans (h2 b j hi)
 wr:=fun hE _ C w w' row h hg hr hs=>by
  obtain⟨h1,h2,h3,h4,h5,h8,h6,h7,h9⟩:=h;have hm:∀b,row b→E.mine b∧¬C0 b∧∃o,w.heap[b]? =some o∧isData o=true:=fun b hb=>by
   obtain⟨m1,m2,m3⟩:=hr b hb;refine⟨?_,fun hc=>m2 ((h4 b).2 hc),m3⟩;rcases m1 with m1 | m1;exact m1.2;exact E.mineB b (Nat.le_trans hok.size m1)
  have hnot:∀q o,w.heap[q]? =some o→isData o=false→¬row q:=fun q o hq ho e=>by
   obtain⟨_,_,o',hc,hd⟩:=hr q e;rw[hq] at hc;cases hc;rw[ho] at hd;cases hd
  refine⟨E.wr hE _ _ _ _ _ h1 hg hm (fun b j hi=>hs b j (hok.sub b j hi)),fun b j hi=>(hs b j hi).trans (h2 b j hi),⟨Nat.le_trans h3.size hg.size,fun b hlt hn=>?_⟩,h4,(hg.block l (Array.getElem?_eq_some_iff.1 h5).1 (hnot l _ h5 rfl)).trans h5,h8,(hg.block D (Array.getElem?_eq_some_iff.1 h6).1 (hnot D _ h6 rfl)).trans h6,?_,h9⟩;refine(hg.block b (Nat.lt_of_lt_of_le hlt h3.size) (fun e=>?_)).trans (h3.blk b hlt hn);rcases (hr b e).1 with m | m
  exact hn (.inl m.1);omega;exact h7.keep fun q hq=>(hg.block q (Array.getElem?_eq_some_iff.1 hq).1 (hnot q _ hq rfl)).trans hq
 turn:=fun hE _ C w w' q h hq ht hs=>by
  obtain⟨h1,h2,h3,h4,h5,h8,h6,h7,h9⟩:=h;refine⟨E.turn hE _ _ _ _ _ h1 (Nat.le_trans hok.size hq) ht (fun b j hi=>hs b j (hok.sub b j hi)),fun b j hi=>(hs b j hi).trans (h2 b j hi),⟨by rw[ht.size];exact h3.size,fun b hlt hn=>(ht.blk b (by omega)).trans (h3.blk b hlt hn)⟩,h4,(ht.blk l (by omega)).trans h5,h8,(ht.blk D (by omega)).trans h6,?_,h9⟩
  refine⟨fun dd hd=>?_,h7.dist,h7.wr⟩;obtain⟨u,e1,e2,e3,e4⟩:=h7.each dd hd;have:=h9 dd hd u e1;exact⟨u,e1,e2,e3,(ht.blk u (by omega)).trans e4⟩
 gdt:=E.gdt
 gl:=fun _ _ _ h=>(E.gl _ _ _ h.1).sub hok.sub
theorem z1V {w:World} {b j:Nat} (h:∀o,w.heap[b]? =some o→isData o=false):w.cell? ⟨b,j,none⟩=none:=by
 unfold World.cell?;cases hb:w.heap[b]? with
 | none=>rfl
 | some o=>
  cases o with
  | cells c e f=>have:=h _ hb;cases this
  | _=>rfl
theorem Turned.same {l:Nat} {w w':World} (ht:Turned l w w') (I:Im):Same I w w':=by
 intro b j _;by_cases e:b=l;subst e;exact⟨by rw[z1V ht.no',z1V ht.no],fun _ _ q=>by have:=ht.no _ q;cases this⟩
 exact KeepB.of (ht.blk b e)
theorem SatAt.turn {E:Env} {S:AState} {a:Act} {w w':World} {I:Im} {ρ:Nat→Value} {C:Nat→Prop} (h:SatAt E S a w I ρ C) {l:Nat} (ht:Turned l w w') (hd:∀d∈a.defers,d.target≠ .collected l) (hfr:E.fr S.ghost C w'):SatAt E S a w' I ρ C:=by
 have hs:=ht.same I;refine⟨fun t=>(h.tmps t).mono hs (fun _ _ h=>h),fun i=>?_,h.dist,hfr,h.sub,fun b j hi=>⟨by rw[ht.size];exact(h.old b j hi).1,(h.old b j hi).2⟩,h.size,⟨fun dd hdd=>?_,h.defers.dist,h.defers.wr⟩,h.cI,h.cB,h.nm⟩
 cases hx:S.blk i with
 | none=>trivial
 | _=>
  rw[←hx];refine(h.blks i).mono hs (fun b hbo=>ht.blk b ?_)
  rintro rfl
  obtain⟨o,hc,hd⟩:=h.cellBlk (by rw[hx];simp) hbo
  rw[ht.no o hc] at hd;cases hd
 obtain⟨q,e1,e2,e3,e4⟩:=h.defers.each dd hdd;exact⟨q,e1,e2,e3,(ht.blk q (fun e=>hd dd hdd (e▸e1))).trans e4⟩
theorem SatAt.turn2 {E E':Env} {S:AState} {a:Act} {w w':World} {I:Im} {ρ:Nat→Value} {C:Nat→Prop} (h:SatAt E S a w I ρ C) (eB:E'.B=E.B) (eI:E'.I0=E.I0) (en:E'.n=E.n) (em:E'.mine=E.mine) (enm:E'.nm=E.nm) (ew:E'.wrB=E.wrB)
  {l:Nat} (ht:Turned l w w') (hd:∀d∈a.defers,d.target≠ .collected l) (hfr:E'.fr S.ghost C w'):SatAt E' S a w' I ρ C:=by
 have hs:=ht.same I;refine⟨fun t=>(h.tmps t).mono hs (fun _ _ h=>h),fun i=>?_,h.dist,hfr,by rw[eI];exact h.sub,fun b j hi=>⟨by rw[ht.size];exact(h.old b j hi).1,by rw[eI,em];exact(h.old b j hi).2⟩,by rw[en];exact h.size,⟨fun dd hdd=>?_,h.defers.dist,by rw[ew];exact h.defers.wr⟩,h.cI,h.cB,by rw[enm];exact h.nm⟩
 ·rw[em]
  cases hx:S.blk i with
  | none=>trivial
  | _=>
   rw[←hx];refine(h.blks i).mono hs (fun b hbo=>ht.blk b ?_)
   rintro rfl
   obtain⟨o,hc,hd⟩:=h.cellBlk (by rw[hx];simp) hbo
   rw[ht.no o hc] at hd;cases hd
 ·obtain⟨q,e1,e2,e3,e4⟩:=h.defers.each dd hdd
  exact⟨q,e1,by rw[eB];exact e2,e3,(ht.blk q (fun e=>hd dd hdd (e▸e1))).trans e4⟩
def zQ7 (T:List (Nat×Blk)):Bool:=T.all fun p=>match p.2 with
 | .row _ _ sh _=>!sh
 | .win _ _ _ _=>false
 | _=>true
theorem zZV {T:List (Nat×Blk)} (h:zQ7 T=true) {id e size k:Nat} {cells:List DV} (hb:look Blk.none T id= .win e size k cells):False:=by
 induction T with
 | nil=>cases hb
 | cons p T ih=>
  obtain⟨i,x⟩:=p;simp only[zQ7,List.all_cons,Bool.and_eq_true] at h;rw[k8] at hb;by_cases e':i=id;simp only[e',if_true] at hb;subst hb;simp at h;simp only[e',if_false] at hb;exact ih h.2 hb
theorem zW3 {T:List (Nat×Blk)} (h:zQ7 T=true) {id e size:Nat} {sh:Bool} {cells:List DV} (hb:look Blk.none T id= .row e size sh cells):sh=false:=by
 induction T with
 | nil=>cases hb
 | cons p T ih=>
  obtain⟨i,x⟩:=p;simp only[zQ7,List.all_cons,Bool.and_eq_true] at h;rw[k8] at hb;by_cases e':i=id;simp only[e',if_true] at hb;subst hb;simpa using h.1;simp only[e',if_false] at hb;exact ih h.2 hb
def zHR (boxes:List Nat):List (Nat×AV)→Bool
 | []=>true
 | (_,.d _)::r=>zHR boxes r
 | (_,.ptr id _)::r=>boxes.contains id&&zHR boxes r
 | _=>false
theorem zJE {boxes:List Nat}:∀{l:List (Nat×AV)},zHR boxes l=true→∀t,look AV.top l t= .top∨(∃y,look AV.top l t= .d y)∨∃id off,look AV.top l t= .ptr id off∧boxes.contains id=true
 | [],_,_=> .inl rfl
 | (i,x)::l,h,t=>by
  rw[k8];by_cases e:i=t;simp only[e,if_true];cases x with
  | d y=>exact .inr (.inl ⟨y,rfl⟩)
  | ptr id off=>simp only[zHR,Bool.and_eq_true] at h;exact .inr (.inr ⟨id,off,rfl,h.1⟩)
  | _=>simp[zHR] at h
  simp only[e,if_false];cases x with
  | d y=>exact zJE (l:=l) (by simpa[zHR] using h) t
  | ptr id off=>simp only[zHR,Bool.and_eq_true] at h;exact zJE h.2 t
  | _=>simp[zHR] at h
def zZW:List Tmp→List DV→List (Nat×AV)
 | p::ps,x::xs=>zZW ps xs++ [(p,.d x)]
 | _,_=>[]
theorem zUR {w:World} {I:Im} {ρ:Nat→Value} {n:Nat}:∀(ps:List Tmp) (ys:List Value) (xs:List DV) (tm:Array Value) (l:List (Nat×AV)),ps.length=xs.length→Reps w I ys xs→(∀p∈ps,p<n)→tm.size=n→
  (∀t,Holds w I ρ (tm.getD t undef) (look AV.top l t))→
  ((ps.zip ys).foldl (fun (tmps:Array Value) (q:Tmp×Value)=>tmps.setIfInBounds q.1 q.2) tm).size=n∧
  ∀t,Holds w I ρ (((ps.zip ys).foldl (fun (tmps:Array Value) (q:Tmp×Value)=>tmps.setIfInBounds q.1 q.2) tm).getD t undef) (look AV.top (zZW ps xs++l) t)
 | [],ys,xs,tm,l,hl,hr,hp,hsz,h=>by
  have hx:xs= []:=List.eq_nil_of_length_eq_zero (by simpa using hl.symm);subst hx;have:ys= []:=List.eq_nil_of_length_eq_zero hr.1;subst this;exact⟨hsz,h⟩
 | p::ps,ys,xs,tm,l,hl,hr,hp,hsz,h=>by
  match xs,ys,hl,hr with
  | x::xs,y::ys,hl,hr=>
   have hr':Reps w I ys xs:=⟨by have:=hr.1;simpa using this,fun j u z hu hz=>hr.2 (j+1) u z (by simpa using hu) (by simpa using hz)⟩
   have:=zUR ps ys xs (tm.setIfInBounds p y) ((p,.d x)::l) (by simpa using hl) hr' (fun q hq=>hp q (by simp[hq])) (by simp[hsz]) (fun t=>by
    rw[k8];have hpn:p<tm.size:=by rw[hsz];exact hp p (by simp)
    by_cases e:p=t
    ·subst e
     simp only[if_true];have:(tm.setIfInBounds p y).getD p undef=y:=by simp[Array.getD_eq_getD_getElem?,hpn]
     rw[this];exact hr.2 0 y x rfl rfl
    ·simp only[e,if_false]
     have:(tm.setIfInBounds p y).getD t undef=tm.getD t undef:=by
      rw[Array.getD_eq_getD_getElem?,Array.getD_eq_getD_getElem?,Array.getElem?_setIfInBounds_ne e]
     rw[this];exact h t)
   simp only[List.zip_cons_cons,List.foldl_cons,zZW,List.append_assoc,List.singleton_append];exact this
  | [],_,hl,_=>simp at hl
  | _::_,[],_,hr=>have:=hr.1;simp at this
def z99 (P:Program) (l:Nat) (E2:Env) (body:Code) (KR:Exit→AState→Prop):Exit→AState→Prop
 | .normal,S=>Avc P (some l) E2 body KR S
 | _,_=>False
def yAA (T':List (Nat×Blk)):Exit→AState→Prop
 | .normal,S=>zMD S T'
 | _,_=>False
def zKD:Exit→Nat→Nat→Bool
 | .normal,_,_=>false
 | _,n,k=>Nat.beq k n
def goF (out:Exit) (n k:Nat):Bool:=!zKD out n (k+1)
theorem z47 {out:Exit} {n k:Nat} (h:k<n):zKD out n k=false:=by
 have:Nat.beq k n=false:=by
  cases h2:Nat.beq k n with
  | false=>rfl
  | true=>have:=Nat.eq_of_beq_eq_true h2;omega
 cases out<;>first | rfl | exact this
def zZX:Exit→Option Code
 | .ret=>some .ret
 | .exit id=>some (.exit id)
 | _=>none
def z73 (out:Exit) (n k:Nat) (T':List (Nat×Blk)) (e:Exit) (S:AState):Prop:=cond (goF out n k) (yAA T' e S) (e=out∧zMD S T')
theorem zW4 (out:Exit) {P:Program} {E:Env} {S:AState} {g:Operand} {ps:List Tmp} {assign body:Code} {f:FuncId} {caps:List DV} {xs:List (List DV)} {K:Exit→AState→Prop}
    (keep:List (Nat×AV)) (boxes:List Nat) (T:Nat→List (Nat×Blk)) (hg:S.ev g= .d (.fn f caps)) (hout:out= .normal∨((zZX out).isSome=true∧xs.isEmpty=false)) (hit:zQ6 P f caps xs (goF out xs.length)) (hE:E.wrB=true) (hgi:∀k k' C w,E.fr k C w→E.fr k' C w)
    (hkeep:Cov S keep) (hT0:zMD S (T 0)) (hko:zHR boxes keep=true) (hun:∀k,zQ7 (T k)=true) (hbx:∀k id,boxes.contains id=true→look Blk.none (T k) id≠ .none) (hnm:∀id,boxes.contains id=true→E.nm id=none)
    (hps:∀x∈xs,ps.length=x.length) (hpn:∀p∈ps,p<E.n)
    (round:∀w1 Iall X C0 ρ0 defs l D lp1 lp2 hok k x,xs[k]? =some x→
      Avc P (some l) (Env.rnd E w1 Iall X C0 boxes ρ0 defs l D lp1 hok) assign (z99 P l (Env.rnd E w1 Iall X C0 boxes ρ0 defs l D lp2 hok) body (z73 out xs.length k (T (k+1)))) ⟨zZW ps x++keep,T k⟩)
    (hK:K out ⟨keep,T xs.length⟩) (hG:E.gdt=uO P:=by rfl):Avc P none E (.rangeFunc g ps.toArray assign body) K S:=by
  rintro a w ⟨I,ρ,C0,hs⟩
  obtain⟨⟨fnI,hfI,hnameI,hbodyI⟩,hiter⟩:=hit;have hgv:=hs.ev g;rw[hg] at hgv;have hgv':Rep w I (a.eval g) (.fn f caps):=hgv;generalize hvg:a.eval g=vg at hgv';cases hgv' with
  | fn f cvs caps hcx hcr=>
  refine wpIn_rangeFunc fun fn _=>?_
  let D:=w.heap.size
  let l:=w.heap.size+1
  let rec0:Loop:={state:= .ready,pending:=none,fn,tmps:=a.tmps,params:=ps.toArray,assign,body,defers:=D}
  let w1:=(w.alloc (.deferred (some []))).alloc (.loop rec0)
  let recD:Loop:={rec0 with state:= .done,pending:=zZX out}
  let recK:Nat→Loop:=fun k=>cond (zKD out xs.length k) recD rec0
  have hk0:∀k,k<xs.length→recK k=rec0:=fun k hk=>by
    simp only[recK,z47 hk,cond_false]
  have hk1:recK 0=rec0:=by
    rcases hout with e | ⟨_,e⟩
    · simp only[recK,e,zKD,cond_false]
    · exact hk0 0 (List.length_pos_iff.2 fun h=>by rw[h] at e;cases e)
  refine⟨l,[{target:= .collected D,args:= #[]}],w1,{target:= .fn (.func f) cvs.toArray,args:= #[.func (.yield l) #[] #[]]},w1,f,(.func (.yield l) #[] #[]::cvs).toArray,w1,?_,?_,fun _ _=>trivial,?_,by simp[fen,Fence.wide],?_⟩
  · simp[Instr.enterLoop,w1,l,D,rec0,fen]
  · have:(resolve a.eval (rangeCall g l) 0)=Deferred.ofValue (a.eval g) #[.func (.yield l) #[] #[]]:=by
      simp[resolve,rangeCall,Act.eval]
    rw[this,hvg];simp[Deferred.ofValue]
  · have hn1:¬fnI.name= "runtime.NumGoroutine" :=by simpa using hnameI
    have hn2:¬fnI.body=none:=by intro e;simp[e] at hbodyI
    simp[invoke,callFunc,hfI,hn1,hn2]
  show CallsIn Fence.wide 0 P f _ w1 _;have hw1s:w1.heap.size=w.heap.size+2:=by simp[w1]
  have hB1:Below w.heap.size w w1:=((Below.refl _ _).alloc (Nat.le_refl _) _).alloc (by simp) _;have hl1:w1.heap[l]? =some (.loop rec0):=by
    have:=heap_alloc_new (w.alloc (.deferred (some []))) (.loop rec0);simpa[w1,l] using this
  have hD1:w1.heap[D]? =some (.deferred (some [])):=by
    have h1:w1.heap[D]? =(w.alloc (.deferred (some []))).heap[D]?:=Below.heap_alloc _ _ _ (by simp[D]);rw[h1];exact heap_alloc_new w _
  let S0:Nat→AState:=fun k=>⟨keep,T k⟩
  have hcvs:Reps w I cvs caps:=⟨hcx,hcr⟩;have hdq:∀dd∈a.defers,∀q,dd.target= .collected q→q<w.heap.size:=fun dd hd q hq=>by
    obtain⟨u,e1,_,_,e4⟩:=hs.defers.each dd hd;rw[hq] at e1;cases e1;exact(Array.getElem?_eq_some_iff.1 e4).1
  let J:Nat→(Nat→Prop)→World→Prop:=fun k C w'=> ∃I' ρ',SatAt E (S0 k) a w' I' ρ' C0∧(∀b j,I b j→I' b j)∧w1.heap.size≤w'.heap.size∧w'.heap[l]? =some (.loop (recK k))∧w'.heap[D]? =some (.deferred (some []))∧∀b,C b↔((C0 b∨xL (T k) ρ' b)∨b=l)
  have hJc:∀k C w',J k C w'→∀b,C b→b<w'.heap.size:=by
    rintro k C w' ⟨I',ρ',h1,_,_,h4,_,h6⟩ b hb
    rcases (h6 b).1 hb with (hc | ⟨id,h7,h8⟩) | rfl
    · exact E.csize _ _ _ h1.frame b hc
    · exact(h1.blt id b h7 h8).2
    · exact(Array.getElem?_eq_some_iff.1 h4).1
  have hJg:∀k C w' w'',J k C w'→Below w'.heap.size w' w''→J k C w'':=by
    rintro k C w' w'' ⟨I',ρ',h1,h2,h3,h4,h5,h6⟩ hb
    exact⟨I',ρ',h1.grow hb,h2,Nat.le_trans h3 hb.size,(hb.block l (Array.getElem?_eq_some_iff.1 h4).1).trans h4,(hb.block D (Array.getElem?_eq_some_iff.1 h5).1).trans h5,h6⟩
  have hsat0:SatAt E (S0 0) a w1 I ρ C0:=(hs.weak (S':=S0 0) (zX0 hkeep) (zJD hT0) (hgi _ _ _ _ hs.frame)).grow hB1;have nown:∀k w' (I':Im) ρ',SatAt E (S0 k) a w' I' ρ' C0→∀b j,I' b j→¬xL (T k) ρ' b:=by
    rintro k w' I' ρ' h b j hi ⟨id,h1,h2⟩
    have hk:=h.blks id;have hb0:(S0 k).blk id=look Blk.none (T k) id:=rfl;cases hx:look Blk.none (T k) id with
    | none=>exact h1 hx
    | row e size sh cells=>
      rw[hb0,hx] at hk;obtain⟨hp,n,ys,hl,hown,_,_,hIr⟩:=hk;have hsh:=zW3 (hun k) hx;subst hsh;have hob:(ρ' id).ownBlock=some b:=by
        rcases hown.2 with ⟨hn',_⟩ | ⟨gb,cap,cur,hn',_⟩
        · rw[hn'] at h2;cases h2
        · rw[hn'] at h2 ⊢;exact h2
      have:=(hIr b j hob hi).1;cases this
    | box e cells=>
      rw[hb0,hx] at hk;obtain⟨b',arr,hρ,_,_,_,_,hnI⟩:=hk;rw[hρ] at h2;cases h2;exact hnI j hi
    | map es=>
      rw[hb0,hx] at hk;obtain⟨b',ents,clock,hρ,_,_,_,hnI,_⟩:=hk;rw[hρ] at h2;cases h2;exact hnI j hi
    | it es q=>
      rw[hb0,hx] at hk;obtain⟨b',bm,ents,clock,seen,hρ,_,_,hnI,_⟩:=hk;rw[hρ] at h2;cases h2;exact hnI j hi
    | win e size k' cells=>exact zZV (hun k) hx
  refine callsIn_wide.2 ((hiter w1 I cvs (fun b=>(C0 b∨xL (T 0) ρ b)∨b=l) l J (fun b j hi=>⟨by have:=(hs.old b j hi).1;omega,fun hc=>?_⟩) (hcvs.mono (fun b j hi=>KeepB.of (hB1.block b (hs.old b j hi).1)) (fun _ _ h=>h)) hJc hJg (fun k C w' ⟨I',ρ',h1,h2,_⟩ g' zs hg' j=>⟨((hG▸h1.gl) g' zs hg' j).1,((hG▸hs.gl) g' zs hg' j).2⟩) ⟨I,ρ,hsat0,fun _ _ h=>h,Nat.le_refl _,(by rw[hk1];exact hl1),hD1,fun _=>Iff.rfl⟩ ?_).mono ?_)
  · rcases hc with (hc | hc) | hc
    · exact hs.cI b j hi hc
    · exact nown 0 w1 I ρ hsat0 b j hi hc
    · have:=(hs.old b j hi).1
      omega
  · -- a round
    rintro k C w' I1 ys x hx ⟨I',ρ',h1,h2,h3,h4,h5,h6⟩ hI1 hreps
    have hlen:ps.length=x.length:=hps x (List.mem_of_getElem? hx);rw[hk0 k (List.getElem?_eq_some_iff.1 hx).1] at h4;have hyl:ys.length=ps.length:=by rw[hreps.1,hlen]
    refine⟨fn,(ps.toArray.zip ys.toArray).foldl (fun tmps (q:Tmp×Value)=>tmps.setIfInBounds q.1 q.2) a.tmps,assign,body,?_,?_⟩
    · have hsz:¬ys.toArray.size≠ps.toArray.size:=by simpa using hyl
      simp[Instr.yield,Instr.getLoop,getObj,Sem.run,h4,rec0,hyl]
    let Iall:Im:=fun b j=>I' b j∨I1 b j
    let X:Nat→Prop:=xL (T k) ρ'
    have hIall:∀b j,Iall b j→b<w'.heap.size∧¬C0 b∧¬X b∧(E.I0 b j∨E.mine b):=by
      rintro b j (hi | hi)
      · exact⟨(h1.old b j hi).1,h1.cI b j hi,nown k w' I' ρ' h1 b j hi,(h1.old b j hi).2⟩
      · obtain⟨e1,e2,e3⟩:=hI1 b j hi
        refine⟨e1,fun hc=>e2 ((h6 b).2 (.inl (.inl hc))),fun hc=>e2 ((h6 b).2 (.inl (.inr hc))),?_⟩;rcases e3 with e3 | e3
        · exact(hs.old b j e3).2
        · exact .inr (E.mineB b (by have:=E.size _ _ _ hs.frame;omega))
    have hok:RndOk E w' Iall C0:=⟨fun b j hi=>(hIall b j hi).1,fun b j hi=> .inl (h1.sub b j hi),E.size _ _ _ h1.frame⟩;have hlD:l<w'.heap.size∧D<w'.heap.size∧l≠D:=⟨by omega,by omega,by simp[l,D]⟩;have hdq':∀dd∈a.defers,∀q,dd.target= .collected q→q<w'.heap.size:=fun dd hd q hq=>by have:=hdq dd hd q hq;omega
    let lpb:Loop:={rec0 with state:= .busy}
    let E1:=Env.rnd E w' Iall X C0 boxes ρ' a.defers l D rec0 hok
    let E2:=Env.rnd E w' Iall X C0 boxes ρ' a.defers l D lpb hok
    have hsub':∀b j,I' b j→Iall b j:=fun _ _ h=> .inl h;have htm:=zUR (w:=w') (I:=Iall) (ρ:=ρ') (n:=E.n) ps ys x a.tmps keep hlen (hreps.mono (xB I1 w') (fun _ _ h=> .inr h)) hpn h1.size (fun t=>(h1.tmps t).mono (xB I' w') hsub');have hzip:(ps.toArray.zip ys.toArray).foldl (fun tmps (q:Tmp×Value)=>tmps.setIfInBounds q.1 q.2) a.tmps=(ps.zip ys).foldl (fun tmps (q:Tmp×Value)=>tmps.setIfInBounds q.1 q.2) a.tmps:=by
      rw[←Array.foldl_toList];simp
    have hstart:Sat E1 ⟨zZW ps x++keep,T k⟩ {tmps:=(ps.toArray.zip ys.toArray).foldl (fun tmps (q:Tmp×Value)=>tmps.setIfInBounds q.1 q.2) a.tmps,defers:=[]} w':=by
      rw[hzip];refine⟨Iall,ρ',C0,⟨htm.2,fun i=>?_,h1.dist,⟨hgi _ _ _ _ h1.frame,xB _ _,⟨Nat.le_refl _,fun _ _ _=>rfl⟩,fun _=>Iff.rfl,h4,hlD,h5,h1.defers,hdq'⟩,fun _ _ h=>h,fun b j hi=>⟨(hIall b j hi).1,.inl hi⟩,htm.1,DefOk.nil,fun b j hi=>(hIall b j hi).2.1,h1.cB,fun id v hv hi=>?_⟩⟩
      · have hki:=h1.blks i
        have hb0:(S0 k).blk i=look Blk.none (T k) i:=rfl;show BlkOk w' Iall ρ' E1.mine i (look Blk.none (T k) i);have excl:∀b j,look Blk.none (T k) i≠ .none→blockOf (ρ' i)=some b→¬Iall b j:=fun b j hne hbo hi=>(hIall b j hi).2.2.1 ⟨i,hne,hbo⟩;have hmine:∀b,look Blk.none (T k) i≠ .none→blockOf (ρ' i)=some b→E.mine b→E1.mine b:=fun b hne hbo _=> .inl ⟨⟨i,hne,hbo⟩,(h1.blt i b hne hbo).1⟩;have hki':BlkOk w' I' ρ' E.mine i (look Blk.none (T k) i):=hki;exact(hki'.mineM hmine).widenI hsub' fun b j hne hbo hi=>absurd hi (excl b j hne hbo)
      · simp only[E1,Env.rnd] at hv
        by_cases e:boxes.contains id=true
        · rw[if_pos e] at hv;cases hv;rfl
        · rw[if_neg e] at hv;exact h1.nm id v hv hi
    refine roundIn_of_wpIn trivial ?_;have hass:=round w' Iall X C0 ρ' a.defers l D rec0 lpb hok k x hx _ w' hstart;refine wpIn_mono hass ?_
    rintro e a2 w2 ⟨S2,hK2,I2,ρ2,C2,hs2⟩
    cases e with
    | normal=>
      have hf2:=hs2.frame;obtain⟨f1,f2,f3,f4,f5,f6,f7,f8,f9⟩:=hf2
      let w3:World:={w2 with heap:=w2.heap.setIfInBounds l (.loop lpb)}
      have hl2:l<w2.heap.size:=(Array.getElem?_eq_some_iff.1 f5).1;have ht23:Turned l w2 w3:=⟨rfl,rfl,rfl,by simp[w3],fun q hq=>Array.getElem?_setIfInBounds_ne (fun e=>hq e.symm),fun o hc=>(by rw[f5] at hc;cases hc;rfl),fun o hc=>(by simp[w3,hl2] at hc;subst hc;rfl)⟩
      refine⟨w3,?_,?_⟩
      · simp[Instr.beginRound,Instr.getLoop,getObj,setObj,Sem.run,f5,rec0,w3,lpb]
      · have hf3:E2.fr S2.ghost C2 w3:=by
          refine⟨E.turn hE _ _ _ _ _ f1 (by have:=E.size _ _ _ hs.frame;omega) ht23 (ht23.same _),fun b j hi=>(ht23.same Iall b j hi).trans (f2 b j hi),⟨by rw[ht23.size];exact f3.size,fun b hlt hn=>(ht23.blk b (fun e=>hn (.inr e))).trans (f3.blk b hlt hn)⟩,f4,by simp[w3,hl2],f6,(ht23.blk D (fun e=>f6.2.2 e.symm)).trans f7,?_,f9⟩
          refine⟨fun dd hd=>?_,f8.dist,f8.wr⟩;obtain⟨u,e1,e2,e3,e4⟩:=f8.each dd hd;have:=hdq dd hd u e1;exact⟨u,e1,e2,e3,(ht23.blk u (by omega)).trans e4⟩
        have hs3:SatAt E2 S2 a2 w3 I2 ρ2 C2:=by
          have hd0:∀d∈a2.defers,d.target≠ .collected l:=fun dd hd e=>by
            obtain⟨u,e1,e2,_,_⟩:=hs2.defers.each dd hd;rw[e] at e1;cases e1;have:w'.heap.size≤l:=e2;omega
          exact hs2.turn2 (E':=E2) rfl rfl rfl rfl rfl rfl ht23 hd0 hf3
        refine wpIn_mono (hK2 a2 w3 ⟨I2,ρ2,C2,hs3⟩) ?_
        rintro e a4 w4 ⟨S4,hK4,I4,ρ4,C4,hs4⟩
        have hcov:zMD S4 (T (k+1)):=by
          unfold z73 at hK4;cases hgo:goF out xs.length k with
          | true=>
            rw[hgo] at hK4;cases e with
            | normal=>exact hK4
            | _=>exact hK4.elim
          | false=>rw[hgo] at hK4;exact hK4.2
        obtain⟨p1,p2,p3,p4,p5,p6,p7,p8,p9⟩:=hs4.frame
        let w5:World:={w4 with heap:=w4.heap.setIfInBounds l (.loop (recK (k+1)))}
        have hl4:l<w4.heap.size:=(Array.getElem?_eq_some_iff.1 p5).1;have ht45:Turned l w4 w5:=⟨rfl,rfl,rfl,by simp[w5],fun q hq=>Array.getElem?_setIfInBounds_ne (fun e=>hq e.symm),fun o hc=>(by rw[p5] at hc;cases hc;rfl),fun o hc=>(by simp[w5,hl4] at hc;subst hc;rfl)⟩
        have hfr5:E.fr 0 C0 w5:=E.turn hE _ _ _ _ _ p1 (by have:=E.size _ _ _ hs.frame;omega) ht45 (ht45.same _)
        have hsame5:Same Iall w' w5:=fun b j hi=>(ht45.same Iall b j hi).trans (p2 b j hi);have hsubI:∀b j,Iall b j→I4 b j:=hs4.sub;have hblkT:∀i,look Blk.none (T (k+1)) i≠ .none→S4.blk i=look Blk.none (T (k+1)) i:=fun i hi=>by
          rcases zJD hcov i with e | e
          · exact absurd e hi
          · exact e
        have hs5:SatAt E (S0 (k+1)) a w5 I4 ρ4 C0:=by
          refine⟨fun t=>?_,fun i=>?_,fun i i' b hn hi hi'=>hs4.dist i i' b hn (by rw[hblkT i hi];exact hi) (by rw[hblkT i' hi'];exact hi'),hgi _ _ _ _ hfr5,fun b j hi=>hsubI b j (.inl (h1.sub b j hi)),fun b j hi=>⟨by rw[ht45.size];exact(hs4.old b j hi).1,?_⟩,h1.size,?_,fun b j hi hc=>hs4.cI b j hi ((p4 b).2 hc),fun i b hi hb hc=>hs4.cB i b (by rw[hblkT i hi];exact hi) hb ((p4 b).2 hc),fun i v hv hi=>?_⟩
          · have hold:Holds w' I' ρ' (a.tmps.getD t undef) (look AV.top keep t):=h1.tmps t
            show Holds w5 I4 ρ4 (a.tmps.getD t undef) (look AV.top keep t);rcases zJE hko t with e | ⟨y,e⟩ | ⟨id,off,e,hbid⟩
            · rw[e];trivial
            · rw[e] at hold ⊢
              exact Rep.mono hold (fun b j hi=>hsame5 b j (.inl hi)) (fun b j hi=>hsubI b j (.inl hi))
            · rw[e] at hold ⊢
              obtain⟨b,hb1,hb2⟩:=hold;refine⟨b,?_,hb2⟩;have:=hs4.nm id (ρ' id) (by show (if boxes.contains id then some (ρ' id) else E.nm id)=_;rw[if_pos hbid]) (by rw[hblkT id (hbx (k+1) id hbid)];exact hbx (k+1) id hbid)
              rw[this];exact hb1
          · show BlkOk w5 I4 ρ4 E.mine i (look Blk.none (T (k+1)) i)
            cases hxb:look Blk.none (T (k+1)) i with
            | none=>trivial
            | _=>
              have hne:look Blk.none (T (k+1)) i≠ .none:=by rw[hxb];simp
              rw[←hxb];have hbk:=hs4.blks i;rw[hblkT i hne] at hbk;have hmm:=hbk.mono (ht45.same I4) (fun b hb=>ht45.blk b (fun e=>by
                obtain⟨o,hc,hd⟩:=hs4.cellBlk (id:=i) (by rw[hblkT i hne];exact hne) hb
                rw[e,p5] at hc;cases hc;cases hd))
              refine hmm.mineM fun b _ _ m=>?_;rcases m with m | m
              · exact m.2
              · exact E.mineB b (by have:=E.size _ _ _ h1.frame;omega)
          · rcases (hs4.old b j hi).2 with m | m | m
            · exact(hIall b j m).2.2.2
            · exact .inr m.2
            · exact .inr (E.mineB b (by have:=E.size _ _ _ h1.frame;omega))
          · refine⟨fun dd hd=>?_,p8.dist,p8.wr⟩
            obtain⟨u,e1,e2,e3,e4⟩:=p8.each dd hd;have:=hdq dd hd u e1;exact⟨u,e1,e2,e3,(ht45.blk u (by omega)).trans e4⟩
          · by_cases e:boxes.contains i=true
            · rw[hnm i e] at hv;cases hv
            · exact hs4.nm i v (by show (if boxes.contains i then some (ρ' i) else E.nm i)=_;rw[if_neg e];exact hv) (by rw[hblkT i hi];exact hi)
        have fin5:∃C',J (k+1) C' w5∧Kept C w' w5∧∀b,C' b→C b∨w'.heap.size≤b:=by
         refine⟨(fun b=>(C0 b∨xL (T (k+1)) ρ4 b)∨b=l),⟨I4,ρ4,hs5,fun b j hi=>hsubI b j (.inl (h2 b j hi)),?_,by simp[w5,hl4],(ht45.blk D (by simp[D,l])).trans p7,fun _=>Iff.rfl⟩,⟨?_,fun b hlt hn=>?_⟩,?_⟩
         · rw[ht45.size];exact Nat.le_trans h3 p3.size
         · rw[ht45.size];exact p3.size
         · by_cases e:b=l
           · exact absurd ((h6 b).2 (.inr e)) hn
           · refine(ht45.blk b e).trans (p3.blk b hlt ?_)
             rintro (hc | hc)
             · exact hn ((h6 b).2 (.inl (.inr hc)))
             · exact e hc
         · rintro b ((hc | ⟨id,hi,hb⟩) | rfl)
           · exact .inl ((h6 b).2 (.inl (.inl hc)))
           · rcases (hs4.blt id b (by rw[hblkT id hi];exact hi) hb).1 with m | m
             · exact .inl ((h6 b).2 (.inl (.inr m.1)))
             · exact .inr m
           · exact .inl ((h6 _).2 (.inr rfl))
        unfold z73 at hK4;cases hgo:goF out xs.length k with
        | true=>
          rw[hgo] at hK4;have hst:zKD out xs.length (k+1)=false:=by unfold goF at hgo;cases h:zKD out xs.length (k+1) with | false=>rfl | true=>rw[h] at hgo;cases hgo
          cases e with
          | normal=>exact⟨.bool true,w5,by simp[Instr.endRound,Instr.getLoop,getObj,setObj,Sem.run,p5,lpb,rec0,w5,recK,hst],rfl,fin5⟩
          | _=>exact hK4.elim
        | false=>
          rw[hgo] at hK4;have hst:zKD out xs.length (k+1)=true:=by unfold goF at hgo;cases h:zKD out xs.length (k+1) with | true=>rfl | false=>rw[h] at hgo;cases hgo
          obtain⟨rfl,_⟩:=hK4;rcases hout with h0 | ⟨h0,_⟩
          · subst h0;cases hst
          · cases e with
            | ret=>exact⟨.bool false,w5,by simp[Instr.endRound,Instr.getLoop,getObj,setObj,Sem.run,p5,lpb,rec0,w5,recK,hst,recD,zZX],rfl,fin5⟩
            | exit id=>exact⟨.bool false,w5,by simp[Instr.endRound,Instr.getLoop,getObj,setObj,Sem.run,p5,lpb,rec0,w5,recK,hst,recD,zZX],rfl,fin5⟩
            | _=>cases h0
    | _=>exact hK2.elim
  · -- behind the loop
    rintro e w' ⟨rfl,C',I',ρ',h1,h2,h3,h4,h5,h6⟩
    let w4:World:={w' with heap:=w'.heap.setIfInBounds l (.loop {recK xs.length with state:= .exhausted})}
    have hl2:l<w'.heap.size:=(Array.getElem?_eq_some_iff.1 h4).1;have ht:Turned l w' w4:=⟨rfl,rfl,rfl,by simp[w4],fun q hq=>Array.getElem?_setIfInBounds_ne (fun e=>hq e.symm),fun o hc=>(by rw[h4] at hc;cases hc;rfl),fun o hc=>(by simp[w4,hl2] at hc;subst hc;rfl)⟩
    have post:z7U E K out {a with defers:={target:= .collected D,args:= #[]}::a.defers} w4:=by
      have hfr4:=E.turn hE _ _ _ _ _ h1.frame (by have:=E.size _ _ _ hs.frame;omega) ht (ht.same _)
      have hs4:=h1.turn ht (fun dd hd e=>by have:=hdq dd hd l e;omega) hfr4
      refine⟨S0 xs.length,hK,I',ρ',C0,⟨hs4.tmps,hs4.blks,hs4.dist,hs4.frame,hs4.sub,hs4.old,hs4.size,⟨?_,?_,fun _=>hE⟩,hs4.cI,hs4.cB,hs4.nm⟩⟩
      · intro dd hd
        rcases List.mem_cons.1 hd with rfl | hd
        · refine⟨D,rfl,by have:=E.size _ _ _ hs.frame;omega,fun hc=>?_,(ht.blk D (by simp[D,l])).trans h5⟩
          have:=E.csize _ _ _ hs.frame D hc;omega
        · exact hs4.defers.each dd hd
      · refine List.pairwise_cons.2 ⟨fun dd hd q hq hq2=>?_,hs4.defers.dist⟩
        cases hq;have:=hdq dd hd D hq2;omega
    rcases hout with h0 | ⟨h0,_⟩
    · subst h0
      exact⟨none,w4,by simp[Instr.endLoop,Instr.getLoop,getObj,setObj,Sem.run,h4,rec0,w4,recK,zKD],post⟩
    · have hst:zKD out xs.length xs.length=true:=by
        cases out with
        | normal=>cases h0
        | _=>exact Nat.beq_refl _
      cases out with
      | ret=>exact⟨some .ret,w4,by simp[Instr.endLoop,Instr.getLoop,getObj,setObj,Sem.run,h4,rec0,w4,recK,hst,recD,zZX],wpIn_ret post⟩
      | exit id=>exact⟨some (.exit id),w4,by simp[Instr.endLoop,Instr.getLoop,getObj,setObj,Sem.run,h4,rec0,w4,recK,hst,recD,zZX],wpIn_exit post⟩
      | _=>cases h0
theorem zQ8 {P:Program} {E:Env} {S:AState} {g:Operand} {ps:List Tmp} {assign body:Code} {f:FuncId} {caps:List DV} {xs:List (List DV)} {K:Exit→AState→Prop}
  (keep:List (Nat×AV)) (boxes:List Nat) (T:Nat→List (Nat×Blk)) (hg:S.ev g= .d (.fn f caps)) (hit:zQ6 P f caps xs) (hE:E.wrB=true) (hgi:∀k k' C w,E.fr k C w→E.fr k' C w)
  (hkeep:Cov S keep) (hT0:zMD S (T 0)) (hko:zHR boxes keep=true) (hun:∀k,zQ7 (T k)=true) (hbx:∀k id,boxes.contains id=true→look Blk.none (T k) id≠ .none) (hnm:∀id,boxes.contains id=true→E.nm id=none)
  (hps:∀x∈xs,ps.length=x.length) (hpn:∀p∈ps,p<E.n)
  (round:∀w1 Iall X C0 ρ0 defs l D lp1 lp2 hok k x,xs[k]? =some x→
   Avc P (some l) (Env.rnd E w1 Iall X C0 boxes ρ0 defs l D lp1 hok) assign (z99 P l (Env.rnd E w1 Iall X C0 boxes ρ0 defs l D lp2 hok) body (yAA (T (k+1)))) ⟨zZW ps x++keep,T k⟩)
  (hK:K .normal ⟨keep,T xs.length⟩) (hG:E.gdt=uO P:=by rfl):Avc P none E (.rangeFunc g ps.toArray assign body) K S:=
 zW4 .normal keep boxes T hg (.inl rfl) hit hE hgi hkeep hT0 hko hun hbx hnm hps hpn round hK hG
end Go.AV
namespace Go.AV
open Go.RowKit
section
variable {P:Program} {r:Option Nat} {E:Env} {S:AState} {d:Nat} {ty:TypeId} {pos:String} {af:Array Edge} {g:Option (Nat×Bool)}
theorem SatAt.rebox {a:Act} {w:World} {I:Im} {ρ:Nat→Value} {C:Nat→Prop} (h:SatAt E S a w I ρ C) {bid eb:Nat} {cells cells':List AV} (hb:S.blk bid= .box eb cells) (hc:∀xs:List Value,Pw (Holds w I ρ) xs cells→Pw (Holds w I ρ) xs cells'):
  SatAt E (S.setBlk bid (.box eb cells')) a w I ρ C:=by
 have hne:S.blk bid≠ .none:=by rw[hb];simp
 have key:∀i,(S.setBlk bid (.box eb cells')).blk i≠ .none→S.blk i≠ .none:=by
  intro i hi;rw[jB] at hi;by_cases e:bid=i
  ·subst e;exact hne
  ·simpa[e] using hi
 refine⟨h.tmps,fun i=>?_,fun i i' b hn hi hi'=>h.dist i i' b hn (key i hi) (key i' hi'),h.frame,h.sub,h.old,h.size,h.defers,h.cI,fun i b hi hb'=>h.cB i b (key i hi) hb',fun i v hv hi=>h.nm i v hv (key i hi)⟩;rw[jB];by_cases e:bid=i
 ·subst e
  simp only[if_true];have hk:=h.blks bid;rw[hb] at hk;obtain⟨b,arr,hρ,hM,hh,h1,hpw,hI⟩:=hk;exact⟨b,arr,hρ,hM,hh,h1,hc _ hpw,hI⟩
 ·simp only[e,if_false];exact h.blks i
theorem Pw.set_right {α β:Type} {R: α→β→Prop} {xs:List α} {ys:List β} (h:Pw R xs ys) {off:Nat} {y y': β} (hy:ys[off]? =some y) (hR:∀x,R x y→R x y'):Pw R xs (ys.set off y'):=by refine⟨by simp[h.1],fun j u v hu hv=>?_⟩;rw[List.getElem?_set] at hv;by_cases e:off=j;subst e;by_cases hl:off<ys.length;simp[hl] at hv;subst hv;exact hR u (h.2 off u y hu hy);simp[hl] at hv;simp[e] at hv;exact h.2 j u v hu hv
theorem zLC {bid eb off:Nat} {cells:List AV} (rid e size:Nat) (hp:0<size) (hne:rid≠bid) (hnm:E.nm rid=none) (hb:S.blk bid= .box eb cells) (hc:(cells.map (zEA rid))[off]? =some (.d (.v (.slice none 0 0)))):
  zGG E S (((S.kill rid).setBlk rid (.row e size false [])).setBlk bid (.box eb ((cells.map (zEA rid)).set off (.row rid)))):=by
 rintro a w ⟨I,ρ,C,h⟩
 have h2:=h.update (World.grownBy.refl w none) (id:=rid) (u:= .slice none 0 0) (x:= .row e size false []) (by simp) (xB I w) (by simp[blockOf])
  ⟨⟨hp,by simp[upd,Value.ownBlock]⟩,0,[],by simp,by simp only[upd,if_true];exact World.ownsRow_nil w _ e size,by simp,Pw.nil,by simp[upd,Value.ownBlock]⟩ (.inl rfl) hnm
 refine⟨I,_,C,h2.rebox (eb:=eb) (cells:=cells.map (zEA rid)) ?_ fun xs hx=>hx.set_right hc fun x hx2=>?_⟩
 ·rw[jB,if_neg hne,zGD,hb];rfl
 ·have hx3:Rep w I x (.v (.slice none 0 0)):=hx2
  cases hx3;simp[Holds,upd]
theorem zSG {bid eb off rid e size:Nat} {sh:Bool} {cells:List AV} {rc:List DV} (hb:S.blk bid= .box eb cells) (hc:cells[off]? =some (.row rid)) (hr:S.blk rid= .row e size sh rc):
  zGG E S ((S.setBlk rid (.row e size true rc)).setBlk bid (.box eb (cells.set off (.d (.sl size rc))))):=by
 rintro a w ⟨I,ρ,C,h⟩
 have hne:rid≠bid:=by rintro rfl;rw[hb] at hr;cases hr
 obtain⟨I',h1,h2,h3⟩:=h.shareRow hr;refine⟨I',ρ,C,h2.rebox (eb:=eb) (cells:=cells) (by rw[jB,if_neg hne];exact hb) fun xs hx=>hx.set_right hc fun x hx2=>?_⟩
 have hx3:x= ρ rid:=hx2;rw[hx3];exact h3
theorem zGH {t rid e size:Nat} {sh:Bool} {rc:List DV} (hn:t<E.n) (ht:S.get t= .row rid) (hr:S.blk rid= .row e size sh rc):zGG E S ((S.setBlk rid (.row e size true rc)).put t (.d (.sl size rc))):=by
 rintro a w ⟨I,ρ,C,h⟩
 obtain⟨I',h1,h2,h3⟩:=h.shareRow hr;refine⟨I',ρ,C,⟨fun u=>?_,h2.blks,h2.dist,by rw[zDA _ _ hn];exact h2.frame,h2.sub,h2.old,h2.size,h2.defers,h2.cI,h2.cB,h2.nm⟩⟩
 rw[zBD];by_cases e:t=u;subst e;simp only[if_true];have:=h.tmps t;rw[ht] at this;have hv:a.tmps.getD t undef= ρ rid:=this;rw[hv];exact h3;simp only[e,if_false];exact h2.tmps u
theorem zIG {t:Nat} (size:Nat) (hn:t<E.n) (ht:S.get t= .d (.v (.slice none 0 0))):zGG E S (S.put t (.d (.sl size []))):=by
 rintro a w ⟨I,ρ,C,h⟩
 refine⟨I,ρ,C,⟨fun u=>?_,h.blks,h.dist,by rw[zDA _ _ hn];exact h.frame,h.sub,h.old,h.size,h.defers,h.cI,h.cB,h.nm⟩⟩
 rw[zBD];by_cases e:t=u;subst e;simp only[if_true];have:=h.tmps t;rw[ht] at this;generalize a.tmps.getD t undef=v at this ⊢;have h':Rep w I v (.v (.slice none 0 0)):=this;cases h';exact .nil _ _ _;simp only[e,if_false];exact h.tmps u
theorem AOp.int {o:Oper} {k:IntKind} {a b:Int} (h:AOp P r E S o d (.d (.v (.int k a)))) (e:a=b):AOp P r E S o d (.d (.v (.int k b))):=e▸h
theorem AOp.data {o:Oper} {a b:DV} (h:AOp P r E S o d (.d a)) (e:a=b):AOp P r E S o d (.d b):=e▸h
theorem AOp.bool {o:Oper} {a b:Bool} (h:AOp P r E S o d (.d (.v (.bool a)))) (e:a=b):AOp P r E S o d (.d (.v (.bool b))):=e▸h
theorem zIH {t u:Nat} {x y:DV} (h1:S.dv (S.get t).un=some x) (h2:S.dv (S.get u).un=some y):RetS P S [.tmp t,.tmp u] [x,y]:=⟨_,_,rfl,h1,_,_,rfl,h2,rfl⟩
end
end Go.AV
namespace Go.AV
open Go.RowKit
structure DrawOkF (l:List Oper) (N:Nat):Prop where
 pos:1≤N
 lt:N<l.length
 aft:∀i o,l[i]? =some o→∀j∈aft o,j<i
 looks:∀i o,i<N→i≠0→l[i]? =some o→∀t∈o.looksAt l.toArray,∀j,j<N→j≠0→j≠i→dstAt l j=some t→if j<i then Reach l i j else Reach l j i
 free:∀i o,i<N→l[i]? =some o→∀t∈o.looksAt l.toArray,∀j,j<N→i=0∨j=0→dstAt l j≠some t
 dist:∀i o,i<N→l[i]? =some o→∀j,j<N→j≠i→dstAt l j≠o.dst
 tail:∀i o,N≤i→l[i]? =some o→∀j,j<i→¬(i=N∧j=0)→Reach l i j
end Go.AV
namespace Go.AV
open Go.RowKit
theorem zOS {P:Program} {tx:TypeId} (hu:P.underlying tx=some .bool) (a b:Bool) (w:World):(Op.equal tx (.bool a) (.bool b)).run P w= .ok (a==b) w:=by show (Op.equalIn (9999+1) tx (.bool a) (.bool b)).run P w=_;unfold Op.equalIn;simp only[Sem.run_bind,run_underlying hu,Result.andThen_ok];rfl
section
variable {P:Program} {r:Option Nat} {E:Env} {S:AState} {d:Nat} {ty:TypeId} {pos:String} {af:Array Edge} {g:Option (Nat×Bool)}
theorem z74 {x y:Operand} {a b:Bool} {tx tz:TypeId} (hn:d<E.n) (hu:P.underlying tx=some .bool) (hx:S.ev x= .d (.v (.bool a))) (hy:S.ev y= .d (.v (.bool b))):
  AOp P r E S ⟨some d,.binOp .eql tx x y tz,ty,pos,af,g⟩ d (.d (.v (.bool (a==b)))):=
 ⟨rfl,hn,fun _ h=>jQ rfl hn (by simp) fun A w I ρ C hs=>by
  simp only[execOp,hs.val ((h.ev (by simp[Op.operands])).trans hx),hs.val ((h.ev (by simp[Op.operands])).trans hy)];have hb:binOp .eql tx (.bool a) (.bool b)=(do pure (.bool (←Op.equal tx (.bool a) (.bool b)))):=rfl;have hg:eqGuard .eql tx x y (.bool a) (.bool b)=pure ():=rfl;rw[hb,hg];simp only[Sem.run_bind,Sem.run_pure,Result.andThen_ok,zOS hu]⟩
end
end Go.AV
namespace Go.AV
open Go.RowKit
structure FldTy (P:Program) (s k off n:Nat) (t:TypeId):Prop where
 fld:∃fields f,P.underlying s=some (.struct fields)∧fields[k]? =some f∧f.offset=off∧f.type=t
 size:∀w,(sizeOf t).run P w= .ok n w
 pos:0<n
theorem zJF {P:Program} {s k off n:Nat} {t:TypeId} (h:FldTy P s k off n t) (w:World) (b o:Nat):
  (Instr.fieldAt s (.pointer (some ⟨b,o,none⟩)) k).run P w= .ok (.pointer (some ⟨b,o+off,none⟩)) w:=by
 obtain⟨fields,f,hu,hf,rfl,rfl⟩:=h.fld;have hp:=h.pos;have hs:=h.size w;have hne:¬n=0:=by omega
 have hadd:(⟨b,o,none⟩:Addr).add f.offset=⟨b,o+f.offset,none⟩:=by
  unfold Addr.add;split
  ·rename_i e;rw[e];rfl
  ·rfl
 simp[Instr.fieldAt,run_underlying hu,hf,Instr.sureAddr,fieldPlace,hs,hne,hadd]
theorem zUS {w:World} {I:Im} {ρ:Nat→Value} {cells:List AV} {ds:List DV} {xs:List Value} (hpw:Pw (Holds w I ρ) xs cells) (hd:unD cells=some ds):Reps w I xs ds:=by
 induction cells generalizing xs ds with
 | nil=>simp[unD] at hd;subst hd;have:xs= []:=List.eq_nil_of_length_eq_zero hpw.1;subst this;exact Pw.nil
 | cons c cells ih=>
  cases xs with
  | nil=>have:=hpw.1;simp at this
  | cons x xs=>
   cases c with
   | d y=>
    simp only[unD] at hd;cases hu:unD cells with
    | none=>simp[hu] at hd
    | some ys=>
     simp[hu] at hd;subst hd;exact Pw.cons (hpw.2 0 x (.d y) rfl rfl) (ih ⟨by have:=hpw.1;simpa using this,fun j u z hu hz=>hpw.2 (j+1) u z (by simpa using hu) (by simpa using hz)⟩ hu)
   | _=>simp[unD] at hd
theorem yAB {w:World} {I:Im} {ρ:Nat→Value} {ds:List DV} {xs:List Value} (h:Reps w I xs ds):Pw (Holds w I ρ) xs (ds.map AV.d):=by refine⟨by rw[h.1,List.length_map],fun j x c hx hc=>?_⟩;simp only[List.getElem?_map,Option.map_eq_some_iff] at hc;obtain⟨y,hy,rfl⟩:=hc;exact h.2 j x y hx hy
section
variable {P:Program} {r:Option Nat} {E:Env} {S:AState} {d:Nat} {ty:TypeId} {pos:String} {af:Array Edge} {g:Option (Nat×Bool)}
theorem xF {s k off n id o:Nat} {t:TypeId} {x:Operand} (hn:d<E.n) (hT:FldTy P s k off n t) (hx:S.ev x= .ptr id o):
  AOp P r E S ⟨some d,.fieldAddr s x k,ty,pos,af,g⟩ d (.ptr id (o+off)):=
 ⟨rfl,hn,fun S' ha=>kC rfl hn (by simp) fun A w I ρ C hs=>by
  have h:=hs.ev x;rw[(ha.ev (by simp[Op.operands])).trans hx] at h;obtain⟨b,hρ,hv⟩:=h;refine⟨.pointer (some ⟨b,o+off,none⟩),?_,b,hρ,rfl⟩;simp only[execOp,hv,Sem.run_bind,zJF hT w b o];rfl⟩
theorem zQ {s k off n o:Nat} {t:TypeId} {x:Operand} {cells:List DV} (hn:d<E.n) (hT:FldTy P s k off n t) (hx:S.ev x= .ip cells o):
  AOp P r E S ⟨some d,.fieldAddr s x k,ty,pos,af,g⟩ d (.ip cells (o+off)):=
 ⟨rfl,hn,fun S' ha=>kC rfl hn (by simp) fun A w I ρ C hs=>by
  have h:=hs.ev x;rw[(ha.ev (by simp[Op.operands])).trans hx] at h;obtain⟨b,o',xs,hv,hr,h1,hcc⟩:=h;refine⟨.pointer (some ⟨b,o'+(o+off),none⟩),?_,b,o',xs,rfl,hr,h1,hcc⟩;simp only[execOp,hv,Sem.run_bind,zJF hT w b (o'+o),Nat.add_assoc];rfl⟩
theorem zE5 {t n id eb:Nat} {x:Operand} {cells:List AV} {ds:List DV} (hn:d<E.n) (hT:AggTy P t n) (hx:S.ev x= .ptr id 0) (hb:S.blk id= .box eb cells) (hd:unD cells=some ds) (hl:cells.length=n):
  AOp P r E S ⟨some d,.load t x,ty,pos,af,g⟩ d (.d (.agg ds)):=
 ⟨rfl,hn,fun S' ha=>kC rfl hn (by simp) fun A w I ρ C hs=>by
  have h:=hs.ev x;rw[(ha.ev (by simp[Op.operands])).trans hx] at h;obtain⟨b,hρ,hv⟩:=h;have hbk:=hs.blks id;rw[(ha.blk id).trans hb] at hbk;obtain⟨b',arr,hρ',hB,hh,h1,hr,hI⟩:=hbk;rw[hρ'] at hρ;simp[blockOf] at hρ;subst hρ;have hreps:Reps w I arr.toList ds:=zUS hr hd;have hlen:arr.toList.length=n:=by rw[hr.1];exact hl
  refine⟨.agg arr.toList.toArray,?_,.agg _ _ hreps.1 (fun u hu=>h1 u hu) hreps.2⟩;simp only[execOp,hv,Sem.run_bind];rw[zCR w hT b' 0 arr.toList hlen (fun j v hj=>by rw[cell_of_row w b' _ arr eb (0,0) hh];simpa using hj)]
  rfl⟩
theorem zZY {elem:TypeId} {x:Operand} {ds:List DV} (hn:d<E.n) (hx:S.ev x= .d (.agg ds)) (hnm:E.nm d=none):
  j9 P r E ⟨some d,.box elem x,ty,pos,af,g⟩ S (((S.kill d).setBlk d (.box elem (ds.map AV.d))).put d (.ptr d 0)):=
 zDL (by simp) fun A w I ρ C hs=>by
  have h:=hs.ev x;rw[hx] at h;have h':Rep w I (A.eval x) (.agg ds):=h;generalize hv:A.eval x=v at h';cases h' with
  | agg xs cells hlx h1 hr=>
   have hb:=hs.newBox (id:=d) (e:=elem) (arr:=xs.toArray) (cells:=ds.map AV.d) (yAB ⟨hlx,hr⟩) (by simpa using h1) hnm;have hkill:(ds.map AV.d).map (zEA d)=ds.map AV.d:=by
    rw[List.map_map];rfl
   rw[hkill] at hb;refine⟨.pointer (some ⟨w.heap.size,0,none⟩),w.alloc (.cells xs.toArray elem),?_,I,_,C,hb.put hn (show Holds _ _ _ (.pointer (some ⟨w.heap.size,0,none⟩)) (AV.ptr d 0) from ⟨w.heap.size,by simp[upd,blockOf],rfl⟩)⟩;simp only[execOp,hv,Instr.box,newVar];simp[newRow,Value.cells]
theorem zSH {s k off:Nat} {t:TypeId} {x:Operand} {cells:List DV} {y:DV} (hn:d<E.n) (hT:FldTy P s k off 1 t) (h1:OneTy P t) (hx:S.ev x= .d (.agg cells)) (hc:cells[off]? =some y):
  AOp P r E S ⟨some d,.field s x k,ty,pos,af,g⟩ d (.d y):=
 ⟨rfl,hn,fun S' ha=>kC rfl hn (by simp) fun A w I ρ C hs=>by
  have h:=hs.ev x;rw[(ha.ev (by simp[Op.operands])).trans hx] at h;have h':Rep w I (A.eval x) (.agg cells):=h;generalize hv:A.eval x=v at h';cases h' with
  | agg xs cells hlx ho hr=>
   obtain⟨fields,f,hu,hf,rfl,rfl⟩:=hT.fld;have hlt:f.offset<xs.length:=by rw[hlx];exact(List.getElem?_eq_some_iff.1 hc).1
   have hxe:=List.getElem?_eq_getElem hlt;refine⟨xs[f.offset],?_,hr f.offset _ y hxe hc⟩;simp[execOp,hv,Instr.field,run_underlying hu,hf,asAgg,part,h1.agg,hlt]⟩
end
end Go.AV
namespace Go.AV
open Go.RowKit
def zOT (w:World):Im:=fun b _=>b<w.heap.size
theorem z48 {P:Program} {f:FuncId} {ds:List DV} (hc:zU P f ds [.v (.bool true)]) {w:World} {vs:List Value} (hG:GlI (uO P) w (zOT w)) (hr:Reps w (zOT w) vs ds):
  Calls P f vs.toArray w fun e w'=>e= .returned (.bool true)∧Below w.heap.size w w':=by
 refine(hc.2 w (zOT w) vs (fun _ _ h=>h) hG hr).mono ?_
 rintro e w' ⟨v,I',rfl,hb,_,_,hret⟩
 refine⟨?_,hb⟩;have h:Rep w' I' v (.v (.bool true)):=hret;cases h;rfl
theorem z1W (w:World) (I:Im):Reps w I [] []:=Pw.nil
theorem zQ9 {w:World} {I:Im} {v:Value} {vs:List Value} {d:DV} {ds:List DV} (h:Rep w I v d) (hs:Reps w I vs ds):Reps w I (v::vs) (d::ds):=by
 refine⟨by simp[hs.1],fun j x y hx hy=>?_⟩;cases j with
 | zero=>simp at hx hy;subst hx;subst hy;exact h
 | succ j=>exact hs.2 j x y (by simpa using hx) (by simpa using hy)
end Go.AV
namespace Go.AV
theorem lq {a b:Nat} (h:Nat.ble a b=true):a≤b:=Nat.le_of_ble_eq_true h
end Go.AV
namespace Go.M
abbrev Str:=List UInt8
def kV {α:Type} (l:List α) (i:Int):Option α:=if 0≤i then l[i.toNat]? else none
def zBE {α:Type} (l:List α) (i:Int) (x: α):Option (List α):=if 0≤i∧i.toNat<l.length then some (l.set i.toNat x) else none
def slc {α:Type} (l:List α) (lo hi:Int):Option (List α):=if 0≤lo∧lo≤hi∧hi.toNat≤l.length then some ((l.take hi.toNat).drop lo.toNat) else none
def LIM:Nat:=4294967296
def app {α:Type} (l m:List α):Option (List α):=if l.length+m.length≤LIM then some (l++m) else none
def mkM {α:Type} (z: α) (n:Int):Option (List α):=if 0≤n∧n.toNat≤LIM then some (List.replicate n.toNat z) else none
def gM {α:Type} [Inhabited α] (g:Bool) (m:Option α):Option α:=cond g m (some default)
def pv {α:Type} (x: α):Option α:=some x
def zME (k:Int→Int) (a b:Int):Option Int:=if b=0 then none else some (k (a.tdiv b))
def zI3 (a b:Int):Option Int:=if b=0 then none else some (a.tmod b)
def zSI (s:Str) (i:Int):Option Int:=(kV s i).map fun b=>(b.toNat:Int)
def mget {κ ν:Type} [DecidableEq κ] (m:List (κ×ν)) (k: κ):Option ν:=match m with
 | []=>none
 | (k',v)::r=>if k=k' then some v else mget r k
def wD {κ ν:Type} [DecidableEq κ] (m:List (κ×ν)) (k: κ) (v: ν):List (κ×ν):=match m with
 | []=>[(k,v)]
 | (k',v')::r=>if k=k' then (k,v)::r else (k',v')::wD r k v
def xI {κ ν:Type} [DecidableEq κ] (m:List (κ×ν)) (k: κ) (z: ν): ν:=(mget m k).getD z
def wK {κ ν:Type} [DecidableEq κ] (m:List (κ×ν)) (k: κ):Bool:=(mget m k).isSome
inductive Stp (X Y:Type) where
 | next (x:X)
 | done (y:Y)
def iter {X Y:Type} (body:X→Option (Stp X Y)):Nat→X→Option Y
 | 0,_=>none
 | n+1,x=>match body x with
  | none=>none
  | some (.next x')=>iter body n x'
  | some (.done y)=>some y
theorem zRA {X Y:Type} {body:X→Option (Stp X Y)} {y:Y}:∀{n m:Nat} {x:X},n≤m→iter body n x=some y→iter body m x=some y:=by
 intro n
 induction n with
 | zero=>intro m x _ h;cases h
 | succ n ih=>
  intro m x hm h;cases m with
  | zero=>omega
  | succ m=>
   simp only[iter] at h ⊢;cases hb:body x with
   | none=>rw[hb] at h;cases h
   | some s=>
    rw[hb] at h;cases s with
    | next x'=>exact ih (by omega) h
    | done y'=>exact h
open Classical in
noncomputable def zX {X Y:Type} (body:X→Option (Stp X Y)) (x:X):Option Y:=
 if h:∃n y,iter body n x=some y then some (Classical.choose (Classical.choose_spec h)) else none
theorem zII {X Y:Type} {body:X→Option (Stp X Y)} {x:X} {y:Y}:zX body x=some y↔∃n,iter body n x=some y:=by
 unfold zX;constructor;intro h;split at h;rename_i hx;have:=Classical.choose_spec (Classical.choose_spec hx);cases h;exact⟨_,this⟩;cases h
 rintro⟨n,hn⟩
 have hx:∃n y,iter body n x=some y:=⟨n,y,hn⟩;rw[dif_pos hx];have h2:=Classical.choose_spec (Classical.choose_spec hx);have h3:=zRA (Nat.le_max_left (Classical.choose hx) n) h2;have h4:=zRA (Nat.le_max_right (Classical.choose hx) n) hn;rw[h3] at h4;exact h4
theorem j6 {X Y:Type} (body:X→Option (Stp X Y)) (x:X):zX body x=match body x with
  | none=>none
  | some (.next x')=>zX body x'
  | some (.done y)=>some y:=by
 apply Option.ext;intro y;rw[zII];constructor
 ·rintro⟨n,hn⟩
  cases n with
  | zero=>cases hn
  | succ n=>
   simp only[iter] at hn;cases hb:body x with
   | none=>rw[hb] at hn;cases hn
   | some s=>
    rw[hb] at hn;cases s with
    | next x'=>exact zII.2 ⟨n,hn⟩
    | done y'=>exact hn
 ·intro h
  cases hb:body x with
  | none=>rw[hb] at h;cases h
  | some s=>
   rw[hb] at h;cases s with
   | next x'=>
    obtain⟨n,hn⟩:=zII.1 h;exact⟨n+1,by simp only[iter,hb];exact hn⟩
   | done y'=>exact⟨1,by simp only[iter,hb];exact h⟩
theorem bE {α β:Type} {o:Option α} {f: α→Option β} {b: β} (h:o.bind f=some b):∃a,o=some a∧f a=some b:=Option.bind_eq_some_iff.1 h
theorem cT {α:Type} {c:Bool} {A B:Option α} {r:Option α} (hc:c=true) (h:cond c A B=r):A=r:=by subst hc;exact h
theorem cF {α:Type} {c:Bool} {A B:Option α} {r:Option α} (hc:c=false) (h:cond c A B=r):B=r:=by subst hc;exact h
theorem eL {α β γ:Type} {f: α→γ} {g: β→γ} {y: α} {r: γ} (h:Sum.elim f g (Sum.inl y)=r):f y=r:=h
theorem eR {α β γ:Type} {f: α→γ} {g: β→γ} {y: β} {r: γ} (h:Sum.elim f g (Sum.inr y)=r):g y=r:=h
end Go.M
namespace Go.AV
open Go.RowKit
structure Frag (w:World) (I:Im) (ρ:Nat→Value) (T:List (Nat×Blk)):Prop where
 ok:∀id,BlkOk w I ρ (fun _=>True) id (look Blk.none T id)
 dist:∀id id' b,id≠id'→look Blk.none T id≠ .none→look Blk.none T id'≠ .none→blockOf (ρ id)=some b→blockOf (ρ id')≠some b
def z75 (w:World) (I:Im) (ρ:Nat→Value) (v:Value):List Cap→Prop
 | [x]=>HoldsC w I ρ v x
 | xs=> ∃ys,v= .tuple ys.toArray∧Pw (HoldsC w I ρ) ys xs
def GC (P:Program) (f:FuncId) (args:List Cap) (T:List (Nat×Blk)) (keep:List Nat) (rets:List Cap) (T':List (Nat×Blk)):Prop:=
 (∃fn,P.funcs[f]? =some fn∧(fn.name== "runtime.NumGoroutine")=false∧fn.body.isNone=false)∧
 ∀(w:World) (I:Im) (ρ:Nat→Value) (vs:List Value),(∀b j,I b j→b<w.heap.size)→GlI (uO P) w I→Frag w I ρ T→Pw (HoldsC w I ρ) vs args→
  Calls P f vs.toArray w fun e w'=> ∃v I' ρ',e= .returned v∧Chg w w' (xL T ρ)∧Same I w w'∧(∀b j,I b j→I' b j)∧
   (∀b j,I' b j→b<w'.heap.size∧(I b j∨w.heap.size≤b∨xL T ρ b))∧Frag w' I' ρ' T'∧z75 w' I' ρ' v rets∧
   (∀b,xL T' ρ' b→b<w'.heap.size∧(w.heap.size≤b∨xL T ρ b))∧(∀id,keep.contains id=true→look Blk.none T' id≠ .none→ρ' id= ρ id)
def GCA (P:Program) (f:FuncId) (args:List Cap) (T:List (Nat×Blk)) (keep:List Nat) (ret:AV) (T':List (Nat×Blk)):Prop:=
 (∃fn,P.funcs[f]? =some fn∧(fn.name== "runtime.NumGoroutine")=false∧fn.body.isNone=false)∧
 ∀(w:World) (I:Im) (ρ:Nat→Value) (vs:List Value),(∀b j,I b j→b<w.heap.size)→GlI (uO P) w I→Frag w I ρ T→Pw (HoldsC w I ρ) vs args→
  Calls P f vs.toArray w fun e w'=> ∃v I' ρ',e= .returned v∧Chg w w' (xL T ρ)∧Same I w w'∧(∀b j,I b j→I' b j)∧
   (∀b j,I' b j→b<w'.heap.size∧(I b j∨w.heap.size≤b∨xL T ρ b))∧Frag w' I' ρ' T'∧Holds w' I' ρ' v ret∧
   (∀b,xL T' ρ' b→b<w'.heap.size∧(w.heap.size≤b∨xL T ρ b))∧(∀id,keep.contains id=true→look Blk.none T' id≠ .none→ρ' id= ρ id)
def Cap.av:Cap→AV
 | .top=> .top
 | .d x=> .d x
 | .ptr i o=> .ptr i o
 | .row i=> .row i
theorem Cap.holds {w:World} {I:Im} {ρ:Nat→Value} {v:Value} {c:Cap} (h:HoldsC w I ρ v c):Holds w I ρ v c.av:=by cases c<;>exact h
def zKE:List Cap→Nat→List (Nat×AV)
 | [],_=>[]
 | x::r,k=>(k,x.av)::zKE r (k+1)
theorem zW6 (cs:List Cap):∀(k t:Nat),(k≤t∧∃x,cs[t-k]? =some x∧look AV.top (zKE cs k) t=x.av)∨look AV.top (zKE cs k) t= .top:=by
 induction cs with
 | nil=>intro k t;exact .inr rfl
 | cons x ds ih=>
  intro k t;simp only[zKE,k8];by_cases e:k=t;subst e;simp;simp only[e,if_false];rcases ih (k+1) t with ⟨h1,y,hy,hl⟩ | h
  refine .inl ⟨by omega,y,?_,hl⟩;have:t-k=(t-(k+1))+1:=by omega
  rw[this];simpa using hy;exact .inr h
theorem Chg.refl (w:World) (O:Nat→Prop):Chg w w O:=⟨rfl,rfl,rfl,Nat.le_refl _,fun _ _ _=>rfl⟩
def Env.gen (gdt:Nat→Option (List Value)) (w0:World) (I0:Im) (hG:GlI gdt w0 I0) (ρ0:Nat→Value) (T:List (Nat×Blk)) (keep:List Nat) (n:Nat) (hn:n≤1000000):Env where
 B:=w0.heap.size
 I0:=I0
 n:=n
 fr:=fun _ C w=>(Chg w0 w (xL T ρ0)∧Same I0 w0 w)∧(∀b j,I0 b j→b<w0.heap.size)∧∀b,¬C b
 wrB:=true
 nle:=hn
 mine:=fun b=>w0.heap.size≤b∨xL T ρ0 b
 mineB:=fun _ h=> .inl h
 nm:=fun id=>if keep.contains id then some (ρ0 id) else none
 size:=fun _ _ _ h=>h.1.1.size
 csize:=fun _ _ _ h b hb=>absurd hb (h.2.2 b)
 grow:=fun _ _ w w' h hb=>⟨⟨⟨hb.os.trans h.1.1.os,hb.tape.trans h.1.1.tape,hb.output.trans h.1.1.output,Nat.le_trans h.1.1.size hb.size,fun k hk hne=>(hb.block k (Nat.lt_of_lt_of_le hk h.1.1.size)).trans (h.1.1.block k hk hne)⟩,
  fun b j hi=>(KeepB.of (hb.block b (Nat.lt_of_lt_of_le (h.2.1 b j hi) h.1.1.size))).trans (h.1.2 b j hi)⟩,h.2⟩
 wr:=fun _ _ _ w w' O h hg hr hs=>⟨⟨⟨hg.os.trans h.1.1.os,hg.tape.trans h.1.1.tape,hg.output.trans h.1.1.output,Nat.le_trans h.1.1.size hg.size,fun k hk hne=>(hg.block k (Nat.lt_of_lt_of_le hk h.1.1.size) (fun e=>by
   rcases (hr k e).1 with h1 | h1
   ·omega
   ·exact hne h1)).trans (h.1.1.block k hk hne)⟩,fun b j hi=>(hs b j hi).trans (h.1.2 b j hi)⟩,h.2⟩
 turn:=fun _ _ _ w w' l h hl ht hs=>⟨⟨⟨ht.os.trans h.1.1.os,ht.tape.trans h.1.1.tape,ht.output.trans h.1.1.output,by rw[ht.size];exact h.1.1.size,fun k hk hne=>(ht.blk k (by omega)).trans (h.1.1.block k hk hne)⟩,fun b j hi=>(hs b j hi).trans (h.1.2 b j hi)⟩,h.2⟩
 gdt:=gdt
 gl:=fun _ _ w h g zs hg j=>⟨(h.1.2 g j (hG g zs hg j).2).cell.trans (hG g zs hg j).1,(hG g zs hg j).2⟩
def CapOf:AV→Cap→Prop
 | _,.top=>True
 | av,c=>av=c.av
theorem CapOf.holds {w:World} {I:Im} {ρ:Nat→Value} {v:Value} {av:AV} {c:Cap} (h:CapOf av c) (hv:Holds w I ρ v av):HoldsC w I ρ v c:=by
 cases c with
 | top=>trivial
 | _=>have e:av=_:=h;rw[e] at hv;exact hv
section
variable {P:Program} {r:Option Nat} {E:Env} {S:AState} {d:Nat} {ty:TypeId} {pos:String} {af:Array Edge} {g:Option (Nat×Bool)}
def RetGS (P:Program) (S:AState):List ResultVar→List Cap→Prop
 | [],ys=>ys= []
 | .tmp t::rs,ys=> ∃y zs,ys=y::zs∧CapOf (S.get t).un y∧RetGS P S rs zs
 | .cell a t::rs,ys=> ∃y zs id e cells,ys=y::zs∧(S.get a).un= .ptr id 0∧S.blk id= .box e cells∧
   ((OneTy P t∧∃av,cells= [av]∧CapOf av y)∨(∃ds,AggTy P t cells.length∧unD cells=some ds∧y= .d (.agg ds)))∧RetGS P S rs zs
def yAC (P:Program) (fn:Func) (rets:List Cap) (T':List (Nat×Blk)):Exit→AState→Prop
 | .ret,S | .normal,S=>RetGS P S fn.results.toList rets∧zMD S T'
 | _,_=>False
theorem RetGS.holds {a:Act} {w:World} {I:Im} {ρ:Nat→Value} {C:Nat→Prop} (h:SatAt E S a w I ρ C):∀(l:List ResultVar) (rs:List Cap) (_:RetGS P S l rs),
  ∃xs:List Value,(l.mapM (zOP a.tmps)).run P w= .ok xs w∧Pw (HoldsC w I ρ) xs rs:=by
 intro l
 induction l with
 | nil=>intro rs hr;cases hr;exact⟨[],by simp,Pw.nil⟩
 | cons x l ih=>
  intro rs hr;cases x with
  | tmp t=>
   obtain⟨y,ys,rfl,h1,h2⟩:=hr;obtain⟨xs,hxs,hreps⟩:=ih ys h2;exact⟨_::xs,by simp[List.mapM_cons,zOP,hxs],Pw.cons (h1.holds (h.tmps t).un) hreps⟩
  | cell ad t=>
   obtain⟨y,ys,id,e,cells,rfl,h1,h2,h3,h4⟩:=hr;obtain⟨xs,hxs,hreps⟩:=ih ys h4;have hp:=(h.tmps ad).un;rw[h1] at hp;obtain⟨b,hρ,hv⟩:=hp;have hbk:=h.blks id;rw[h2] at hbk;obtain⟨b',arr,hρ',hB,hh,h1',hpw,hI⟩:=hbk;have hbb:b'=b:=by rw[hρ'] at hρ;simpa[blockOf] using hρ
   subst hbb;have hcell:∀(j:Nat) v,arr.toList[j]? =some v→w.cell? ⟨b',0+j,none⟩=some v:=fun j v hj=>by
    rw[Nat.zero_add,cell_of_row w b' j arr e (0,0) hh];simpa using hj
   rcases h3 with ⟨ho,av,hc,hd⟩ | ⟨ds,ha,hd,rfl⟩
   ·subst hc
    have hlen:=hpw.1
    match harr:arr.toList,hlen with
    | [v0],_=>
     rw[harr] at hpw hcell;refine⟨v0::xs,?_,Pw.cons (hd.holds (hpw.2 0 v0 av rfl rfl)) hreps⟩;have hc0:=hcell 0 v0 rfl;simp only[Nat.add_zero] at hc0;simp[List.mapM_cons,zOP,hv,asAddr,loadVar,ho.agg,run_load,hc0,hxs]
   ·have hrr:=zUS hpw hd
    refine⟨.agg arr.toList.toArray::xs,?_,Pw.cons (.agg _ _ hrr.1 h1' hrr.2) hreps⟩;have hload:=zCR (P:=P) w ha b' 0 arr.toList hpw.1 hcell;simp only[Instr.loadAt,Instr.sureAddr,Sem.run_bind,Sem.run_pure,Result.andThen_ok] at hload;simp only[List.mapM_cons,zOP,hv,asAddr,Sem.run_bind,Sem.run_pure,Result.andThen_ok,hload,hxs]
theorem RetGS.run {a:Act} {w:World} {I:Im} {ρ:Nat→Value} {C:Nat→Prop} {fn:Func} {rs:List Cap} (h:SatAt E S a w I ρ C) (hret:RetGS P S fn.results.toList rs):
  ∃v,(results fn a.tmps).run P w= .ok v w∧z75 w I ρ v rs:=by
 obtain⟨xs,hxs,hreps⟩:=RetGS.holds h _ _ hret;refine⟨_,zJA hxs,?_⟩;have hl:=hreps.1
 match xs,rs,hl,hreps with
 | [],[],_,hr=>exact⟨_,rfl,hr⟩
 | [x],[y],_,hr=>exact hr.2 0 _ y rfl rfl
 | x::u::xs,y::z::ys,_,hr=>exact⟨x::u::xs,by simp,hr⟩
def GCX (P:Program) (f:FuncId) (args:List Cap) (T:List (Nat×Blk)) (keep:List Nat) (R:World→Im→(Nat→Value)→Value→Prop) (T':List (Nat×Blk)):Prop:=
 (∃fn,P.funcs[f]? =some fn∧(fn.name== "runtime.NumGoroutine")=false∧fn.body.isNone=false)∧
 ∀(w:World) (I:Im) (ρ:Nat→Value) (vs:List Value),(∀b j,I b j→b<w.heap.size)→GlI (uO P) w I→Frag w I ρ T→Pw (HoldsC w I ρ) vs args→
  Calls P f vs.toArray w fun e w'=> ∃v I' ρ',e= .returned v∧Chg w w' (xL T ρ)∧Same I w w'∧(∀b j,I b j→I' b j)∧
   (∀b j,I' b j→b<w'.heap.size∧(I b j∨w.heap.size≤b∨xL T ρ b))∧Frag w' I' ρ' T'∧R w' I' ρ' v∧
   (∀b,xL T' ρ' b→b<w'.heap.size∧(w.heap.size≤b∨xL T ρ b))∧(∀id,keep.contains id=true→look Blk.none T' id≠ .none→ρ' id= ρ id)
def z7B (RS:AState→Prop) (T':List (Nat×Blk)):Exit→AState→Prop
 | .ret,S | .normal,S=>RS S∧zMD S T'
 | _,_=>False
theorem z1X {f:FuncId} {fn:Func} {c:Code} {args:List Cap} {T T':List (Nat×Blk)} {keep:List Nat} (R:World→Im→(Nat→Value)→Value→Prop) (RS:AState→Prop) (hRS:∀(E:Env) (S:AState) (a:Act) (w:World) (I:Im) (ρ:Nat→Value) (C:Nat→Prop),SatAt E S a w I ρ C→RS S→∃v,(results fn a.tmps).run P w= .ok v w∧R w I ρ v) (hf:P.funcs[f]? =some fn) (hname:(fn.name== "runtime.NumGoroutine")=false) (hb:fn.body=some c) (hn:args.length≤fn.ntmps) (hn2:fn.ntmps≤1000000)
  (h:∀w0 I0 hG ρ0,Avc P none (Env.gen (uO P) w0 I0 hG ρ0 T keep fn.ntmps hn2) c (z7B RS T') ⟨zKE args 0,T⟩):GCX P f args T keep R T':=by
 refine⟨⟨fn,hf,hname,by simp[hb]⟩,fun w I ρ vs hI hG hfrag hvs=>?_⟩;refine callsIn_wide (n:=0) |>.1 (callsIn_of_wp_marks hf hb trivial ?_)
 have hlen:vs.length=args.length:=hvs.1;have hsat:Sat (Env.gen (uO P) w I hG ρ T keep fn.ntmps hn2) ⟨zKE args 0,T⟩ {tmps:=vs.toArray++Array.replicate (fn.ntmps-vs.toArray.size) undef,defers:=[]} w:=by
  refine⟨I,ρ,fun _=>False,⟨fun t=>?_,fun i=>?_,hfrag.dist,⟨⟨Chg.refl _ _,xB I w⟩,hI,fun _ h=>h⟩,fun _ _ h=>h,fun b j h=>⟨hI b j h,.inl h⟩,by simp[Env.gen];omega,DefOk.nil,fun _ _ _ h=>h,fun _ _ _ _ h=>h,fun id v hv _=>?_⟩⟩
  ·rcases zW6 args 0 t with ⟨_,x,hx,hl⟩ | hl
   ·show Holds _ _ _ _ (look AV.top (zKE args 0) t)
    rw[hl];simp only[Nat.sub_zero] at hx;have ht:t<vs.length:=by rw[hlen];exact(List.getElem?_eq_some_iff.1 hx).1
    refine Cap.holds (hvs.2 t _ x ?_ hx);simp[Array.getD_eq_getD_getElem?,Array.getElem?_append,ht]
   ·show Holds _ _ _ _ (look AV.top (zKE args 0) t)
    rw[hl];trivial
  ·exact(hfrag.ok i).mineM fun b hne hbo _=> .inr ⟨i,hne,hbo⟩
  ·simp only[Env.gen] at hv
   split at hv
   ·cases hv;rfl
   ·cases hv
 refine wpIn_mono (h w I hG ρ _ w hsat) ?_
 rintro e a w' ⟨S,hK,I1,ρ1,C,hs⟩
 have fin:RS S∧zMD S T'→LeavesInM (fen none) 0 P fn a.tmps (fun e w'=> ∃v I' ρ',e= .returned v∧Chg w w' (xL T ρ)∧Same I w w'∧(∀b j,I b j→I' b j)∧
   (∀b j,I' b j→b<w'.heap.size∧(I b j∨w.heap.size≤b∨xL T ρ b))∧Frag w' I' ρ' T'∧R w' I' ρ' v∧
   (∀b,xL T' ρ' b→b<w'.heap.size∧(w.heap.size≤b∨xL T ρ b))∧(∀id,keep.contains id=true→look Blk.none T' id≠ .none→ρ' id= ρ id)) a.defers .returning w':=by
  rintro⟨hret,hcov⟩
  refine zK8 (B:=w.heap.size) a.defers w' hs.defers fun w2 hb2 hk2=>?_;have hfr:(Env.gen (uO P) w I hG ρ T keep fn.ntmps hn2).fr S.ghost C w2:=by
   refine⟨⟨⟨hb2.os.trans hs.frame.1.1.os,hb2.tape.trans hs.frame.1.1.tape,hb2.output.trans hs.frame.1.1.output,Nat.le_trans hs.frame.1.1.size hb2.size,fun k hk hne=>(hb2.block k hk).trans (hs.frame.1.1.block k hk hne)⟩,fun b j hi=>(hk2.same (I:=I) b j hi).trans (hs.frame.1.2 b j hi)⟩,hs.frame.2⟩
  have hs2:=hs.taken hk2 hfr;obtain⟨v,h1,h2⟩:=hRS _ _ _ _ _ _ _ hs2 hret;have key:∀id,look Blk.none T' id≠ .none→S.blk id=look Blk.none T' id:=fun id hne=>by
   rcases zJD hcov id with h | h
   ·exact absurd h hne
   ·exact h
  have key2:∀id,look Blk.none T' id≠ .none→S.blk id≠ .none:=fun id hne=>by rw[key id hne];exact hne
  refine⟨v,h1,v,I1,ρ1,rfl,hfr.1.1,hfr.1.2,fun b j hi=>hs2.sub b j hi,fun b j hi=>⟨(hs2.old b j hi).1,?_⟩,⟨fun id=>?_,fun id id' b hne h1 h2=>hs2.dist id id' b hne (key2 id h1) (key2 id' h2)⟩,h2,fun b hb=>?_,fun id hk hne=>?_⟩
  ·rcases (hs2.old b j hi).2 with h | h
   ·exact .inl h
   ·exact .inr h
  ·rcases zJD hcov id with h | h
   ·rw[h];trivial
   ·rw[←h];exact(hs2.blks id).mineM fun _ _ _ _=>trivial
  ·obtain⟨id,hne,hbo⟩:=hb
   have:=hs2.blt id b (key2 id hne) hbo;exact⟨this.2,this.1⟩
  ·refine hs2.nm id (ρ id) ?_ (key2 id hne)
   simp only[Env.gen];rw[if_pos hk]
 cases e with
 | normal=>exact fin hK
 | ret=>exact fin hK
 | _=>exact hK.elim
theorem zE6 {f:FuncId} {fn:Func} {c:Code} {args rets:List Cap} {T T':List (Nat×Blk)} {keep:List Nat} (hf:P.funcs[f]? =some fn) (hname:(fn.name== "runtime.NumGoroutine")=false) (hb:fn.body=some c) (hn:args.length≤fn.ntmps) (hn2:fn.ntmps≤1000000)
  (h:∀w0 I0 hG ρ0,Avc P none (Env.gen (uO P) w0 I0 hG ρ0 T keep fn.ntmps hn2) c (yAC P fn rets T') ⟨zKE args 0,T⟩):GC P f args T keep rets T':=
 z1X (fun w I ρ v=>z75 w I ρ v rets) (fun S=>RetGS P S fn.results.toList rets) (fun _ _ _ _ _ _ _ hs hr=>RetGS.run hs hr) hf hname hb hn hn2 h
theorem z76 {f:FuncId} {fn:Func} {c:Code} {args:List Cap} {ret:AV} {tr:Nat} {T T':List (Nat×Blk)} {keep:List Nat} (hf:P.funcs[f]? =some fn) (hname:(fn.name== "runtime.NumGoroutine")=false) (hb:fn.body=some c) (hn:args.length≤fn.ntmps) (hn2:fn.ntmps≤1000000) (hres:fn.results= #[.tmp tr])
  (h:∀w0 I0 hG ρ0,Avc P none (Env.gen (uO P) w0 I0 hG ρ0 T keep fn.ntmps hn2) c (z7B (fun S=>(S.get tr).un=ret) T') ⟨zKE args 0,T⟩):GCA P f args T keep ret T':=
 z1X (fun w I ρ v=>Holds w I ρ v ret) (fun S=>(S.get tr).un=ret) (fun E S a w I ρ C hs hr=>⟨_,zJA (xs:=[a.tmps.getD tr undef]) (by rw[hres];simp[zOP]),by
  have:=(hs.tmps tr).un;rw[hr] at this;exact this⟩) hf hname hb hn hn2 h
end
end Go.AV
namespace Go.AV
open Go.RowKit
def Cap.ren (σ:List (Nat×Nat)):Cap→Cap
 | .ptr i o=> .ptr (look 0 σ i) o
 | .row i=> .row (look 0 σ i)
 | c=>c
def AV.ren (σ:List (Nat×Nat)):AV→AV
 | .row i=> .row (look 0 σ i)
 | .ptr i o=> .ptr (look 0 σ i) o
 | .rs i o n=> .rs (look 0 σ i) o n
 | .wp i o=> .wp (look 0 σ i) o
 | .ws i o n tt=> .ws (look 0 σ i) o n tt
 | .cond g x=> .cond g (x.ren σ)
 | .clo f caps=> .clo f (caps.map (Cap.ren σ))
 | .tupc caps=> .tupc (caps.map (Cap.ren σ))
 | .aggc caps=> .aggc (caps.map (Cap.ren σ))
 | x=>x
def Blk.ren (σ:List (Nat×Nat)):Blk→Blk
 | .box e cells=> .box e (cells.map (AV.ren σ))
 | b=>b
def renL (σ:List (Nat×Nat)) (T:List (Nat×Blk)):List (Nat×Blk):=T.map fun p=>(look 0 σ p.1,p.2.ren σ)
def xY (σ:List (Nat×Nat)) (k:Nat):Bool:=σ.any fun p=>Nat.beq p.1 k
def Cap.idsLt (σ:List (Nat×Nat)):Cap→Bool
 | .ptr i _=>xY σ i
 | .row i=>xY σ i
 | _=>true
def AV.idsLt (σ:List (Nat×Nat)):AV→Bool
 | .row i=>xY σ i
 | .ptr i _=>xY σ i
 | .rs i _ _=>xY σ i
 | .wp i _=>xY σ i
 | .ws i _ _ _=>xY σ i
 | .cond _ x=>x.idsLt σ
 | .clo _ caps=>caps.all (Cap.idsLt σ)
 | .tupc caps=>caps.all (Cap.idsLt σ)
 | .aggc caps=>caps.all (Cap.idsLt σ)
 | _=>true
def Blk.idsLt (σ:List (Nat×Nat)):Blk→Bool
 | .box _ cells=>cells.all (AV.idsLt σ)
 | _=>true
section
variable {w:World} {I:Im}
theorem HoldsC.ren {σ:List (Nat×Nat)} {ρ ρ':Nat→Value} {v:Value} {c:Cap} (hρ:∀k,xY σ k=true→ρ' (look 0 σ k)= ρ k) (hn:c.idsLt σ =true):HoldsC w I ρ v c↔HoldsC w I ρ' v (c.ren σ):=by
 cases c with
 | top=>exact Iff.rfl
 | d x=>exact Iff.rfl
 | ptr i o=>
  have:xY σ i=true:=hn;simp only[HoldsC,Cap.ren,hρ i this]
 | row i=>
  have:xY σ i=true:=hn;simp only[HoldsC,Cap.ren,hρ i this]
theorem zLD {α β γ:Type} {R: α→β→Prop} {R': α→γ→Prop} {f: β→γ} {xs:List α} {ys:List β} (h:∀x y,y∈ys→(R x y↔R' x (f y))):Pw R xs ys↔Pw R' xs (ys.map f):=by
 constructor
 rintro⟨h1,h2⟩
 refine⟨by simpa using h1,fun j x y hx hy=>?_⟩;rw[List.getElem?_map] at hy;cases hc:ys[j]? with
 | none=>simp[hc] at hy
 | some y'=>simp[hc] at hy;subst hy;exact(h x y' (List.mem_of_getElem? hc)).1 (h2 j x y' hx hc)
 rintro⟨h1,h2⟩
 refine⟨by simpa using h1,fun j x y hx hy=>?_⟩;exact(h x y (List.mem_of_getElem? hy)).2 (h2 j x (f y) hx (by simp[hy]))
theorem HoldsC.renL {σ:List (Nat×Nat)} {ρ ρ':Nat→Value} (hρ:∀k,xY σ k=true→ρ' (look 0 σ k)= ρ k) {xs:List Value} {cs:List Cap} (hn:cs.all (Cap.idsLt σ)=true):Pw (HoldsC w I ρ) xs cs↔Pw (HoldsC w I ρ') xs (cs.map (Cap.ren σ)):=
 zLD fun x y hy=>HoldsC.ren hρ (List.all_eq_true.1 hn y hy)
theorem Holds.ren {σ : List (Nat × Nat)} {ρ ρ' : Nat → Value} (hρ : ∀ k, xY σ k = true → ρ' (look 0 σ k) = ρ k) {v : Value} : ∀ {x : AV}, x.idsLt σ = true → (Holds w I ρ v x ↔ Holds w I ρ' v (x.ren σ)) := by
  intro x
  induction x with
  | row i => intro hn; have : xY σ i = true := hn
             simp only[Holds, AV.ren, hρ i this]
  | ptr i o => intro hn; have : xY σ i = true := hn
               simp only[Holds, AV.ren, hρ i this]
  | rs i o m => intro hn; have : xY σ i = true := hn
                simp only[Holds, AV.ren, hρ i this]
  | wp i o => intro hn; have : xY σ i = true := hn
              simp only[Holds, AV.ren, hρ i this]
  | ws i o m tt => intro hn; have : xY σ i = true := hn
                   simp only[Holds, AV.ren, hρ i this]
  | cond g x ih => intro hn; simp only[Holds, AV.ren, ih hn]
  | clo f caps => intro hn; simp only[Holds, AV.ren]; constructor
                  · rintro⟨xs, h1, h2⟩; exact⟨xs, h1, (HoldsC.renL hρ hn).1 h2⟩
                  · rintro⟨xs, h1, h2⟩; exact⟨xs, h1, (HoldsC.renL hρ hn).2 h2⟩
  | tupc caps => intro hn; simp only[Holds, AV.ren]; constructor
                 · rintro⟨xs, h1, h2⟩; exact⟨xs, h1, (HoldsC.renL hρ hn).1 h2⟩
                 · rintro⟨xs, h1, h2⟩; exact⟨xs, h1, (HoldsC.renL hρ hn).2 h2⟩
  | aggc caps => intro hn; simp only[Holds, AV.ren]; constructor
                 · rintro⟨xs, h1, h2, h3⟩; exact⟨xs, h1, (HoldsC.renL hρ hn).1 h2, h3⟩
                 · rintro⟨xs, h1, h2, h3⟩; exact⟨xs, h1, (HoldsC.renL hρ hn).2 h2, h3⟩
  | top => intro _; exact Iff.rfl
  | d x => intro _; exact Iff.rfl
  | ip c o => intro _; exact Iff.rfl
  | tup ds => intro _; exact Iff.rfl
  | gh k => intro _; exact Iff.rfl
theorem BlkOk.ren {σ:List (Nat×Nat)} {ρ ρ':Nat→Value} {k:Nat} {M:Nat→Prop} (hρ:∀k,xY σ k=true→ρ' (look 0 σ k)= ρ k) (hk:xY σ k=true) {x:Blk} (hn:x.idsLt σ =true):BlkOk w I ρ M k x↔BlkOk w I ρ' M (look 0 σ k) (x.ren σ):=by
 cases x with
 | none=>exact Iff.rfl
 | row e size sh cells=>simp only[BlkOk,Blk.ren,hρ k hk]
 | map es=>simp only[BlkOk,Blk.ren,hρ k hk]
 | it es q=>simp only[BlkOk,Blk.ren,hρ k hk]
 | win e size k' cells=>simp only[BlkOk,Blk.ren,hρ k hk]
 | box e cells=>
  simp only[BlkOk,Blk.ren,hρ k hk];have:∀arr:Array Value,Pw (Holds w I ρ) arr.toList cells↔Pw (Holds w I ρ') arr.toList (cells.map (AV.ren σ)):=fun arr=>
   zLD fun x y hy=>Holds.ren hρ (List.all_eq_true.1 hn y hy)
  constructor
  rintro⟨b,arr,h1,h2,h3,h4,h5,h6⟩;exact⟨b,arr,h1,h2,h3,h4,(this arr).1 h5,h6⟩
  rintro⟨b,arr,h1,h2,h3,h4,h5,h6⟩;exact⟨b,arr,h1,h2,h3,h4,(this arr).2 h5,h6⟩
theorem HoldsC.agree {ρ ρ':Nat→Value} {v:Value} {c:Cap} (h:HoldsC w I ρ v c) (ha:∀id,c.mentions id=true→ρ' id= ρ id):HoldsC w I ρ' v c:=by
 cases c with
 | top=>trivial
 | d x=>exact h
 | ptr i o=>simpa only[HoldsC,ha i (by simp[Cap.mentions])] using h
 | row i=>simpa only[HoldsC,ha i (by simp[Cap.mentions])] using h
theorem Holds.agree {ρ ρ':Nat→Value} {v:Value}:∀{x:AV},Holds w I ρ v x→(∀id,x.mentions id=true→ρ' id= ρ id)→Holds w I ρ' v x:=by
 intro x
 induction x with
 | row i=>intro h ha;simpa only[Holds,ha i (by simp[AV.mentions])] using h
 | ptr i o=>intro h ha;simpa only[Holds,ha i (by simp[AV.mentions])] using h
 | rs i o m=>intro h ha;simpa only[Holds,ha i (by simp[AV.mentions])] using h
 | wp i o=>intro h ha;simpa only[Holds,ha i (by simp[AV.mentions])] using h
 | ws i o m tt=>intro h ha;simpa only[Holds,ha i (by simp[AV.mentions])] using h
 | cond g x ih=>intro h ha;exact⟨fun hg=>ih (h.1 hg) (fun id hm=>ha id (by simpa[AV.mentions] using hm)),h.2⟩
 | clo f caps=>
  rintro⟨xs,h1,h2⟩ ha
  exact⟨xs,h1,h2.1,fun j x c hx hc=>(h2.2 j x c hx hc).agree fun id hm=>ha id (by simp only[AV.mentions,List.any_eq_true];exact⟨c,List.mem_of_getElem? hc,hm⟩)⟩
 | tupc caps=>
  rintro⟨xs,h1,h2⟩ ha
  exact⟨xs,h1,h2.1,fun j x c hx hc=>(h2.2 j x c hx hc).agree fun id hm=>ha id (by simp only[AV.mentions,List.any_eq_true];exact⟨c,List.mem_of_getElem? hc,hm⟩)⟩
 | aggc caps=>
  rintro⟨xs,h1,h2,h3⟩ ha
  exact⟨xs,h1,⟨h2.1,fun j x c hx hc=>(h2.2 j x c hx hc).agree fun id hm=>ha id (by simp only[AV.mentions,List.any_eq_true];exact⟨c,List.mem_of_getElem? hc,hm⟩)⟩,h3⟩
 | top=>intro h _;exact h
 | d x=>intro h _;exact h
 | ip c o=>intro h _;exact h
 | tup ds=>intro h _;exact h
 | gh k=>intro h _;exact h
end
def zHF (ks:List Nat) (x:AV):AV:=if ks.any (fun k=>x.mentions k) then .top else x
def zCT (ks:List Nat):Blk→Blk
 | .box e cells=> .box e (cells.map (zHF ks))
 | b=>b
def AState.killL (S:AState) (ks:List Nat):AState:=
 {tmps:=S.tmps.map fun p=>(p.1,zHF ks p.2),blks:=S.blks.map fun p=>(p.1,zCT ks p.2)}
theorem zRB (S:AState) (ks:List Nat) (t:Nat):(S.killL ks).get t=zHF ks (S.get t):=zK6 _ _ (by simp[zHF,AV.mentions]) _ _
theorem zRC (S:AState) (ks:List Nat) (i:Nat):(S.killL ks).blk i=zCT ks (S.blk i):=zK6 _ _ rfl _ _
theorem zKF {w:World} {I:Im} {ρ ρ':Nat→Value} {ks:List Nat} {v:Value} {x:AV} (h:Holds w I ρ v x) (ha:∀id,ks.contains id=false→ρ' id= ρ id):Holds w I ρ' v (zHF ks x):=by
 unfold zHF;split;trivial;rename_i hm;refine h.agree fun id hid=>ha id ?_;cases hc:ks.contains id with
 | false=>rfl
 | true=>
  exfalso;apply hm;simp only[List.any_eq_true];exact⟨id,by simpa using hc,hid⟩
theorem z1Y (ks:List Nat) (x:AV):(match zHF ks x with | .gh k=>k | _=>0)=(match x with | .gh k=>k | _=>0):=by
 unfold zHF;by_cases h:(ks.any fun k=>x.mentions k)=true;simp only[h,if_true];cases x<;>first | rfl | (simp[AV.mentions] at h)
 simp only[h];rfl
def AState.setL (S:AState) (T:List (Nat×Blk)):AState:={S with blks:=T++S.blks}
theorem zHG {α:Type} (dflt: α) (l m:List (Nat×α)) (k:Nat):look dflt (l++m) k=if l.any (fun p=>Nat.beq p.1 k) then look dflt l k else look dflt m k:=by
 induction l with
 | nil=>simp[look]
 | cons p l ih=>
  obtain⟨i,x⟩:=p;simp only[List.cons_append,look,List.any_cons];by_cases h:Nat.beq i k=true;simp[h];have h':Nat.beq i k=false:=Bool.eq_false_iff.2 h;simp only[h',ih,Bool.false_or];simp
def ArgsAs (σ:List (Nat×Nat)):List AV→List Cap→Prop
 | [],[]=>True
 | x::xs,c::cs=>CapOf x (c.ren σ)∧ArgsAs σ xs cs
 | _,_=>False
theorem ArgsAs.holds {w:World} {I:Im} {ρ ρ':Nat→Value} {σ:List (Nat×Nat)} (hρ:∀k,xY σ k=true→ρ' (look 0 σ k)= ρ k):∀{vs:List Value} {xs:List AV} {cs:List Cap},ArgsAs σ xs cs→cs.all (Cap.idsLt σ)=true→Pw (Holds w I ρ') vs xs→Pw (HoldsC w I ρ) vs cs:=by
 intro vs xs
 induction xs generalizing vs with
 | nil=>
  intro cs h _ hp;cases cs with
  | nil=>exact⟨hp.1,fun j x y hx hy=>by simp at hy⟩
  | cons c cs=>exact h.elim
 | cons x xs ih=>
  intro cs h hn hp;cases cs with
  | nil=>exact h.elim
  | cons c cs=>
   cases vs with
   | nil=>have:=hp.1;simp at this
   | cons v vs=>
    simp only[List.all_cons,Bool.and_eq_true] at hn;refine Pw.cons ((HoldsC.ren hρ hn.1).2 (h.1.holds (hp.2 0 v x rfl rfl))) (ih h.2 hn.2 ⟨by have:=hp.1;simpa using this,fun j a b ha hb=>hp.2 (j+1) a b (by simpa using ha) (by simpa using hb)⟩)
def BlksAs (S:AState) (σ:List (Nat×Nat)):List (Nat×Blk)→Prop
 | []=>True
 | (k,x)::T=>S.blk (look 0 σ k)=x.ren σ∧BlksAs S σ T
theorem BlksAs.look {S:AState} {σ:List (Nat×Nat)}:∀{T:List (Nat×Blk)},BlksAs S σ T→∀k,look Blk.none T k≠ .none→S.blk (look 0 σ k)=(look Blk.none T k).ren σ
 | [],_,k,h=>absurd rfl h
 | (i,x)::T,h,k,hk=>by
  rw[k8] at hk ⊢;by_cases e:i=k;subst e;simp only[if_true];exact h.1;simp only[e,if_false] at hk ⊢;exact BlksAs.look h.2 k hk
def zKQ:List Cap→AV
 | [c]=>c.av
 | cs=> .tupc cs
theorem z77 {σ:List (Nat×Nat)} {x:Blk}:x.ren σ≠ .none↔x≠ .none:=by cases x<;>simp[Blk.ren]
def zHS (σ:List (Nat×Nat)) (keep:List Nat) (T':List (Nat×Blk)):List Nat:=
 σ.filterMap fun q=>if keep.contains q.1&&T'.any (fun p=>Nat.beq p.1 q.1) then none else some q.2
def zJ5 (σ:List (Nat×Nat)) (T T':List (Nat×Blk)):List (Nat×Blk):=
 (T.filter fun p=>!T'.any (fun q=>Nat.beq q.1 p.1)).map fun p=>(look 0 σ p.1,Blk.none)
theorem BlkOk.agree {w:World} {I:Im} {ρ ρ':Nat→Value} {M:Nat→Prop} {i:Nat} {x:Blk} {ks:List Nat} (h:BlkOk w I ρ M i x) (hi: ρ' i= ρ i) (ha:∀id,ks.contains id=false→ρ' id= ρ id):BlkOk w I ρ' M i (zCT ks x):=by
 cases x with
 | none=>trivial
 | row e size sh cells=>simpa only[BlkOk,zCT,hi] using h
 | map es=>simpa only[BlkOk,zCT,hi] using h
 | it es q=>simpa only[BlkOk,zCT,hi] using h
 | win e size k cells=>simpa only[BlkOk,zCT,hi] using h
 | box e cells=>
  obtain⟨b,arr,h1,h2,h3,h4,h5,h6⟩:=h;refine⟨b,arr,by rw[hi];exact h1,h2,h3,h4,⟨by simpa using h5.1,fun j y av hj hav=>?_⟩,h6⟩
  rw[List.getElem?_map] at hav;cases hc:cells[j]? with
  | none=>simp[hc] at hav
  | some av'=>simp[hc] at hav;subst hav;exact zKF (h5.2 j y av' hj hc) ha
theorem z49 {ks:List Nat} {x:Blk}:zCT ks x≠ .none↔x≠ .none:=by cases x<;>simp[zCT]
structure Ren (σ:List (Nat×Nat)):Prop where
 keys:(σ.map Prod.fst).Nodup
 vals:(σ.map Prod.snd).Nodup
theorem zDY {σ:List (Nat×Nat)} {k:Nat} (h:xY σ k=true):(k,look 0 σ k)∈σ:=by
 induction σ with
 | nil=>simp[xY] at h
 | cons p σ ih=>
  obtain⟨i,x⟩:=p;rw[k8];by_cases e:i=k;subst e;simp;simp only[e,if_false];have hb:Nat.beq i k=false:=Bool.eq_false_iff.2 fun h=>e (Nat.eq_of_beq_eq_true h);simp only[xY,List.any_cons,hb,Bool.false_or] at h;exact List.mem_cons_of_mem _ (ih h)
theorem zZZ {σ:List (Nat×Nat)} {k x:Nat} (h:(k,x)∈σ):xY σ k=true:=by simp only[xY,List.any_eq_true];exact⟨(k,x),h,by simp[Nat.beq_eq]⟩
theorem zUT {σ:List (Nat×Nat)} (hσ:(σ.map Prod.fst).Nodup) {k x:Nat} (h:(k,x)∈σ):look 0 σ k=x:=by
 induction σ with
 | nil=>simp at h
 | cons p σ ih=>
  obtain⟨i,y⟩:=p;rw[k8];simp only[List.map_cons,List.nodup_cons] at hσ;rcases List.mem_cons.1 h with h | h;cases h;simp;have:i≠k:=fun e=>hσ.1 (List.mem_map.2 ⟨(k,x),h,e.symm⟩);simp only[this,if_false];exact ih hσ.2 h
theorem z5A {σ:List (Nat×Nat)} (hσ:(σ.map Prod.snd).Nodup) {k k' x:Nat} (h:(k,x)∈σ) (h':(k',x)∈σ):k=k':=by
 induction σ with
 | nil=>simp at h
 | cons p σ ih=>
  simp only[List.map_cons,List.nodup_cons] at hσ;rcases List.mem_cons.1 h with h1 | h1<;>rcases List.mem_cons.1 h' with h2 | h2
  rw[←h1] at h2;exact(Prod.mk.inj h2).1.symm;exact absurd (List.mem_map.2 ⟨_,h2,by rw[←h1]⟩) hσ.1;exact absurd (List.mem_map.2 ⟨_,h1,by rw[←h2]⟩) hσ.1;exact ih hσ.2 h1 h2
theorem zUU {σ:List (Nat×Nat)} (h:Ren σ) {k k':Nat} (hk:xY σ k=true) (hk':xY σ k'=true) (e:look 0 σ k=look 0 σ k'):k=k':=
 z5A h.vals (zDY hk) (by rw[e];exact zDY hk')
theorem zFZ {σ:List (Nat×Nat)} {k:Nat} (hk:xY σ k=true):look 0 σ k∈σ.map Prod.snd:=List.mem_map.2 ⟨_,zDY hk,rfl⟩
theorem zUV {σ:List (Nat×Nat)} (hσ:Ren σ) {i:Nat} (h:i∈σ.map Prod.snd):∃k,xY σ k=true∧look 0 σ k=i:=by obtain⟨⟨k,x⟩,hk,rfl⟩:=List.mem_map.1 h;exact⟨k,zZZ hk,zUT hσ.keys hk⟩
theorem zMF {σ:List (Nat×Nat)} (hσ:Ren σ):∀{T:List (Nat×Blk)},(∀p∈T,xY σ p.1=true)→∀{k:Nat},xY σ k=true→look Blk.none (renL σ T) (look 0 σ k)=(look Blk.none T k).ren σ
 | [],_,k,_=>rfl
 | (i,x)::T,h,k,hk=>by
  show look Blk.none ((look 0 σ i,x.ren σ)::renL σ T) (look 0 σ k)=_;rw[k8,k8];by_cases e:i=k;subst e;simp;have:look 0 σ i≠look 0 σ k:=fun e'=>e (zUU hσ (h (i,x) (by simp)) hk e');simp only[this,e,if_false];exact zMF hσ (fun p hp=>h p (by simp[hp])) hk
theorem zUW {T:List (Nat×Blk)} (h:∀p∈T,p.2≠ .none) (k:Nat):T.any (fun p=>Nat.beq p.1 k)=true↔look Blk.none T k≠ .none:=by
 induction T with
 | nil=>simp[look]
 | cons p T ih=>
  obtain⟨i,x⟩:=p;rw[k8,List.any_cons];by_cases e:i=k;subst e;simp[Nat.beq_eq,h (i,x) (by simp)];have:Nat.beq i k=false:=Bool.eq_false_iff.2 fun h=>e (Nat.eq_of_beq_eq_true h);simp only[this,Bool.false_or,e,if_false];exact ih fun p hp=>h p (by simp[hp])
def Blk.isSome:Blk→Bool
 | .none=>false
 | _=>true
def zB4 (σ:List (Nat×Nat)) (T:List (Nat×Blk)):Bool:=T.all fun p=>xY σ p.1&&p.2.idsLt σ &&p.2.isSome
theorem zM4 {σ:List (Nat×Nat)} {T:List (Nat×Blk)} (h:zB4 σ T=true):∀p∈T,xY σ p.1=true∧p.2.idsLt σ =true∧p.2≠ .none:=by intro p hp;have:=List.all_eq_true.1 h p hp;simp only[Bool.and_eq_true] at this;refine⟨this.1.1,this.1.2,fun e=>?_⟩;rw[e] at this;simp[Blk.isSome] at this
theorem zJG {T:List (Nat×Blk)} {k:Nat} (h:look Blk.none T k≠ .none):(k,look Blk.none T k)∈T:=by
 induction T with
 | nil=>exact absurd rfl h
 | cons p T ih=>
  obtain⟨i,x⟩:=p;rw[k8] at h ⊢;by_cases e:i=k;subst e;simp;simp only[e,if_false] at h ⊢;exact List.mem_cons_of_mem _ (ih h)
theorem zZ0 {σ:List (Nat×Nat)} {T T':List (Nat×Blk)} (i:Nat):look Blk.none (zJ5 σ T T') i= .none:=by
 unfold zJ5
 induction (T.filter fun p=>!T'.any (fun q=>Nat.beq q.1 p.1)) with
 | nil=>rfl
 | cons p l ih=>rw[List.map_cons,k8];split;rfl;exact ih
def zLE (S:AState) (σ:List (Nat×Nat)) (T:List (Nat×Blk)):Prop:= ∀k,xY σ k=true→look Blk.none T k= .none→S.blk (look 0 σ k)= .none
section
variable {P:Program} {r:Option Nat} {E:Env} {S:AState} {d:Nat} {ty:TypeId} {pos:String} {af:Array Edge} {g:Option (Nat×Bool)}
theorem zRD {f:FuncId} {xf:Operand} {extra:List AV} {xs:List Operand} {ats:Array TypeId} {args:List Cap} {ret:AV} {T T':List (Nat×Blk)} {keep:List Nat} (σ:List (Nat×Nat)) (hn:d<E.n) (hσ:Ren σ)
  (hev:∀A w I ρ C,SatAt E S A w I ρ C→∃cvs:List Value,A.eval xf= .func (.func f) #[] cvs.toArray∧Pw (Holds w I ρ) cvs extra) (hargs:ArgsAs σ (xs.map S.ev++extra) args) (hal:args.all (Cap.idsLt σ)=true) (hrl:ret.idsLt σ =true) (hT:BlksAs S σ T) (hTo:zB4 σ T=true) (hTo':zB4 σ T'=true)
  (hfr:zLE S σ T) (hnm:∀k,xY σ k=true→E.nm (look 0 σ k)=none∨(keep.contains k=true∧look Blk.none T k≠ .none∧look Blk.none T' k≠ .none)) (hc:GCA P f args T keep ret T') (hE:E.wrB=true) (hG:E.gdt=uO P:=by rfl):
  j9 P r E ⟨some d,.call {callee:= .value xf,args:=xs.toArray,argTypes:=ats},ty,pos,af,g⟩ S
   (((S.killL (zHS σ keep T')).setL (renL σ T'++zJ5 σ T T')).put d (ret.ren σ)):=by
 rintro A w K Q ⟨I,ρ,C,hs⟩ hk
 obtain⟨⟨fn,hf,hname,hbody⟩,hcall⟩:=hc;have tspec:=zM4 hTo;have tspec':=zM4 hTo'
 let ρc:Nat→Value:=fun k=>ρ (look 0 σ k)
 have hρ0:∀k,xY σ k=true→ρ (look 0 σ k)= ρc k:=fun _ _=>rfl;have tin:∀k,look Blk.none T k≠ .none→xY σ k=true∧(look Blk.none T k).idsLt σ =true∧S.blk (look 0 σ k)=(look Blk.none T k).ren σ∧S.blk (look 0 σ k)≠ .none:=fun k hne=>by
  have:=tspec _ (zJG hne);have h2:=hT.look k hne;exact⟨this.1,this.2.1,h2,by rw[h2];exact z77.2 hne⟩
 have hfrag:Frag w I ρc T:=by
  refine⟨fun k=>?_,fun k k' b hne h1 h2 hb=>?_⟩
  ·by_cases hne:look Blk.none T k= .none
   ·rw[hne];trivial
   ·obtain⟨t1,t2,t3,_⟩:=tin k hne
    have:=hs.blks (look 0 σ k);rw[t3] at this;exact((BlkOk.ren hρ0 t1 t2).2 this).mineM fun _ _ _ _=>trivial
  ·obtain⟨t1,_,_,t4⟩:=tin k h1
   obtain⟨u1,_,_,u4⟩:=tin k' h2;exact hs.dist _ _ b (fun e=>hne (zUU hσ t1 u1 e)) t4 u4 hb
 obtain⟨cvs,hvx,hcv⟩:=hev A w I ρ C hs;have hcl:=hcall w I ρc (xs.map A.eval++cvs) (fun b j hi=>(hs.old b j hi).1) (hG▸hs.gl) hfrag (ArgsAs.holds hρ0 hargs hal (Pw.append (u7 hs xs) hcv));refine⟨fun f _=>trivial,?_⟩;rw[Oper.semAt_eq _ _ _ (by simp)];have hrun:(execOp A.eval ⟨some d,.call {callee:= .value xf,args:=xs.toArray,argTypes:=ats},ty,pos,af,g⟩).run P w= .ok (.enter f (xs.map A.eval++cvs).toArray) w:=by
  simp only[execOp,resolve,hvx,Deferred.ofValue];have hn1:¬fn.name= "runtime.NumGoroutine" :=by simpa using hname
  have hn2:¬fn.body=none:=by intro e;simp[e] at hbody
  simp[invoke,callFunc,hf,hn1,hn2,List.map_toArray]
 rw[hrun];refine⟨by simp[fen,Fence.wide],?_⟩;show CallsIn Fence.wide 0 P f _ w _;refine callsIn_wide.2 (hcl.mono ?_)
 rintro e w' ⟨v,I',ρ'c,rfl,hchg,hsame,hsub,hnew,hfrag',hret,hown',hkeep⟩
 let inv:Nat→Nat:=fun i=>look 0 (σ.map fun p=>(p.2,p.1)) i
 let ρ':Nat→Value:=fun i=>if i∈σ.map Prod.snd then ρ'c (inv i) else ρ i
 have hidx:∀k,xY σ k=true→ρ' (look 0 σ k)= ρ'c k:=fun k hk=>by
  simp only[ρ',zFZ hk,if_true];congr 1;refine zUT (σ:=σ.map fun p=>(p.2,p.1)) ?_ (List.mem_map.2 ⟨_,zDY hk,rfl⟩);rw[List.map_map];exact hσ.vals
 have hout:∀i,i∉σ.map Prod.snd→ρ' i= ρ i:=fun i hi=>by simp only[ρ',hi,if_false]
 have agree:∀id,(zHS σ keep T').contains id=false→ρ' id= ρ id:=by
  intro id hl;by_cases hm:id∈σ.map Prod.snd
  ·obtain⟨k,hk,rfl⟩:=zUV hσ hm
   rw[hidx k hk];by_cases hkp:(keep.contains k&&T'.any (fun p=>Nat.beq p.1 k))=true
   ·simp only[Bool.and_eq_true] at hkp
    exact hkeep k hkp.1 ((zUW (fun p hp=>(tspec' p hp).2.2) k).1 hkp.2)
   ·exfalso
    have:(zHS σ keep T').contains (look 0 σ k)=true:=by
     rw[List.contains_iff_mem];unfold zHS;rw[List.mem_filterMap];exact⟨_,zDY hk,by rw[if_neg hkp]⟩
    rw[this] at hl;cases hl
  ·exact hout id hm
 have ownT:∀b,xL T ρc b→∃k,xY σ k=true∧look Blk.none T k≠ .none∧S.blk (look 0 σ k)≠ .none∧blockOf (ρ (look 0 σ k))=some b:=by
  rintro b ⟨k,h1,h2⟩
  obtain⟨t1,_,_,t4⟩:=tin k h1;exact⟨k,t1,h1,t4,h2⟩
 have ownMine:∀b,xL T ρc b→E.mine b∧b<w.heap.size∧¬C b∧∃o,w.heap[b]? =some o∧isData o=true:=by
  intro b hb;obtain⟨k,_,_,h3,h4⟩:=ownT b hb;exact⟨(hs.blt _ b h3 h4).1,(hs.blt _ b h3 h4).2,hs.cB _ b h3 h4,hs.cellBlk h3 h4⟩
 let S1:=(S.killL (zHS σ keep T')).setL (renL σ T'++zJ5 σ T T')
 have blkIn:∀k,look Blk.none T' k≠ .none→S1.blk (look 0 σ k)=(look Blk.none T' k).ren σ∧xY σ k=true:=by
  intro k hne;have hm:=tspec' _ (zJG hne);refine⟨?_,hm.1⟩;show look Blk.none ((renL σ T'++zJ5 σ T T')++(S.killL (zHS σ keep T')).blks) (look 0 σ k)=_;have ha:(renL σ T').any (fun p=>Nat.beq p.1 (look 0 σ k))=true:=by
   simp only[List.any_eq_true];exact⟨(look 0 σ k,(look Blk.none T' k).ren σ),List.mem_map.2 ⟨_,zJG hne,rfl⟩,by simp[Nat.beq_eq]⟩
  rw[List.append_assoc,zHG,if_pos ha,zMF hσ (fun p hp=>(tspec' p hp).1) hm.1]
 have blkOut:∀i,S1.blk i≠ .none→(∃k,xY σ k=true∧look Blk.none T' k≠ .none∧i=look 0 σ k)∨(i∉σ.map Prod.snd∧S1.blk i=zCT (zHS σ keep T') (S.blk i)∧S.blk i≠ .none):=by
  intro i hne;by_cases hm:i∈σ.map Prod.snd
  ·obtain⟨k,hk,rfl⟩:=zUV hσ hm
   by_cases hk':look Blk.none T' k= .none
   ·exfalso
    apply hne;show look Blk.none ((renL σ T'++zJ5 σ T T')++(S.killL (zHS σ keep T')).blks) (look 0 σ k)=_;rw[List.append_assoc,zHG];split
    ·rw[zMF hσ (fun p hp=>(tspec' p hp).1) hk,hk'];rfl
    ·rw[zHG]
     split
     ·exact zZ0 _
     ·rename_i hg
      show (S.killL (zHS σ keep T')).blk (look 0 σ k)=_;rw[zRC];by_cases hkT:look Blk.none T k= .none
      ·rw[hfr k hk hkT];rfl
      ·exfalso
       apply hg;simp only[List.any_eq_true];refine⟨(look 0 σ k,Blk.none),List.mem_map.2 ⟨(k,look Blk.none T k),List.mem_filter.2 ⟨zJG hkT,?_⟩,rfl⟩,by simp[Nat.beq_eq]⟩;cases hx:T'.any (fun q=>Nat.beq q.1 k) with
       | false=>simp[hx]
       | true=>exact absurd hk' ((zUW (fun p hp=>(tspec' p hp).2.2) k).1 hx)
   ·exact .inl ⟨k,hk,hk',rfl⟩
  ·have hb:S1.blk i=zCT (zHS σ keep T') (S.blk i):=by
    show look Blk.none ((renL σ T'++zJ5 σ T T')++(S.killL (zHS σ keep T')).blks) i=_;have h1:(renL σ T'++zJ5 σ T T').any (fun p=>Nat.beq p.1 i)=false:=by
     rw[List.any_eq_false];intro p hp;have:p.1∈σ.map Prod.snd:=by
      rcases List.mem_append.1 hp with hp | hp
      ·obtain⟨q,hq,rfl⟩:=List.mem_map.1 hp;exact zFZ (tspec' q hq).1
      ·obtain⟨q,hq,rfl⟩:=List.mem_map.1 hp;exact zFZ (tspec q (List.mem_filter.1 hq).1).1
     simp only[Nat.beq_eq];intro e;exact hm (e▸this)
    rw[zHG,h1];exact zRC _ _ _
   exact .inr ⟨hm,hb,by rw[hb] at hne;exact z49.1 hne⟩
 have oldOut:∀i b,i∉σ.map Prod.snd→S.blk i≠ .none→blockOf (ρ i)=some b→¬xL T ρc b:=by
  intro i b hm hne hb ho;obtain⟨k,hk,_,h3,h4⟩:=ownT b ho;exact hs.dist i (look 0 σ k) b (fun e=>hm (e▸zFZ hk)) hne h3 hb h4
 have sat1:SatAt E S1 A w' I' ρ' C:=by
  refine⟨fun t=>?_,fun i=>?_,fun i i' b hne hi hi' hb=>?_,?_,fun b j hi=>hsub b j (hs.sub b j hi),fun b j hi=>⟨(hnew b j hi).1,?_⟩,hs.size,hs.defers.keep fun q hq=>?_,fun b j hi=>?_,fun i b hi hb=>?_,fun i u hu hi=>?_⟩
  ·show Holds w' I' ρ' _ ((S.killL (zHS σ keep T')).get t)
   rw[zRB];exact zKF ((hs.tmps t).mono hsame hsub) agree
  ·by_cases hne:S1.blk i= .none
   ·rw[hne];trivial
   ·rcases blkOut i hne with ⟨k,hk,hk',rfl⟩ | ⟨hm,hb,hne'⟩
    ·rw[(blkIn k hk').1]
     have hm:=tspec' _ (zJG hk');refine((BlkOk.ren (M:=fun _=>True) hidx hk hm.2.1).1 (hfrag'.ok k)).mineM fun b _ hbo _=>?_;rw[hidx k hk] at hbo;rcases (hown' b ⟨k,hk',hbo⟩).2 with h1 | h1
     ·exact E.mineB b (Nat.le_trans (E.size _ _ _ hs.frame) h1)
     ·exact(ownMine b h1).1
    ·rw[hb]
     refine BlkOk.agree ?_ (hout i hm) agree;refine((hs.blks i).mono hsame fun b hbo=>hchg.block b (hs.blt i b hne' hbo).2 (oldOut i b hm hne' hbo)).widenI hsub fun b j _ hbo hi=>?_;rcases (hnew b j hi).2 with h1 | h1 | h1
     ·exact h1
     ·have:=(hs.blt i b hne' hbo).2;omega
     ·exact absurd h1 (oldOut i b hm hne' hbo)
  ·rcases blkOut i hi with ⟨k,hk,hk',rfl⟩ | ⟨hm,hbk,hne'⟩
   ·rw[hidx k hk] at hb
    rcases blkOut i' hi' with ⟨k2,hk2,hk2',rfl⟩ | ⟨hm2,hbk2,hne2'⟩
    ·rw[hidx k2 hk2]
     exact hfrag'.dist k k2 b (fun e=>hne (by rw[e])) hk' hk2' hb
    ·rw[hout i' hm2]
     intro hb2;rcases (hown' b ⟨k,hk',hb⟩).2 with h1 | h1
     ·have:=(hs.blt i' b hne2' hb2).2;omega
     ·exact oldOut i' b hm2 hne2' hb2 h1
   ·rw[hout i hm] at hb
    rcases blkOut i' hi' with ⟨k2,hk2,hk2',rfl⟩ | ⟨hm2,hbk2,hne2'⟩
    ·rw[hidx k2 hk2]
     intro hb2;rcases (hown' b ⟨k2,hk2',hb2⟩).2 with h1 | h1
     ·have:=(hs.blt i b hne' hb).2;omega
     ·exact oldOut i b hm hne' hb h1
    ·rw[hout i' hm2]
     exact hs.dist i i' b hne hne' hne2' hb
  ·have hgh:S1.ghost=S.ghost:=by
    unfold AState.ghost;show (match (S.killL (zHS σ keep T')).get GT with | .gh k=>k | _=>0)=_;rw[zRB];exact z1Y _ _
   rw[hgh];exact E.wr hE _ _ _ _ _ hs.frame hchg (fun b hb=>⟨(ownMine b hb).1,(ownMine b hb).2.2⟩) (fun b j hi=>hsame b j (hs.sub b j hi))
  ·rcases (hnew b j hi).2 with h1 | h1 | h1
   ·exact(hs.old b j h1).2
   ·exact .inr (E.mineB b (Nat.le_trans (E.size _ _ _ hs.frame) h1))
   ·exact .inr (ownMine b h1).1
  ·refine(hchg.block q (Array.getElem?_eq_some_iff.1 hq).1 fun ho=>?_).trans hq
   obtain⟨o,h1,h2⟩:=(ownMine q ho).2.2.2;rw[hq] at h1;cases h1;cases h2
  ·rcases (hnew b j hi).2 with h1 | h1 | h1
   ·exact hs.cI b j h1
   ·intro hc;have:=E.csize _ _ _ hs.frame _ hc;omega
   ·exact(ownMine b h1).2.2.1
  ·rcases blkOut i hi with ⟨k,hk,hk',rfl⟩ | ⟨hm,hbk,hne'⟩
   ·rw[hidx k hk] at hb
    rcases (hown' b ⟨k,hk',hb⟩).2 with h1 | h1
    ·intro hc;have:=E.csize _ _ _ hs.frame _ hc;omega
    ·exact(ownMine b h1).2.2.1
   ·rw[hout i hm] at hb;exact hs.cB i b hne' hb
  ·rcases blkOut i hi with ⟨k,hk,hk',rfl⟩ | ⟨hm,hbk,hne'⟩
   ·rcases hnm k hk with h0 | ⟨h1,h2,h3⟩
    ·rw[h0] at hu;cases hu
    ·rw[hidx k hk,hkeep k h1 h3]
     exact hs.nm _ u hu (tin k h2).2.2.2
   ·rw[hout i hm];exact hs.nm i u hu hne'
 exact hk _ _ ⟨I',ρ',C,sat1.put hn ((Holds.ren hidx hrl).1 hret)⟩
theorem zUX {f:FuncId} {xf:Operand} {extra:List AV} {xs:List Operand} {ats:Array TypeId} {args rets:List Cap} {T T':List (Nat×Blk)} {keep:List Nat} (σ:List (Nat×Nat)) (hn:d<E.n) (hσ:Ren σ)
  (hev:∀A w I ρ C,SatAt E S A w I ρ C→∃cvs:List Value,A.eval xf= .func (.func f) #[] cvs.toArray∧Pw (Holds w I ρ) cvs extra) (hargs:ArgsAs σ (xs.map S.ev++extra) args) (hal:args.all (Cap.idsLt σ)=true) (hrl:rets.all (Cap.idsLt σ)=true) (hT:BlksAs S σ T) (hTo:zB4 σ T=true) (hTo':zB4 σ T'=true)
  (hfr:zLE S σ T) (hnm:∀k,xY σ k=true→E.nm (look 0 σ k)=none∨(keep.contains k=true∧look Blk.none T k≠ .none∧look Blk.none T' k≠ .none)) (hc:GC P f args T keep rets T') (hE:E.wrB=true) (hG:E.gdt=uO P:=by rfl):
  j9 P r E ⟨some d,.call {callee:= .value xf,args:=xs.toArray,argTypes:=ats},ty,pos,af,g⟩ S
   (((S.killL (zHS σ keep T')).setL (renL σ T'++zJ5 σ T T')).put d ((zKQ rets).ren σ)):=zRD σ hn hσ hev hargs hal (by
  match rets,hrl with
  | [],_=>rfl
  | [x],hl=>
   have hx:x.idsLt σ =true:=by simpa using hl
   cases x<;>exact hx
  | x::y::zs,hl=>exact hl) hT hTo hTo' hfr hnm ⟨hc.1,fun w I ρ vs h1 h2 h3 h4=>(hc.2 w I ρ vs h1 h2 h3 h4).mono (by
   rintro e w' ⟨v,I',ρ',rfl,a1,a2,a3,a4,a5,hret,a6,a7⟩
   refine⟨v,I',ρ',rfl,a1,a2,a3,a4,a5,?_,a6,a7⟩
   match rets,hret with
   | [],⟨ys,h1,h2⟩=>exact⟨ys,h1,h2⟩
   | [x],h=>exact Cap.holds h
   | x::y::zs,⟨ys,h1,h2⟩=>exact⟨ys,h1,h2⟩)⟩ hE hG
theorem zX1 {f:FuncId} {xs:List Operand} {ats:Array TypeId} {args rets:List Cap} {T T':List (Nat×Blk)} {keep:List Nat} (σ:List (Nat×Nat)) (hn:d<E.n) (hσ:Ren σ)
  (hargs:ArgsAs σ (xs.map S.ev) args) (hal:args.all (Cap.idsLt σ)=true) (hrl:rets.all (Cap.idsLt σ)=true) (hT:BlksAs S σ T) (hTo:zB4 σ T=true) (hTo':zB4 σ T'=true)
  (hfr:zLE S σ T) (hnm:∀k,xY σ k=true→E.nm (look 0 σ k)=none∨(keep.contains k=true∧look Blk.none T k≠ .none∧look Blk.none T' k≠ .none)) (hc:GC P f args T keep rets T') (hE:E.wrB=true) (hG:E.gdt=uO P:=by rfl):
  j9 P r E ⟨some d,.call {callee:= .value (.func f),args:=xs.toArray,argTypes:=ats},ty,pos,af,g⟩ S
   (((S.killL (zHS σ keep T')).setL (renL σ T'++zJ5 σ T T')).put d ((zKQ rets).ren σ)):=
 zUX σ hn hσ (extra:=[]) (fun A w I ρ C _=>⟨[],by simp[Act.eval],Pw.nil⟩) (by rw[List.append_nil];exact hargs) hal hrl hT hTo hTo' hfr hnm hc hE hG
theorem zUY {f:FuncId} {xf:Operand} {cs:List Cap} {xs:List Operand} {ats:Array TypeId} {args rets:List Cap} {T T':List (Nat×Blk)} {keep:List Nat} (σ:List (Nat×Nat)) (hn:d<E.n) (hσ:Ren σ) (hxf:S.ev xf= .clo f cs)
  (hargs:ArgsAs σ (xs.map S.ev++cs.map Cap.av) args) (hal:args.all (Cap.idsLt σ)=true) (hrl:rets.all (Cap.idsLt σ)=true) (hT:BlksAs S σ T) (hTo:zB4 σ T=true) (hTo':zB4 σ T'=true)
  (hfr:zLE S σ T) (hnm:∀k,xY σ k=true→E.nm (look 0 σ k)=none∨(keep.contains k=true∧look Blk.none T k≠ .none∧look Blk.none T' k≠ .none)) (hc:GC P f args T keep rets T') (hE:E.wrB=true) (hG:E.gdt=uO P:=by rfl):
  j9 P r E ⟨some d,.call {callee:= .value xf,args:=xs.toArray,argTypes:=ats},ty,pos,af,g⟩ S
   (((S.killL (zHS σ keep T')).setL (renL σ T'++zJ5 σ T T')).put d ((zKQ rets).ren σ)):=
 zUX σ hn hσ (extra:=cs.map Cap.av) (fun A w I ρ C hs=>by
  have h:=hs.ev xf;rw[hxf] at h;obtain⟨ys,h1,h2⟩:=h;refine⟨ys,h1,by simpa using h2.1,fun j x y hx hy=>?_⟩;rw[List.getElem?_map] at hy;obtain⟨c,hc,rfl⟩:=Option.map_eq_some_iff.1 hy;exact Cap.holds (h2.2 j x c hx hc)) hargs hal hrl hT hTo hTo' hfr hnm hc hE hG
end
end Go.AV
namespace Go.AV
open Go.RowKit Go.M
def outK (E:Env) (e:Exit) (S2:AState):Exit→AState→Prop:=fun e' S'=>e'=e∧zGG E S' S2
def z78 {X Y:Type} (E:Env) (T:X→AState) (y:Y) (K:Exit→AState→Prop):Stp X Y→Exit→AState→Prop
 | .next x',.normal,S=>zGG E S (T x')
 | .next _,_,_=>False
 | .done _,.normal,_=>False
 | .done y',e,S=>y'=y→K e S
section
variable {P:Program} {r:Option Nat} {E:Env} {S S2:AState} {K:Exit→AState→Prop}
theorem zR {e:Exit} (h:zGG E S S2):outK E e S2 e S:=⟨rfl,h⟩
theorem z7 {c:Code} {e:Exit} (h1:Avc P r E c (outK E e S2) S) (h2:K e S2):Avc P r E c K S:=fun a w hs=>
 wpIn_mono (h1 a w hs) fun e' a' w' ⟨S',hK,hs'⟩=>by
  obtain⟨rfl,hw⟩:=hK;exact⟨S2,h2,hw a' w' hs'⟩
theorem zW {c:Code} {X Y:Type} {body:X→Option (Stp X Y)} {x0:X} {y:Y} (T:X→AState) (h:zX body x0=some y) (hS:zGG E S (T x0))
  (round:∀x s,body x=some s→Avc P r E c (z78 E T y K s) (T x)):Avc P r E (.loop c) K S:=by
 obtain⟨n,hn⟩:=zII.1 h;refine z1N (ι:=Nat×X) (fun q=>T q.2) (fun q=>iter body q.1 q.2=some y) (fun q=>q.1) (n,x0) hn hS ?_
 rintro⟨m,x⟩ hm
 cases m with
 | zero=>cases hm
 | succ m=>
  simp only[iter] at hm;cases hb:body x with
  | none=>rw[hb] at hm;cases hm
  | some s=>
   rw[hb] at hm;refine zT9 (round x s hb) fun e S' hk=>?_;cases s with
   | next x'=>
    cases e with
    | normal=>exact⟨(m,x'),hm,Nat.lt_succ_self m,hk⟩
    | _=>exact hk.elim
   | done y'=>
    have hy:y'=y:=by simpa using hm
    cases e with
    | normal=>exact hk.elim
    | _=>exact hk hy
end
def ds (s:Str):DV:= .v (.string ⟨s.toArray⟩)
structure En (α:Type) where
 dv: α→DV
 size:Nat
 ok:∀x,okDV size (dv x)=true
def En.cells {α:Type} (e:En α) (x: α):List DV:=vH (e.dv x)
theorem z1Z {size:Nat} {d:DV} (h:okDV size d=true):(vH d).length=size:=by cases d<;>simp_all [okDV,vH]
theorem En.len {α:Type} (e:En α) (x: α):(e.cells x).length=e.size:=z1Z (e.ok x)
def eI:En Int:=⟨di,1,fun _=>rfl⟩
def eB:En Bool:=⟨db,1,fun _=>rfl⟩
def eS:En Str:=⟨ds,1,fun _=>rfl⟩
def En.all {α:Type} (e:En α) (l:List α):List DV:=l.flatMap e.cells
def yG {α:Type} (e:En α) (l:List α):DV:= .sl e.size (e.all l)
def eL {α:Type} (e:En α):En (List α):=⟨yG e,1,fun _=>rfl⟩
section
variable {α:Type} (e:En α)
theorem vW (l:List α):(e.all l).length=l.length*e.size:=by
 induction l with
 | nil=>simp[En.all]
 | cons x l ih=>simp only[En.all,List.flatMap_cons,List.length_append,List.length_cons] at ih ⊢;rw[ih,e.len,Nat.add_mul];omega
theorem zW7 (l m:List α):e.all (l++m)=e.all l++e.all m:=by simp[En.all]
theorem zJH (l:List α) (k:Nat):(e.all l).drop (k*e.size)=e.all (l.drop k):=by
 induction k generalizing l with
 | zero=>simp
 | succ k ih=>
  cases l with
  | nil=>simp[En.all]
  | cons x l=>
   rw[List.drop_succ_cons,←ih l];show (e.cells x++e.all l).drop ((k+1)*e.size)=_;have:(k+1)*e.size=(e.cells x).length+k*e.size:=by rw[e.len,Nat.add_mul];omega
   rw[this,List.drop_length_add_append]
theorem zLF (l:List α) (k:Nat):(e.all l).take (k*e.size)=e.all (l.take k):=by
 induction k generalizing l with
 | zero=>simp[En.all]
 | succ k ih=>
  cases l with
  | nil=>simp[En.all]
  | cons x l=>
   rw[List.take_succ_cons];show (e.cells x++e.all l).take ((k+1)*e.size)=e.cells x++e.all (l.take k);have:(k+1)*e.size=(e.cells x).length+k*e.size:=by rw[e.len,Nat.add_mul];omega
   rw[this,List.take_length_add_append,ih]
theorem zSJ {l:List α} {k:Nat} {x: α} (h:l[k]? =some x) (off:Nat) (ho:off<e.size):(e.all l)[k*e.size+off]? =(e.cells x)[off]?:=by
 have h1:(e.all l)[k*e.size+off]? =((e.all l).drop (k*e.size))[off]?:=by rw[List.getElem?_drop]
 rw[h1,zJH];obtain⟨hlt,hx⟩:=List.getElem?_eq_some_iff.1 h;rw[List.drop_eq_getElem_cons hlt,hx];show (e.cells x++e.all (l.drop (k+1)))[off]? =_;rw[List.getElem?_append_left (by rw[e.len];exact ho)]
theorem zSK {l:List α} {k:Nat} {x: α} (h:l[k]? =some x) (off n:Nat) (ho:off+n≤e.size):((e.all l).drop (k*e.size+off)).take n=((e.cells x).drop off).take n:=by rw[←List.drop_drop,zJH];obtain⟨hlt,hx⟩:=List.getElem?_eq_some_iff.1 h;rw[List.drop_eq_getElem_cons hlt,hx];show ((e.cells x++e.all (l.drop (k+1))).drop off).take n=_;rw[List.drop_append_of_le_length (by rw[e.len];omega),List.take_append_of_le_length (by simp only[List.length_drop,e.len];omega)]
theorem z5B {l:List α} {k:Nat} {x: α} (h:l[k]? =some x) {y: α} {off:Nat} {d:DV} (ho:off<e.size) (hy:(e.cells x).set off d=e.cells y):(e.all l).set (k*e.size+off) d=e.all (l.set k y):=by
 induction l generalizing k with
 | nil=>simp at h
 | cons z l ih=>
  cases k with
  | zero=>
   simp at h;subst h;show (e.cells z++e.all l).set (0*e.size+off) d=e.cells y++e.all l;rw[Nat.zero_mul,Nat.zero_add,List.set_append_left _ _ (by rw[e.len];exact ho),hy]
  | succ k=>
   simp at h;show (e.cells z++e.all l).set ((k+1)*e.size+off) d=e.cells z++e.all (l.set k y);rw[←ih h];have:(k+1)*e.size+off=(e.cells z).length+(k*e.size+off):=by rw[e.len,Nat.add_mul];omega
   rw[this,List.set_append_right _ _ (by omega)];simp
end
theorem uL {α:Type} {l:List α} {i:Int} {v: α} (h:kV l i=some v):0≤i∧i=(i.toNat:Int)∧i.toNat<l.length∧l[i.toNat]? =some v:=by unfold kV at h;split at h;rename_i hi;exact⟨hi,by omega,(List.getElem?_eq_some_iff.1 h).1,h⟩;cases h
theorem zKR (s:Str):(⟨s.toArray⟩:ByteArray).toList=s:=by rw[ByteArray.toList_eq]
end Go.AV
namespace Go.AV
open Go.RowKit Go.M
section
variable {P:Program} {r:Option Nat} {E:Env} {S:AState} {d:Nat} {ty:TypeId} {pos:String} {af:Array Edge} {g:Option (Nat×Bool)}
section ints
variable {k:IntKind} {x y:Operand} {a b:Int} {tx tz:TypeId} (hn:d<E.n) (hx:S.ev x= .d (.v (.int k a))) (hy:S.ev y= .d (.v (.int k b)))
include hn hx hy
theorem yN:AOp P r E S ⟨some d,.binOp .add tx x y tz,ty,pos,af,g⟩ d (.d (.v (.int k (k.wrap (a+b))))):=
 ⟨rfl,hn,fun S' h=>jQ rfl hn (by simp) fun A w I ρ C hs=>by
  simp only[execOp,hs.val ((h.ev (by simp[Op.operands])).trans hx),hs.val ((h.ev (by simp[Op.operands])).trans hy)];simp[binOp,eqGuard,Op.intArith]⟩
theorem xO:AOp P r E S ⟨some d,.binOp .sub tx x y tz,ty,pos,af,g⟩ d (.d (.v (.int k (k.wrap (a-b))))):=
 ⟨rfl,hn,fun S' h=>jQ rfl hn (by simp) fun A w I ρ C hs=>by
  simp only[execOp,hs.val ((h.ev (by simp[Op.operands])).trans hx),hs.val ((h.ev (by simp[Op.operands])).trans hy)];simp[binOp,eqGuard,Op.intArith]⟩
theorem z10:AOp P r E S ⟨some d,.binOp .mul tx x y tz,ty,pos,af,g⟩ d (.d (.v (.int k (k.wrap (a*b))))):=
 ⟨rfl,hn,fun S' h=>jQ rfl hn (by simp) fun A w I ρ C hs=>by
  simp only[execOp,hs.val ((h.ev (by simp[Op.operands])).trans hx),hs.val ((h.ev (by simp[Op.operands])).trans hy)];simp[binOp,eqGuard,Op.intArith]⟩
theorem zRE {c:Int} (h0:zME k.wrap a b=some c):AOp P r E S ⟨some d,.binOp .quo tx x y tz,ty,pos,af,g⟩ d (.d (.v (.int k c))):=
 ⟨rfl,hn,fun S' h=>jQ rfl hn (by simp) fun A w I ρ C hs=>by
  unfold zME at h0;split at h0;cases h0;rename_i hb;cases h0;simp only[execOp,hs.val ((h.ev (by simp[Op.operands])).trans hx),hs.val ((h.ev (by simp[Op.operands])).trans hy)];simp[binOp,eqGuard,Op.intDiv,hb]⟩
theorem zM5 {c:Int} (h0:zI3 a b=some c):AOp P r E S ⟨some d,.binOp .rem tx x y tz,ty,pos,af,g⟩ d (.d (.v (.int k c))):=
 ⟨rfl,hn,fun S' h=>jQ rfl hn (by simp) fun A w I ρ C hs=>by
  unfold zI3 at h0;split at h0;cases h0;rename_i hb;cases h0;simp only[execOp,hs.val ((h.ev (by simp[Op.operands])).trans hx),hs.val ((h.ev (by simp[Op.operands])).trans hy)];simp[binOp,eqGuard,Op.intDiv,hb]⟩
end ints
theorem zCU {k k':IntKind} {x:Operand} {a:Int} {ts td:TypeId} {ds:TypeDesc} (hn:d<E.n) (hs:P.underlying ts=some ds) (hd:P.underlying td=some (.int k')) (hx:S.ev x= .d (.v (.int k a))):
  AOp P r E S ⟨some d,.convert ts td x,ty,pos,af,g⟩ d (.d (.v (.int k' (k'.wrap a)))):=zWZ hn hs hd hx
section strs
variable {x y:Operand} {a b:Str} {tx tz:TypeId} (hn:d<E.n) (hx:S.ev x= .d (ds a)) (hy:S.ev y= .d (ds b))
include hn hx hy
theorem zED:AOp P r E S ⟨some d,.binOp .eql tx x y tz,ty,pos,af,g⟩ d (.d (.v (.bool (a==b)))):=by
 have:=z7W (P:=P) (r:=r) (ty:=ty) (pos:=pos) (af:=af) (g:=g) (tx:=tx) (tz:=tz) hn hx hy
 rwa [zKR,zKR] at this
theorem zEE:AOp P r E S ⟨some d,.binOp .neq tx x y tz,ty,pos,af,g⟩ d (.d (.v (.bool (!(a==b))))):=by
 have:=z7X (P:=P) (r:=r) (ty:=ty) (pos:=pos) (af:=af) (g:=g) (tx:=tx) (tz:=tz) hn hx hy
 rwa [zKR,zKR] at this
theorem zW8:AOp P r E S ⟨some d,.binOp .lss tx x y tz,ty,pos,af,g⟩ d (.d (.v (.bool (Op.bytesLess a b)))):=by
 have:=z7Y (P:=P) (r:=r) (ty:=ty) (pos:=pos) (af:=af) (g:=g) (tx:=tx) (tz:=tz) hn hx hy
 rwa [zKR,zKR] at this
theorem z79:AOp P r E S ⟨some d,.binOp .gtr tx x y tz,ty,pos,af,g⟩ d (.d (.v (.bool (!Op.bytesLess a b&& !(a==b))))):=
 ⟨rfl,hn,fun S' h=>jQ rfl hn (by simp) fun A w I ρ C hs=>by
  have e1:A.eval x= .string ⟨a.toArray⟩:=hs.val ((h.ev (by simp[Op.operands])).trans hx);have e2:A.eval y= .string ⟨b.toArray⟩:=hs.val ((h.ev (by simp[Op.operands])).trans hy);simp only[execOp,e1,e2];simp[binOp,eqGuard,Op.stringOp,zKR]⟩
end strs
theorem zFS {t:TypeId} {x:Operand} {s:Str} (hn:d<E.n) (hu:P.underlying t=some .string) (hx:S.ev x= .d (ds s)):
  AOp P r E S ⟨some d,.call {callee:= .builtin .len,args:= #[x],argTypes:= #[t]},ty,pos,af,g⟩ d (.d (.v (.int .i64 s.length))):=by
 have:=zZP (P:=P) (r:=r) (ty:=ty) (pos:=pos) (af:=af) (g:=g) hn hu hx;have e:(⟨s.toArray⟩:ByteArray).size=s.length:=by simp[ByteArray.size]
 rwa [e] at this
theorem zJI {t:TypeId} {x ix:Operand} {s:Str} {kk:IntKind} {i c:Int} (hn:d<E.n) (hu:P.underlying t=some .string) (hx:S.ev x= .d (ds s)) (hi:S.ev ix= .d (.v (.int kk i))) (hv:zSI s i=some c):
  AOp P r E S ⟨some d,.index t x ix,ty,pos,af,g⟩ d (.d (.v (.int .u8 c))):=by
 unfold zSI at hv;cases hb:kV s i with
 | none=>rw[hb] at hv;cases hv
 | some b=>
  rw[hb] at hv;cases hv;obtain⟨h0,h1,h2,h3⟩:=uL hb;have e:(⟨s.toArray⟩:ByteArray).size=s.length:=by simp[ByteArray.size]
  have:=z1U (P:=P) (r:=r) (ty:=ty) (pos:=pos) (af:=af) (g:=g) hn hu hx hi h1 (by rw[e];exact h2)
  have e2:(s.toArray.toList.getD i.toNat 0)=b:=by simp[List.getD_eq_getElem?_getD,h3]
  simp only[e2] at this;exact this
section sl
variable {α:Type} {en:En α} {t e bytes:Nat} {z:Value} {l:List α} {x:Operand}
theorem yK (hn:d<E.n) (hT:SlTy P t e en.size bytes z) (hx:S.ev x= .d (yG en l)):
  AOp P r E S ⟨some d,.call {callee:= .builtin .len,args:= #[x],argTypes:= #[t]},ty,pos,af,g⟩ d (.d (.v (.int .i64 l.length))):=
 z42 hn hT hx (vW en l)
theorem zMG {id:Nat} {sh:Bool} (hn:d<E.n) (hT:SlTy P t e en.size bytes z) (hx:S.ev x= .row id) (hb:S.blk id= .row e en.size sh (en.all l)):
  AOp P r E S ⟨some d,.call {callee:= .builtin .len,args:= #[x],argTypes:= #[t]},ty,pos,af,g⟩ d (.d (.v (.int .i64 l.length))):=
 zZO hn hT hx hb (vW en l)
theorem zT {ix:Operand} {kk:IntKind} {i:Int} {v: α} (hn:d<E.n) (hT:SlTy P t e en.size bytes z) (hx:S.ev x= .d (yG en l)) (hi:S.ev ix= .d (.v (.int kk i))) (hv:kV l i=some v):
  AOp P r E S ⟨some d,.indexAddr t x ix,ty,pos,af,g⟩ d (.ip (en.all l) (i.toNat*en.size)):=
 zZQ hn hT hx hi (uL hv).2.1 (vW en l) (uL hv).2.2.1
theorem k9 {id:Nat} {sh:Bool} {ix:Operand} {kk:IntKind} {i:Int} {v: α} (hn:d<E.n) (hT:SlTy P t e en.size bytes z) (hx:S.ev x= .row id) (hb:S.blk id= .row e en.size sh (en.all l)) (hi:S.ev ix= .d (.v (.int kk i))) (hv:kV l i=some v):
  AOp P r E S ⟨some d,.indexAddr t x ix,ty,pos,af,g⟩ d (.ptr id (i.toNat*en.size)):=
 zUD hn hT hx hb hi (uL hv).2.1 (vW en l) (uL hv).2.2.1
theorem z8 {tt:TypeId} {i:Int} {v: α} {off:Nat} {y:DV} (hn:d<E.n) (hT:OneTy P tt) (hx:S.ev x= .ip (en.all l) (i.toNat*en.size+off)) (hv:kV l i=some v) (hy:(en.cells v)[off]? =some y):
  AOp P r E S ⟨some d,.load tt x,ty,pos,af,g⟩ d (.d y):=
 zL hn hT hx (by rw[zSJ en (uL hv).2.2.2 off (by rw[←en.len v];exact(List.getElem?_eq_some_iff.1 hy).1)];exact hy)
theorem zE7 {tt:TypeId} {id:Nat} {sh:Bool} {i:Int} {v: α} {off:Nat} {y:DV} (hn:d<E.n) (hT:OneTy P tt) (hx:S.ev x= .ptr id (i.toNat*en.size+off)) (hb:S.blk id= .row e en.size sh (en.all l)) (hv:kV l i=some v) (hy:(en.cells v)[off]? =some y):
  AOp P r E S ⟨some d,.load tt x,ty,pos,af,g⟩ d (.d y):=
 zW0 hn hT hx hb (by rw[zSJ en (uL hv).2.2.2 off (by rw[←en.len v];exact(List.getElem?_eq_some_iff.1 hy).1)];exact hy)
theorem yL {tt n:Nat} {i:Int} {v: α} {off:Nat} {es:List DV} (hn:d<E.n) (hT:AggTy P tt n) (hx:S.ev x= .ip (en.all l) (i.toNat*en.size+off)) (hv:kV l i=some v) (hy:((en.cells v).drop off).take n=es) (hl:es.length=n) (ho:off+n≤en.size):
  AOp P r E S ⟨some d,.load tt x,ty,pos,af,g⟩ d (.d (.agg es)):=
 wF hn hT hx (by rw[zSK en (uL hv).2.2.2 off n ho];exact hy) hl
theorem wR {tt n:Nat} {id:Nat} {sh:Bool} {i:Int} {v: α} {off:Nat} {es:List DV} (hn:d<E.n) (hT:AggTy P tt n) (hx:S.ev x= .ptr id (i.toNat*en.size+off)) (hb:S.blk id= .row e en.size sh (en.all l)) (hv:kV l i=some v) (hy:((en.cells v).drop off).take n=es) (hl:es.length=n) (ho:off+n≤en.size):
  AOp P r E S ⟨some d,.load tt x,ty,pos,af,g⟩ d (.d (.agg es)):=
 zUE hn hT hx hb (by rw[zSK en (uL hv).2.2.2 off n ho];exact hy) hl
end sl
theorem z11 {w:World} {I:Im} {ρ:Nat→Value} {v:Value} {cells:List DV} (h:Rep w I v (.pt cells)):Holds w I ρ v (.ip cells 0):=by
 cases h with
 | pt b off xs cells hx hc h1 hr=>exact⟨b,off,xs,rfl,⟨hx,hr⟩,h1,hc⟩
theorem zK {s k off n:Nat} {t:TypeId} {x:Operand} {cells:List DV} (hn:d<E.n) (hT:FldTy P s k off n t) (hx:S.ev x= .d (.pt cells)):
  AOp P r E S ⟨some d,.fieldAddr s x k,ty,pos,af,g⟩ d (.ip cells (0+off)):=
 ⟨rfl,hn,fun S' ha=>kC rfl hn (by simp) fun A w I ρ C hs=>by
  have h:=hs.ev x;rw[(ha.ev (by simp[Op.operands])).trans hx] at h;obtain⟨b,o',xs,hv,hr,h1,hcc⟩:=z11 (ρ:=ρ) h;refine⟨.pointer (some ⟨b,o'+(0+off),none⟩),?_,b,o',xs,rfl,hr,h1,hcc⟩;simp only[execOp,hv,Sem.run_bind,zJF hT w b (o'+0),Nat.add_assoc];rfl⟩
theorem yU {t n:Nat} {x:Operand} {cells:List DV} (hn:d<E.n) (hT:AggTy P t n) (hx:S.ev x= .d (.pt cells)) (hl:cells.length=n):
  AOp P r E S ⟨some d,.load t x,ty,pos,af,g⟩ d (.d (.agg cells)):=
 ⟨rfl,hn,fun S' ha=>kC rfl hn (by simp) fun A w I ρ C hs=>by
  have h:=hs.ev x;rw[(ha.ev (by simp[Op.operands])).trans hx] at h;obtain⟨b,o',xs,hv,hr,h1,hcc⟩:=z11 (ρ:=ρ) h;refine⟨.agg xs.toArray,?_,.agg _ _ hr.1 h1 hr.2⟩;simp only[execOp,hv,Sem.run_bind,Nat.add_zero];rw[zCR w hT b o' xs (by rw[hr.1];exact hl) (fun j v hj=>(hcc j v hj).1)]
  rfl⟩
theorem vX {t:TypeId} {x:Operand} {e:DV} (hn:d<E.n) (hT:OneTy P t) (hx:S.ev x= .d (.pt [e])):
  AOp P r E S ⟨some d,.load t x,ty,pos,af,g⟩ d (.d e):=zZU hn hT hx rfl
theorem SatAt.newPt {A:Act} {w:World} {I:Im} {ρ:Nat→Value} {C:Nat→Prop} (hs:SatAt E S A w I ρ C) {e:Nat} {xs:List Value} {cells:List DV} (hpw:Reps w I xs cells) (h1:∀x∈xs,x.oneCell'=true):
  ∃I':Im,SatAt E S A (w.alloc (.cells xs.toArray e)) I' ρ C∧Rep (w.alloc (.cells xs.toArray e)) I' (.pointer (some ⟨w.heap.size,0,none⟩)) (.pt cells):=by
 have hI:∀b j,I b j→b<w.heap.size:=fun b j h=>(hs.old b j h).1;have hB:Below w.heap.size w (w.alloc (.cells xs.toArray e)):=⟨rfl,rfl,rfl,by simp,fun k hk=>_root_.Go.heap_alloc_old w _ hk⟩
 let I':Im:=fun b j=>I b j∨b=w.heap.size
 have hsub:∀b j,I b j→I' b j:=fun b j h=> .inl h;have h1':=hs.grow hB;refine⟨I',h1'.widen (B:=w.heap.size) hsub (fun b j hi=>?_) (fun i b hi hb=>(hs.blt i b hi hb).2) (E.size _ _ _ hs.frame) (fun b hc=>E.csize _ _ _ hs.frame b hc),?_⟩
 ·rcases hi with hi | rfl
  ·exact⟨by have:=hI b j hi;simp;omega,.inl hi⟩
  ·exact⟨by simp,.inr (Nat.le_refl _)⟩
 ·have hr:=hpw.mono (zDW (.cells xs.toArray e) hI) hsub
  refine .pt _ _ xs cells hr.1 (fun j x hj=>⟨?_,.inr rfl⟩) h1 hr.2;rw[Nat.zero_add,cell_of_row _ _ j xs.toArray e (0,0) (heap_alloc_new w _)];simpa using hj
theorem jT {elem:TypeId} {x:Operand} {u:DV} {size:Nat} (hn:d<E.n) (hx:S.ev x= .d u) (hok:okDV size u=true):
  AOp P r E S ⟨some d,.box elem x,ty,pos,af,g⟩ d (.d (.pt (vH u))):=
 ⟨rfl,hn,fun S' ha=>zDL (by simp) fun A w I ρ C hs=>by
  have h:=hs.ev x;rw[(ha.ev (by simp[Op.operands])).trans hx] at h;obtain⟨h1,h2,_⟩:=Rep.flat h hok;obtain⟨I',hs',hr⟩:=hs.newPt (e:=elem) h1 h2;refine⟨.pointer (some ⟨w.heap.size,0,none⟩),_,?_,I',ρ,C,hs'.put hn hr⟩;simp[execOp,Instr.box,newVar,newRow]⟩
structure StTy (P:Program) (t:TypeId) (places:List (Nat×Nat)) (zs:List Value):Prop where
 und:∃fields,P.underlying t=some (.struct fields)∧∀w,(fields.mapM fun (f:Field)=>do pure (f.offset,←sizeOf f.type)).run P w= .ok places.toArray w
 zero:∀w,(zeroValue t).run P w= .ok (.agg zs.toArray) w
 one:∀x∈zs,x.oneCell'=true
def zM6 (places:List (Nat×Nat)):List DV→List (Nat×DV)→Option (List DV)
 | cells,[]=>some cells
 | cells,(i,v)::rest=>match places[i]? with
  | none=>none
  | some (off,size)=>if okDV size v&&Nat.ble (off+size) cells.length then zM6 places (cells.take off++vH v++cells.drop (off+size)) rest else none
theorem zUZ {w:World} {I:Im} {places:List (Nat×Nat)}:∀(ds:List (Nat×DV)) (vs:List (Nat×Value)) (arr:Array Value) (cells cells':List DV),Reps w I arr.toList cells→(∀x∈arr.toList,x.oneCell'=true)→
  Pw (fun (v:Nat×Value) (y:Nat×DV)=>v.1=y.1∧Rep w I v.2 y.2) vs ds→zM6 places cells ds=some cells'→
  ∃arr',Instr.fill (fun i=>places[i]?) arr vs=some arr'∧Reps w I arr'.toList cells'∧∀x∈arr'.toList,x.oneCell'=true:=by
 intro ds
 induction ds with
 | nil=>
  intro vs arr cells cells' hr h1 hp hf;have:vs= []:=List.eq_nil_of_length_eq_zero hp.1;subst this;simp only[zM6,Option.some.injEq] at hf;subst hf;exact⟨arr,rfl,hr,h1⟩
 | cons p ds ih=>
  intro vs arr cells cells' hr h1 hp hf;obtain⟨i,y⟩:=p;cases vs with
  | nil=>have:=hp.1;simp at this
  | cons q vs=>
   obtain⟨i',v⟩:=q;obtain⟨hi,hv⟩:=hp.2 0 (i',v) (i,y) rfl rfl;simp only at hi hv;subst hi;simp only[zM6] at hf;cases hpl:places[i']? with
   | none=>simp[hpl] at hf
   | some os=>
    obtain⟨off,size⟩:=os;simp only[hpl] at hf;split at hf
    ·rename_i hc
     simp only[Bool.and_eq_true] at hc;obtain⟨hf1,hf2,hf3⟩:=Rep.flat hv hc.1;have hle:off+size≤cells.length:=Nat.le_of_ble_eq_true hc.2;have hvs:v.cells.size=size:=by rw[←Array.length_toList,hf1.1,hf3]
     have hal:arr.toList.length=cells.length:=hr.1;have hr':Reps w I (arr.toList.take off++v.cells.toList++arr.toList.drop (off+size)) (cells.take off++vH y++cells.drop (off+size)):=
      Pw.append (Pw.append (hr.take off) hf1) (hr.drop (off+size))
     obtain⟨arr',ha,hra,h1a⟩:=ih vs (arr.toList.take off++v.cells.toList++arr.toList.drop (off+size)).toArray _ cells' (by simpa using hr') (by
      intro x hx;simp only[List.mem_append] at hx;rcases hx with (hx | hx) | hx
      ·exact h1 x (List.mem_of_mem_take hx)
      ·exact hf2 x hx
      ·exact h1 x (List.mem_of_mem_drop hx)) ⟨by have:=hp.1;simpa using this,fun j a b ha hb=>hp.2 (j+1) a b (by simpa using ha) (by simpa using hb)⟩ hf
     refine⟨arr',?_,hra,h1a⟩;rw[zUB (off:=off) (size:=size) hpl hvs (by rw[←Array.length_toList,hal];exact hle)]
     exact ha
    ·cases hf
def dvP (S:AState):List (Nat×Operand)→Option (List (Nat×DV))
 | []=>some []
 | (i,x)::r=>match S.ev x,dvP S r with
  | .d y,some ys=>some ((i,y)::ys)
  | _,_=>none
theorem zMH {A:Act} {w:World} {I:Im} {ρ:Nat→Value} {C:Nat→Prop} (hs:SatAt E S A w I ρ C):∀{ps:List (Nat×Operand)} {ds:List (Nat×DV)},dvP S ps=some ds→
  Pw (fun (v:Nat×Value) (y:Nat×DV)=>v.1=y.1∧Rep w I v.2 y.2) (ps.map fun p=>(p.1,A.eval p.2)) ds
 | [],ds,h=>by simp[dvP] at h;subst h;exact Pw.nil
 | (i,x)::r,ds,h=>by
  simp only[dvP] at h;split at h
  ·rename_i y ys hy hys
   cases h;have hv:=hs.ev x;rw[hy] at hv;exact Pw.cons ⟨rfl,hv⟩ (zMH hs hys)
  ·cases h
theorem zMI {S':AState} {o:Oper} (ha:Agree S S' o):∀{ps:List (Nat×Operand)},(∀p∈ps,p.2∈o.op.operands)→dvP S' ps=dvP S ps
 | [],_=>rfl
 | (i,x)::r,h=>by
  simp only[dvP];rw[ha.ev (h (i,x) (by simp)),zMI ha fun p hp=>h p (by simp[hp])]
theorem xR {t:TypeId} {places:List (Nat×Nat)} {zs:List Value} {ps:List (Nat×Operand)} {ds:List (Nat×DV)} {cells:List DV} (hn:d<E.n) (hT:StTy P t places zs) (hds:dvP S ps=some ds) (hf:zM6 places (zs.map DV.v) ds=some cells):
  AOp P r E S ⟨some d,.build t ps.toArray,ty,pos,af,g⟩ d (.d (.agg cells)):=
 ⟨rfl,hn,fun S' ha=>kC rfl hn (by simp) fun A w I ρ C hs=>by
  obtain⟨fields,hu,hp⟩:=hT.und;have hds':dvP S' ps=some ds:=(zMI ha (fun p hp=>by simp only[Op.operands];simp;exact⟨p.1,hp⟩)).trans hds
  obtain⟨arr',h1,h2,h3⟩:=zUZ (places:=places) ds (ps.map fun p=>(p.1,A.eval p.2)) zs.toArray (zs.map DV.v) cells (by simpa using zOR w I zs) (by simpa using hT.one) (zMH hs hds') hf;refine⟨.agg arr',?_,by have:=Rep.agg (w:=w) (I:=I) arr'.toList cells h2.1 h3 h2.2;rw[Array.toArray_toList] at this;exact this⟩
  have hz:=hT.zero w;simp only[execOp,Instr.build,List.map_toArray,Sem.run_bind,hz,Result.andThen_ok,run_underlying hu,hp w,Value.cells,List.getElem?_toArray,h1,Sem.run_pure]⟩
end
end Go.AV
namespace Go.AV
open Go.RowKit Go.M
section
variable {P:Program} {r:Option Nat} {E:Env} {S:AState} {d:Nat} {ty:TypeId} {pos:String} {af:Array Edge} {g:Option (Nat×Bool)}
variable {α:Type} {en:En α} {t e bytes:Nat} {z:Value} {l m l':List α} {x s:Operand}
theorem zU0 (h:app l m=some l'):l'=l++m∧l.length+m.length≤LIM:=by unfold app at h;split at h;rename_i hh;exact⟨(Option.some.inj h).symm,hh⟩;cases h
theorem zZ1 (hb:bytes≤32768) (h:l.length+m.length≤LIM):(l.length+m.length)*bytes≤140737488355328:=by have h1:(l.length+m.length)*bytes≤4294967296*bytes:=Nat.mul_le_mul_right _ h;have h2:4294967296*bytes≤4294967296*32768:=Nat.mul_le_mul_left _ hb;omega
theorem z13 {id:Nat} {sh:Bool} {cells:List DV} (hb:S.blk id= .row e en.size sh cells) (news:List DV):(S.kill id).app id news=(S.kill id).setBlk id (.row e en.size sh (cells++news)):=by unfold AState.app;rw[zGD,hb];rfl
theorem j7 {id:Nat} {sh:Bool} (hn:d<E.n) (hT:SlTy P t e en.size bytes z) (hs:S.ev s= .row id) (hb:S.blk id= .row e en.size sh (en.all l)) (hx:S.ev x= .d (yG en m)) (ha:app l m=some l') (hby:0<bytes) (hby2:bytes≤32768)
  (hE:E.wrB=true) (hnm:E.nm id=none):
  j9 P r E ⟨some d,.call {callee:= .builtin .append,args:= #[s,x],argTypes:= #[t,t]},ty,pos,af,g⟩ S (((S.kill id).setBlk id (.row e en.size sh (en.all l'))).put d (.row id)):=by
 obtain⟨rfl,hle⟩:=zU0 ha;have:=zW1 (P:=P) (r:=r) (ty:=ty) (pos:=pos) (af:=af) (g:=g) hn hT hs hb hx (vW en l) (vW en m) hby (zZ1 hby2 hle) hE hnm;rw[z13 hb] at this;rw[zW7];exact this
theorem zW9 {n:Int} {zero: α} (hn:d<E.n) (hT:SlTy P t e en.size bytes z) (hx:S.ev x= .d (.v (.int .i64 n))) (hz:z.cells.toList.map DV.v=en.cells zero) (ha:mkM zero n=some l) (hby2:bytes≤32768) (hnm:E.nm d=none):
  j9 P r E ⟨some d,.makeSlice t x x,ty,pos,af,g⟩ S (((S.kill d).setBlk d (.row e en.size false (en.all l))).put d (.row d)):=by
 unfold mkM at ha;split at ha
 ·rename_i hh
  cases ha;have h1:n=((n.toNat:Nat):Int):=by omega
  have h2:n.toNat*bytes≤140737488355328:=by
   have h1:n.toNat*bytes≤4294967296*bytes:=Nat.mul_le_mul_right _ hh.2;have h2:4294967296*bytes≤4294967296*32768:=Nat.mul_le_mul_left _ hby2;omega
  have:=zQZ (P:=P) (r:=r) (ty:=ty) (pos:=pos) (af:=af) (g:=g) hn hT hx h1 h2 (by have:=hh.2;unfold LIM at this;unfold maxLen;omega) hnm
  have e1:zHD z n.toNat=en.all (List.replicate n.toNat zero):=by
   unfold zHD;rw[hz]
   induction n.toNat with
   | zero=>rfl
   | succ k ih=>simp only[List.replicate_succ,List.flatten_cons,En.all,List.flatMap_cons] at ih ⊢;rw[ih]
  rw[e1] at this;exact this
 ·cases ha
theorem zMJ {i:Int} {v: α} (h:zBE l i v=some l'):l'=l.set i.toNat v∧0≤i∧i.toNat<l.length:=by unfold zBE at h;split at h;rename_i hh;exact⟨(Option.some.inj h).symm,hh⟩;cases h
theorem zF0 {tt:TypeId} {y:Operand} {id off:Nat} {i:Int} {v v': α} {u:DV} (hT:OneTy P tt) (hx:S.ev x= .ptr id (i.toNat*en.size+off)) (hb:S.blk id= .row e en.size false (en.all l)) (hy:S.ev y= .d u) (hv:kV l i=some v)
  (hu:(en.cells v).set off u=en.cells v') (ho:off<en.size) (hs:zBE l i v'=some l') (h1:(AV.d u).one=true) (hE:E.wrB=true):
  j9 P r E ⟨none,.store tt x y,ty,pos,af,g⟩ S (S.setBlk id (.row e en.size false (en.all l'))):=by
 obtain⟨rfl,h0,hlt⟩:=zMJ hs;rw[←z5B en (uL hv).2.2.2 ho hu];refine zOL hT hx hb ?_ hy h1 hE;rw[vW];have:(i.toNat+1)*en.size≤l.length*en.size:=Nat.mul_le_mul_right _ hlt;rw[Nat.add_mul] at this;omega
theorem zU1 {lo hi:Int} (h:slc l lo hi=some l'):l'=(l.take hi.toNat).drop lo.toNat∧0≤lo∧lo≤hi∧hi.toNat≤l.length:=by unfold slc at h;split at h;rename_i hh;exact⟨(Option.some.inj h).symm,hh⟩;cases h
theorem z14 {lo:Operand} {k1:IntKind} {a:Int} (hn:d<E.n) (hT:SlTy P t e en.size bytes z) (hx:S.ev x= .d (yG en l)) (hlo:S.ev lo= .d (.v (.int k1 a))) (h:slc l a l.length=some l'):
  AOp P r E S ⟨some d,.slice t x (some lo) none none,ty,pos,af,g⟩ d (.d (yG en l')):=by
 obtain⟨rfl,h1,h2,h3⟩:=zU1 h;exact zQ5 hn hT hx (vW en l) (l:=a.toNat) (h:=l.length) ⟨⟨k1,a,hlo,by omega⟩,rfl,by omega,by omega⟩ (by rw[zLF,zJH];simp)
theorem z15 {hi:Operand} {k2:IntKind} {b:Int} (hn:d<E.n) (hT:SlTy P t e en.size bytes z) (hx:S.ev x= .d (yG en l)) (hhi:S.ev hi= .d (.v (.int k2 b))) (h:slc l 0 b=some l'):
  AOp P r E S ⟨some d,.slice t x none (some hi) none,ty,pos,af,g⟩ d (.d (yG en l')):=by
 obtain⟨rfl,h1,h2,h3⟩:=zU1 h;exact zQ5 hn hT hx (vW en l) (l:=0) (h:=b.toNat) ⟨rfl,⟨k2,b,hhi,by omega⟩,by omega,h3⟩ (by rw[zLF];simp)
def findAt {κ:Type} [DecidableEq κ] (a: κ):List κ→List MapEntry→Nat→Option (Nat×Value)
 | k::ks,x::es,i=>if a=k then some (i,x.val) else findAt a ks es (i+1)
 | _,_,_=>none
structure KeyTy {κ:Type} [DecidableEq κ] (P:Program) (kt:TypeId) (kv: κ→Value):Prop where
 same:∀a,Instr.sameBits 10000 (kv a) (kv a)=true
 check:∀a b w,(Instr.checkKey b 10000 kt (kv a)).run P w= .ok () w
 find:∀a (ks:List κ) (es:List MapEntry) w,Pw (fun (x:MapEntry) k=>x.key=kv k) es ks→(Instr.findKey kt (kv a) es).run P w= .ok (findAt a ks es 0) w
theorem zHH {α β:Type} {R: α→β→Prop} {x: α} {y: β} {xs:List α} {ys:List β} (h:Pw R (x::xs) (y::ys)):R x y∧Pw R xs ys:=
 ⟨h.2 0 x y rfl rfl,by have:=h.1;simpa using this,fun j a b ha hb=>h.2 (j+1) a b (by simpa using ha) (by simpa using hb)⟩
theorem zJJ {κ:Type} [DecidableEq κ] {kv: κ→Value} {td:TypeDesc} (h0:∀a b,Instr.sameNow td (kv a) (kv b)=some (decide (a=b))) (a: κ):∀(es:List MapEntry) (ks:List κ) (i:Nat),Pw (fun (x:MapEntry) k=>x.key=kv k) es ks→
  Instr.findNow td (kv a) es i=some (findAt a ks es i)
 | [],ks,i,h=>by
  cases ks with
  | nil=>rfl
  | cons k ks=>have:=h.1;simp at this
 | x::es,ks,i,h=>by
  cases ks with
  | nil=>have:=h.1;simp at this
  | cons k ks=>
   obtain⟨h1,h2⟩:=zHH h;simp only[Instr.findNow,h1,h0,findAt];by_cases e:a=k
   ·simp[e]
   ·simp only[e,decide_false,if_false]
    exact zJJ h0 a es ks (i+1) h2
def kI (n:Int):Value:= .int .i64 n
def kS (s:Str):Value:= .string ⟨s.toArray⟩
theorem zZ2 {kt:TypeId} (hu:P.underlying kt=some (.int .i64)) (n:Nat) (a:Int) (b:Bool) (w:World):(Instr.checkKey b (n+1) kt (kI a)).run P w= .ok () w:=by simp only[kI,Instr.checkKey,Sem.run_bind,run_underlying hu,Result.andThen_ok];rfl
theorem zZ3 {kt:TypeId} (hu:P.underlying kt=some .string) (n:Nat) (a:Str) (b:Bool) (w:World):(Instr.checkKey b (n+1) kt (kS a)).run P w= .ok () w:=by simp only[kS,Instr.checkKey,Sem.run_bind,run_underlying hu,Result.andThen_ok];rfl
theorem z8A {kt:TypeId} (hu:P.underlying kt=some (.int .i64)):KeyTy P kt kI where
 same:=fun a=>by simp[kI,Instr.sameBits]
 check:=fun a b w=>zZ2 hu 9999 a b w
 find:=fun a ks es w h=>by
  have:=zJJ (kv:=kI) (td:= .int .i64) (fun a b=>by simp only[kI,Instr.sameNow,if_true];rfl) a es ks 0 h
  simp only[Instr.findKey,Sem.run_bind,run_underlying hu,Result.andThen_ok];rw[this];rfl
theorem zSL (a b:Str):((⟨a.toArray⟩:ByteArray)==⟨b.toArray⟩)=decide (a=b):=by show (a.toArray==b.toArray)=_;rw[Bool.eq_iff_iff];simp
theorem z8B {kt:TypeId} (hu:P.underlying kt=some .string):KeyTy P kt kS where
 same:=fun a=>by simp only[kS,Instr.sameBits,zSL];simp
 check:=fun a b w=>zZ3 hu 9999 a b w
 find:=fun a ks es w h=>by
  have:=zJJ (kv:=kS) (td:= .string) (fun a b=>by simp only[kS,Instr.sameNow,zSL]) a es ks 0 h;simp only[Instr.findKey,Sem.run_bind,run_underlying hu,Result.andThen_ok];rw[this];rfl
theorem zU2 {w:World} {I:Im} (vs:List Value) (h:vs.all Value.oneCell'=true):Rep w I (.agg vs.toArray) (.agg (vs.map DV.v)):=
 .agg vs _ (by simp) (fun x hx=>List.all_eq_true.1 h x hx) (zOR w I vs).2
def vB {κ ν:Type} (kv: κ→Value) (ev:En ν) (m:List (κ×ν)):List (Value×DV):=m.map fun p=>(kv p.1,ev.dv p.2)
structure MapTy (P:Program) (t kt vt:TypeId) (zv:Value):Prop where
 und:P.underlying t=some (.map kt vt)
 zero:∀w,(zeroValue vt).run P w= .ok zv w
section
variable {κ ν:Type} [DecidableEq κ] {kv: κ→Value} {ev:En ν} {mp:List (κ×ν)} {k: κ} {kt vt:TypeId} {zv:Value} {zero: ν} {km kk:Operand} {id:Nat}
theorem zGI {w:World} {I:Im} {a: κ}:∀{m:List (κ×ν)} {es:List MapEntry} {i:Nat},Pw (fun (x:MapEntry) (y:Value×DV)=>x.key=y.1∧Rep w I x.val y.2) es (vB kv ev m)→
  (mget m a=none∧findAt a (m.map Prod.fst) es i=none)∨∃v j x,mget m a=some v∧findAt a (m.map Prod.fst) es i=some (i+j,x)∧Rep w I x (ev.dv v)∧(∃y,es[j]? =some y∧y.key=kv a∧y.val=x)∧
   ∀(u:Value) (v': ν) (f:MapEntry→MapEntry),(∀y,(f y).key=y.key∨(f y).key=kv a)→(∀y,(f y).val=u)→Rep w I u (ev.dv v')→Pw (fun (x:MapEntry) (y:Value×DV)=>x.key=y.1∧Rep w I x.val y.2) (es.modify j f) (vB kv ev (wD m a v'))
 | [],es,i,h=>by left;exact⟨rfl,by cases es<;>rfl⟩
 | (k',v')::m,[],i,h=>by have:=h.1;simp[vB] at this
 | (k',v')::m,x::es,i,h=>by
  obtain⟨h1,h2⟩:=zHH h;simp only[List.map_cons,findAt,mget,wD];by_cases e:a=k'
  ·subst e
   right;refine⟨v',0,x.val,by simp,by simp,h1.2,⟨x,rfl,h1.1,rfl⟩,fun u v'' f hk hv hr=>?_⟩;simp only[if_true,List.modify_zero_cons];refine Pw.cons ⟨?_,by rw[hv];exact hr⟩ h2
   rcases hk x with hk | hk
   ·rw[hk];exact h1.1
   ·exact hk
  ·simp only[e,if_false]
   rcases zGI (a:=a) (m:=m) (es:=es) (i:=i+1) h2 with ⟨e1,e2⟩ | ⟨v,j,y,e1,e2,e3,⟨q,q1,q2,q3⟩,e4⟩
   ·left;exact⟨e1,e2⟩
   ·right
    refine⟨v,j+1,y,e1,by rw[e2];congr 2;omega,e3,⟨q,by simpa using q1,q2,q3⟩,fun u v'' f hk hv hr=>?_⟩
    simp only[List.modify_succ_cons];exact Pw.cons h1 (e4 u v'' f hk hv hr)
theorem zLG {m:List (κ×ν)} {a: κ} (h:mget m a=none) (v: ν):wD m a v=m++ [(a,v)]:=by
 induction m with
 | nil=>rfl
 | cons p m ih=>
  obtain⟨k',v'⟩:=p;simp only[mget,wD] at h ⊢;split at h;cases h;rename_i e;simp only[e,if_false,ih h,List.cons_append]
omit [DecidableEq κ] in
theorem zN1 {w:World} {I:Im} {m:List (κ×ν)} {es:List MapEntry} (h:Pw (fun (x:MapEntry) (y:Value×DV)=>x.key=y.1∧Rep w I x.val y.2) es (vB kv ev m)):Pw (fun (x:MapEntry) k=>x.key=kv k) es (m.map Prod.fst):=by
 refine⟨by rw[h.1];simp[vB],fun j x k hx hk=>?_⟩
 rw[List.getElem?_map] at hk;cases hm:m[j]? with
 | none=>simp[hm] at hk
 | some p=>
  simp[hm] at hk;subst hk;exact(h.2 j x (kv p.1,ev.dv p.2) hx (by simp[vB,hm])).1
theorem zGJ {w:World} {I:Im} {b clock:Nat} {ents:Array MapEntry} (hT:MapTy P t kt vt zv) (hK:KeyTy P kt kv) (hh:w.heap[b]? =some (.map ents clock)) (hp:Pw (fun (x:MapEntry) (y:Value×DV)=>x.key=y.1∧Rep w I x.val y.2) ents.toList (vB kv ev mp)) (hz:Rep w I zv (ev.dv zero)) (ok:Bool):
  ∃v,(Instr.lookup t (.map (some b)) (kv k) ok).run P w= .ok (if ok then .tuple #[v,.bool (wK mp k)] else v) w∧Rep w I v (ev.dv (xI mp k zero)):=by
 have hf:=hK.find k _ ents.toList w (zN1 hp);have hget:(getObj b).run P w= .ok (.map ents clock) w:=by simp[getObj,Sem.run,hh]
 rcases zGI (a:=k) (i:=0) hp with ⟨e1,e2⟩ | ⟨v,j,x,e1,e2,e3,_,_⟩
 ·rw[e2] at hf
  refine⟨zv,?_,by simpa[xI,e1] using hz⟩;simp only[Instr.lookup,Sem.run_bind,run_underlying hT.und,Result.andThen_ok,hget,Sem.run_pure,hK.check,hf,hT.zero,wK,e1];rfl
 ·rw[e2] at hf
  refine⟨x,?_,by simpa[xI,e1] using e3⟩;simp only[Instr.lookup,Sem.run_bind,run_underlying hT.und,Result.andThen_ok,hget,Sem.run_pure,hK.check,hf,wK,e1];rfl
theorem zU3 (hn:d<E.n) (hT:MapTy P t kt vt zv) (hK:KeyTy P kt kv) (hm:S.ev km= .row id) (hb:S.blk id= .map (vB kv ev mp)) (hk:S.ev kk= .d (.v (kv k))) (hz:∀w I,Rep w I zv (ev.dv zero)):
  AOp P r E S ⟨some d,.lookup t km kk false,ty,pos,af,g⟩ d (.d (ev.dv (xI mp k zero))):=
 ⟨rfl,hn,fun S' ha=>kC rfl hn (by simp) fun A w I ρ C hs=>by
  have hbk:=hs.blks id;rw[(ha.blk id).trans hb] at hbk;obtain⟨b,ents,clock,hρ,_,hh,hp,_⟩:=hbk;have hv:=hs.ev km;rw[(ha.ev (by simp[Op.operands])).trans hm] at hv;have hv':A.eval km= .map (some b):=Eq.trans hv hρ;have hkv:=hs.val ((ha.ev (x:=kk) (by simp[Op.operands])).trans hk);have hz':=hz w I;obtain⟨v,h1,h2⟩:=zGJ (w:=w) (I:=I) hT hK hh hp hz' false;refine⟨v,?_,h2⟩;simp only[execOp,hv',hkv,Sem.run_bind,h1];rfl⟩
theorem zJU (hn:d<E.n) (hT:MapTy P t kt vt zv) (hK:KeyTy P kt kv) (hm:S.ev km= .row id) (hb:S.blk id= .map (vB kv ev mp)) (hk:S.ev kk= .d (.v (kv k))) (hz:∀w I,Rep w I zv (ev.dv zero)):
  AOp P r E S ⟨some d,.lookup t km kk true,ty,pos,af,g⟩ d (.tup [ev.dv (xI mp k zero),db (wK mp k)]):=
 ⟨rfl,hn,fun S' ha=>kC rfl hn (by simp) fun A w I ρ C hs=>by
  have hbk:=hs.blks id;rw[(ha.blk id).trans hb] at hbk;obtain⟨b,ents,clock,hρ,_,hh,hp,_⟩:=hbk;have hv:=hs.ev km;rw[(ha.ev (by simp[Op.operands])).trans hm] at hv;have hv':A.eval km= .map (some b):=Eq.trans hv hρ;have hkv:=hs.val ((ha.ev (x:=kk) (by simp[Op.operands])).trans hk);have hz':=hz w I;obtain⟨v,h1,h2⟩:=zGJ (w:=w) (I:=I) hT hK hh hp hz' true;refine⟨.tuple #[v,.bool (wK mp k)],?_,[v,.bool (wK mp k)],rfl,Pw.cons h2 (Pw.cons (.v _) Pw.nil)⟩;simp only[execOp,hv',hkv,Sem.run_bind,h1];rfl⟩
theorem zDZ (hn:d<E.n) (hnm:E.nm d=none):j9 P r E ⟨some d,.makeMap t none,ty,pos,af,g⟩ S (((S.kill d).setBlk d (.map [])).put d (.row d)):=
 zDL (by simp) fun A w I ρ C hs=>by
  have hI:∀b j,I b j→b<w.heap.size:=fun b j h=>(hs.old b j h).1;have hb:=hs.update (zGF w (.map #[] 0)) (id:=d) (u:= .map (some w.heap.size)) (x:= .map []) (by simp) (zDW _ hI) (fun b hb=> .inl (by simp[blockOf] at hb;omega))
   ⟨w.heap.size,#[],0,by simp[upd],E.mineB _ (E.size _ _ _ hs.frame),heap_alloc_new w _,Pw.nil,fun j hj=>by have:=hI _ j hj;omega,.nil⟩ (.inl rfl) hnm
  refine⟨.map (some w.heap.size),w.alloc (.map #[] 0),?_,I,_,C,hb.put hn (by simp[Holds,upd])⟩;simp only[execOp,Instr.makeMap,Option.map_none,Sem.run_bind,run_newObj_alloc,Result.andThen_ok,Sem.run_pure]
theorem zGK {w:World} {b clock:Nat} {ents:Array MapEntry} {o':Obj} (h:w.heap[b]? =some (.map ents clock)):(setObj b o').run P w= .ok () {w with heap:=w.heap.setIfInBounds b o'}:=by simp[setObj,Sem.run,h]
theorem zCV {x:Operand} {v: ν} {u:DV} (hT:MapTy P t kt vt zv) (hK:KeyTy P kt kv) (hm:S.ev km= .row id) (hb:S.blk id= .map (vB kv ev mp)) (hk:S.ev kk= .d (.v (kv k))) (hx:S.ev x= .d u) (hu:u=ev.dv v) (hE:E.wrB=true):
    j9 P r E ⟨none,.mapUpdate t km kk x,ty,pos,af,g⟩ S (S.setBlk id (.map (vB kv ev (wD mp k v)))):=
  zER rfl (by simp) fun A w I ρ C hs=>by
    subst hu;have hbk:=hs.blks id;rw[hb] at hbk;obtain⟨b,ents,clock,hρ,hM,hh,hp,hI,hN⟩:=hbk;have hv:=hs.ev km;rw[hm] at hv;have hv':A.eval km= .map (some b):=Eq.trans hv hρ;have hkv:=hs.val hk;have hxv:=hs.ev x;rw[hx] at hxv;have hlt:=(Array.getElem?_eq_some_iff.1 hh).1;have hf:=hK.find k _ ents.toList w (zN1 hp);have hget:(getObj b).run P w= .ok (.map ents clock) w:=by simp[getObj,Sem.run,hh]
    have fin:∀(ents':Array MapEntry) (clock':Nat),Pw (fun (x:MapEntry) (y:Value×DV)=>x.key=y.1∧Rep w I x.val y.2) ents'.toList (vB kv ev (wD mp k v))→Born ents' clock'→
        Sat E (S.setBlk id (.map (vB kv ev (wD mp k v)))) A {w with heap:=w.heap.setIfInBounds b (.map ents' clock')}:=by
      intro ents' clock' hp' hN';have hg:w.grownBy {w with heap:=w.heap.setIfInBounds b (.map ents' clock')} (some b):=
        ⟨rfl,rfl,rfl,by simp,fun q _ hq=>Array.getElem?_setIfInBounds_ne (fun e=>hq (by rw[e]))⟩
      have hsame:Same I w {w with heap:=w.heap.setIfInBounds b (.map ents' clock')}:=fun b' j hi=>by
        have:b'≠b:=fun e=>hI j (e▸hi);exact KeepB.of (Array.getElem?_setIfInBounds_ne (fun e=>this e.symm))
      refine⟨I,ρ,C,hs.modify hg (by rw[hb];simp) (by rw[hρ];rfl) hsame ⟨b,ents',clock',hρ,hM,by simp[hlt],hp'.imp fun _ _ h=>⟨h.1,h.2.mono hsame (fun _ _ h=>h)⟩,hI,hN'⟩ hE⟩
    rcases zGI (a:=k) (i:=0) hp with ⟨e1,e2⟩ | ⟨v0,j,x0,e1,e2,e3,⟨q,q1,q2,q3⟩,e4⟩
    · rw[e2] at hf
      refine⟨_,?_,fin (ents.push {key:=kv k,val:=A.eval x,born:=clock}) (clock+1) ?_ hN.push⟩
      · simp only[execOp,hv',hkv,Instr.mapUpdate,Sem.run_bind,run_underlying hT.und,Result.andThen_ok,hget,hK.check,hf,zGK hh,Sem.run_pure]
      · rw[zLG e1]
        simp only[vB,List.map_append,Array.toList_push,List.map_cons,List.map_nil];exact Pw.append hp (Pw.cons ⟨rfl,hxv⟩ Pw.nil)
    · rw[e2] at hf
      have hq:ents[0+j]? =some q:=by rw[Nat.zero_add];simpa using q1
      have hkey:(Instr.keyThatStays (((ents[0+j]?).map (·.key)).getD (kv k)) (kv k)).run P w= .ok (kv k) w:=by
        rw[hq];simp only[Option.map_some,Option.getD_some,q2,Instr.keyThatStays,hK.same,if_true,Sem.run_pure]
      refine⟨_,?_,fin (ents.modify (0+j) fun e=>{e with key:=kv k,val:=A.eval x}) clock ?_ (hN.modify fun _=>rfl)⟩
      · simp only[execOp,hv',hkv,Instr.mapUpdate,Sem.run_bind,run_underlying hT.und,Result.andThen_ok,hget,hK.check,hf,hkey,zGK hh,Sem.run_pure]
      · rw[Nat.zero_add,Array.toList_modify]
        exact e4 (A.eval x) v _ (fun _=> .inr rfl) (fun _=>rfl) hxv
end
end
end Go.AV
namespace Go.AV
open Go.RowKit Go.M
def FnC (P:Program) (c:DV) (ds rs:List DV):Prop:=
 (∃f caps,c= .fn f caps∧zU P f (ds++caps) rs)∨(∃f,c= .v (.func (.func f) #[] #[])∧zU P f ds rs)
section
variable {P:Program} {r:Option Nat} {E:Env} {S:AState} {d:Nat} {ty:TypeId} {pos:String} {af:Array Edge} {g:Option (Nat×Bool)}
theorem zE2 {x:Operand} {xs:List Operand} {ats:Array TypeId} {c:DV} {ds rs:List DV} (hn:d<E.n) (hx:S.ev x= .d c) (hds:unD (xs.map S.ev)=some ds) (hc:FnC P c ds rs) (hG:E.gdt=uO P:=by rfl):
  AOp P r E S ⟨some d,.call {callee:= .value x,args:=xs.toArray,argTypes:=ats},ty,pos,af,g⟩ d (zOO rs):=by
 rcases hc with ⟨f,caps,rfl,hc⟩ | ⟨f,rfl,hc⟩
 ·exact z44 hn hx hds hc hG
 ·refine⟨rfl,hn,fun S' ha=>?_⟩
  have hx':=(ha.ev (x:=x) (by simp[Op.operands,Call.operands])).trans hx;have hds':unD (xs.map S'.ev)=some ds:=by
   have:xs.map S'.ev=xs.map S.ev:=List.map_congr_left fun y hy=>ha.ev (by simp[Op.operands,Call.operands,hy]);rw[this];exact hds
  obtain⟨hd1,hd2⟩:=zEB S' hds'
  rintro A w K Q ⟨I,ρ,C,hs⟩ hk
  obtain⟨⟨fn,hf,hname,hbody⟩,hcall⟩:=hc;obtain⟨I1,h1,h2,h3⟩:=SatAt.dvL _ hs (u7 hs xs) hd1;rw[hd2] at h2;have hv:=hs.val hx';have hcl:=hcall w I1 (xs.map A.eval) (fun b j hi=>(h2.old b j hi).1) (hG▸h2.gl) h3;refine⟨fun f _=>trivial,?_⟩;rw[Oper.semAt_eq _ _ _ (by simp)];have hrun:(execOp A.eval ⟨some d,.call {callee:= .value x,args:=xs.toArray,argTypes:=ats},ty,pos,af,g⟩).run P w= .ok (.enter f (xs.map A.eval).toArray) w:=by
   simp only[execOp,resolve,hv,Deferred.ofValue];have hn1:¬fn.name= "runtime.NumGoroutine" :=by simpa using hname
   have hn2:¬fn.body=none:=by intro e;simp[e] at hbody
   simp[invoke,callFunc,hf,hn1,hn2,List.map_toArray]
  rw[hrun];refine⟨by simp[fen,Fence.wide],?_⟩;show CallsIn Fence.wide 0 P f _ w _;refine callsIn_wide.2 (hcl.mono ?_)
  rintro e w' ⟨v,I',rfl,hb,hsub,hnew,hret⟩
  refine hk _ _ ⟨I',ρ,C,SatAt.put ?_ hn (zHC hret)⟩;have h4:=h2.grow hb;exact h4.widen hsub hnew (fun i b hi hbk=>(h2.blt i b hi hbk).2) (E.size _ _ _ h2.frame) (fun b hc=>E.csize _ _ _ h2.frame b hc)
variable {ops:Array Oper} {o:Oper} {rest:List Oper} {J:AState→Prop} {j t:Nat} {want b c:Bool} {x:AV}
theorem zG (h:AOp P r E S o d x) (k:Sq P r E ops rest (S.put d x) J) (hg:o.guard=none:=by rfl):Sq P r E ops (o::rest) S J:=z7Z (zUH hg h) k
theorem yF (h:AOp P r E S o d x) (k:DA P r E ops rest (S.put d x) J) (hg:o.guard=none:=by rfl):DA P r E ops (o::rest) S J:=z70 (zUH hg h) k
theorem gF {b:Bool} (h:gd false b=true):b=false:=by cases b;rfl;cases h
theorem zRF {t:Nat} {x:DV} (h:S.dv (S.get t).un=some x):RetS P S [.tmp t] [x]:=⟨_,_,rfl,h,rfl⟩
theorem vY {a t id e:Nat} {cells:List AV} {ds:List DV} (h1:(S.get a).un= .ptr id 0) (h2:S.blk id= .box e cells) (hT:AggTy P t cells.length) (hd:S.dvL cells=some ds):RetS P S [.cell a t] [.agg ds]:=
 ⟨_,_,id,e,cells,rfl,h1,h2,.inr ⟨ds,hT,hd,rfl⟩,rfl⟩
end
end Go.AV
namespace Go.AV
open Go.RowKit Go.M
abbrev wi (n:Int):Int:=IntKind.i64.wrap n
abbrev wu (n:Int):Int:=IntKind.u64.wrap n
theorem zY {a b:Bool} (h:(a&&b)=true):a=true∧b=true:=by simpa using h
section
variable {P:Program}
theorem zSM {t n:Nat} (h:(P.info? t).map (·.size)=some n) (w:World):(sizeOf t).run P w= .ok n w:=by
 cases hi:P.info? t with
 | none=>simp[hi] at h
 | some i=>simp[hi] at h;simp[sizeOf,typeInfo,hi,h]
theorem zSN {t:Nat} {z:Value} (h:(P.info? t).bind (·.zero)=some z) (w:World):(zeroValue t).run P w= .ok z w:=by
 cases hi:P.info? t with
 | none=>simp[hi] at h
 | some i=>simp[hi] at h;simp[zeroValue,typeInfo,hi,h]
theorem FldTy.of {s k off n:Nat} {t:TypeId} {fields:Array Field} (hu:P.underlying s=some (.struct fields)) (hf:(fields[k]?).map (fun f=>(f.offset,f.type))=some (off,t)) (hs:(P.info? t).map (·.size)=some n) (hp:0<n):FldTy P s k off n t:=by
 cases h:fields[k]? with
 | none=>simp[h] at hf
 | some f=>simp[h] at hf;exact⟨⟨fields,f,hu,h,hf.1,hf.2⟩,zSM hs,hp⟩
theorem zM7 (w:World):∀(fs:List Field) (places:List (Nat×Nat)),fs.map (fun f=>(f.offset,(P.info? f.type).map (·.size)))=places.map (fun p=>(p.1,some p.2))→
    (fs.mapM fun (f:Field)=>(do pure (f.offset,←sizeOf f.type):Sem (Nat×Nat))).run P w= .ok places w
  | [],places,h=>by cases places with
    | nil=>simp
    | cons p ps=>simp at h
  | f::fs,places,h=>by cases places with
    | nil=>simp at h
    | cons p ps=>
      simp only[List.map_cons,List.cons.injEq,Prod.mk.injEq] at h;have h1:=zSM h.1.2 w;have h2:=zM7 w fs ps h.2;simp only[List.mapM_cons,Sem.run_bind,h1,Result.andThen_ok,Sem.run_pure,h2,h.1.1]
theorem StTy.of {t:TypeId} {places:List (Nat×Nat)} {zs:List Value} {fields:Array Field} (hu:P.underlying t=some (.struct fields)) (hp:fields.toList.map (fun f=>(f.offset,(P.info? f.type).map (·.size)))=places.map (fun p=>(p.1,some p.2)))
    (hz:((P.info? t).bind (·.zero))=some (.agg zs.toArray)) (h1:zs.all Value.oneCell'=true):StTy P t places zs:=by
  refine⟨⟨fields,hu,fun w=>?_⟩,zSN hz,fun x hx=>List.all_eq_true.1 h1 x hx⟩;rw[Array.mapM_eq_mapM_toList];simp only[Sem.run_map,zM7 w _ _ hp,Result.andThen_ok]
theorem MapTy.of {t kt vt:TypeId} {zv:Value} (hu:P.underlying t=some (.map kt vt)) (hz:(P.info? vt).bind (·.zero)=some zv):MapTy P t kt vt zv:=⟨hu,zSN hz⟩
def NilL:List DV→List DV→Prop
 | [],[]=>True
 | a::as,b::bs=>(a=b∨(a= .v (.slice none 0 0)∧∃s,b= .sl s []))∧NilL as bs
 | _,_=>False
theorem zLH {w:World} {I:Im}:∀{vs:List Value} {as bs:List DV},NilL as bs→Reps w I vs as→Reps w I vs bs
 | vs,[],[],_,h=>h
 | vs,[],b::bs,h,_=>h.elim
 | vs,a::as,[],h,_=>h.elim
 | [],a::as,b::bs,_,hr=>by have:=hr.1;simp at this
 | v::vs,a::as,b::bs,h,hr=>by
  obtain⟨h1,h2⟩:=zHH hr;refine Pw.cons ?_ (zLH h.2 h2);rcases h.1 with rfl | ⟨rfl,s,rfl⟩;exact h1;cases h1;exact .nil _ _ _
theorem z5C {f:FuncId} {as bs rs:List DV} (hc:zU P f bs rs) (hn:NilL as bs):zU P f as rs:=
 ⟨hc.1,fun w I vs hI hG hr=>hc.2 w I vs hI hG (zLH hn hr)⟩
end
end Go.AV
namespace Go.AV
open Go.RowKit Go.M
section
variable {P:Program}
structure EqFld (P:Program) (f:Field):Prop where
 name:f.name≠ "_"
 agg:∀w,(isAgg f.type).run P w= .ok false w
 und:(∃k,P.underlying f.type=some (.int k))∨P.underlying f.type=some .bool∨P.underlying f.type=some .string
theorem run_equalIn_int {t:TypeId} {k k':IntKind} (hu:P.underlying t=some (.int k)) (d:Nat) (a b:Int) (w:World):(Op.equalIn (d+1) t (.int k' a) (.int k' b)).run P w= .ok (decide (a=b)) w:=by rw[Op.equalIn];simp only[Sem.run_bind,run_underlying hu,Result.andThen_ok,if_true,Sem.run_pure];rfl
theorem zNK {t:TypeId} (hu:P.underlying t=some .string) (d:Nat) (a b:Str) (w:World):(Op.equalIn (d+1) t (.string ⟨a.toArray⟩) (.string ⟨b.toArray⟩)).run P w= .ok (decide (a=b)) w:=by rw[Op.equalIn];simp only[Sem.run_bind,run_underlying hu,Result.andThen_ok,Sem.run_pure,zSL]
theorem zJK {t:TypeId} {xs:Array Value} {off:Nat} {a:Value} (h:∀w,(isAgg t).run P w= .ok false w) (hx:xs[off]? =some a) (w:World):(part t xs off).run P w= .ok a w:=by simp[part,h,hx]
theorem zRG {w:World} {F:Field→Option Bool×PUnit→Sem (ForInStep (Option Bool×PUnit))}:∀(fs:List Field) (cs:List Bool),Pw (fun (f:Field) c=> ∀s,(F f s).run P w= .ok (if c then .yield (none,()) else .done (some false,())) w) fs cs→
  (forIn fs ((none,()):Option Bool×PUnit) F).run P w= .ok (if cs.all id then (none,()) else (some false,())) w
 | [],cs,h=>by cases cs with
  | nil=>simp
  | cons c cs=>have:=h.1;simp at this
 | f::fs,cs,h=>by cases cs with
  | nil=>have:=h.1;simp at this
  | cons c cs=>
   obtain⟨h1,ht⟩:=zHH h;have ih:=zRG fs cs ht;rw[List.forIn_cons];simp only[Sem.run_bind,h1,Result.andThen_ok];cases c with
   | false=>simp
   | true=>simpa using ih
def Eqs (P:Program) (d:Nat) (xs ys:Array Value) (w:World) (fs:List Field) (cs:List Bool):Prop:=
 Pw (fun (f:Field) c=>f.name≠ "_" ∧(∀w,(isAgg f.type).run P w= .ok false w)∧∃a b,xs[f.offset]? =some a∧ys[f.offset]? =some b∧(Op.equalIn d f.type a b).run P w= .ok c w) fs cs
theorem zX2 {d:Nat} {xs ys:Array Value} {w:World}:Eqs P d xs ys w [] []:=Pw.nil
section
variable {d:Nat} {xs ys:Array Value} {w:World} {f:Field} {fs:List Field} {cs:List Bool} (hn:(f.name== "_")=false) (ho:OneTy P f.type) (hs:Eqs P (d+1) xs ys w fs cs)
include hn ho hs
theorem zSO {k k':IntKind} {a b:Int} (hu:P.underlying f.type=some (.int k)) (hx:xs[f.offset]? =some (.int k' a)) (hy:ys[f.offset]? =some (.int k' b)):Eqs P (d+1) xs ys w (f::fs) (decide (a=b)::cs):=
 Pw.cons ⟨by simpa using hn,ho.agg,_,_,hx,hy,run_equalIn_int hu d a b w⟩ hs
theorem z5D {a b:Str} (hu:P.underlying f.type=some .string) (hx:xs[f.offset]? =some (.string ⟨a.toArray⟩)) (hy:ys[f.offset]? =some (.string ⟨b.toArray⟩)):Eqs P (d+1) xs ys w (f::fs) (decide (a=b)::cs):=
 Pw.cons ⟨by simpa using hn,ho.agg,_,_,hx,hy,zNK hu d a b w⟩ hs
end
structure EqTy {α:Type} [DecidableEq α] (P:Program) (t:TypeId) (en:En α):Prop where
 eq:∀(a b: α) (va vb:Value) w I,Rep w I va (en.dv a)→Rep w I vb (en.dv b)→(∃xs ys,va= .agg xs∧vb= .agg ys)∧(Op.equal t va vb).run P w= .ok (decide (a=b)) w
 guard:∀(op:BinOp) (x y:Operand) xs ys w,(eqGuard op t x y (.agg xs) (.agg ys)).run P w= .ok () w
theorem zRH {w:World} {I:Im} {u v:Value} (h:Rep w I u (.v v)):u=v:=by cases h;rfl
theorem zJV {w:World} {I:Im} {v:Value} {vs:List Value} (h:Rep w I v (.agg (vs.map DV.v))):v= .agg vs.toArray:=by
 cases h with
 | agg xs cells hx h1 hr=>
  congr 2;apply List.ext_getElem?;intro j;have hlen:xs.length=vs.length:=by simpa using hx
  by_cases hj:j<xs.length;have h1:xs[j]? =some xs[j]:=List.getElem?_eq_getElem hj;have h2:vs[j]? =some (vs[j]'(by omega)):=List.getElem?_eq_getElem (by omega);have:=hr j xs[j] (.v (vs[j]'(by omega))) h1 (by simp[h2]);rw[h1,h2,zRH this];rw[List.getElem?_eq_none (by omega),List.getElem?_eq_none (by omega)]
theorem EqTy.of {α:Type} [DecidableEq α] {t:TypeId} {en:En α} {fields:Array Field} {vals: α→List Value} {cs: α→α→List Bool} (hu:P.underlying t=some (.struct fields)) (hst:P.stoodInHeld t=false) (hg:P.eqGuardType P.depth t=false)
  (hv:∀a,en.dv a= .agg ((vals a).map DV.v)) (he:∀a b w,Eqs P (9998+1) (vals a).toArray (vals b).toArray w fields.toList (cs a b)) (hc:∀a b,(cs a b).all id=decide (a=b)):EqTy P t en where
 eq:=fun a b va vb w I h1 h2=>by
  rw[hv] at h1 h2;rw[zJV h1,zJV h2];refine⟨⟨_,_,rfl,rfl⟩,?_⟩;show (Op.equalIn (9999+1) t _ _).run P w=_;rw[Op.equalIn];simp only[Sem.run_bind,run_underlying hu,Result.andThen_ok];have hp:(program).run P w= .ok P w:=by rfl
  simp only[hp,hst,Result.andThen_ok,Bool.false_eq_true,if_false,Sem.run_pure];rw[←Array.forIn_toList,←hc a b];have hfor:=fun F h=>zRG (P:=P) (w:=w) (F:=F) fields.toList (cs a b) h;simp only[Sem.run_bind];rw[hfor _ ⟨(he a b w).1,fun j f c hf hcj s=>?_⟩]
  ·simp only[Result.andThen_ok]
   cases (cs a b).all id<;>simp
  ·obtain⟨q1,q2,x,y,q3,q4,q5⟩:=(he a b w).2 j f c hf hcj
   simp only[q1,ne_eq,not_false_eq_true,if_true,Sem.run_bind,zJK q2 q3,zJK q2 q4,Result.andThen_ok];have q5':(Op.equalIn 9999 f.type x y).run P w= .ok c w:=q5;rw[q5'];cases c<;>simp
 guard:=fun op x y xs ys w=>by
  have hp:(program).run P w= .ok P w:=by rfl
  cases op<;>simp[eqGuard,hp,hg]
variable {r:Option Nat} {E:Env} {S:AState} {d:Nat} {ty:TypeId} {pos:String} {af:Array Edge} {g:Option (Nat×Bool)}
theorem z5E {α:Type} [DecidableEq α] {en:En α} {x y:Operand} {a b: α} {tx tz:TypeId} (hn:d<E.n) (hT:EqTy P tx en) (hx:S.ev x= .d (en.dv a)) (hy:S.ev y= .d (en.dv b)):
  AOp P r E S ⟨some d,.binOp .eql tx x y tz,ty,pos,af,g⟩ d (.d (.v (.bool (decide (a=b))))):=
 ⟨rfl,hn,fun S' h=>jQ rfl hn (by simp) fun A w I ρ C hs=>by
  have h1:=hs.ev x;rw[(h.ev (by simp[Op.operands])).trans hx] at h1;have h2:=hs.ev y;rw[(h.ev (by simp[Op.operands])).trans hy] at h2;obtain⟨⟨xs,ys,e1,e2⟩,h3⟩:=hT.eq a b _ _ w I h1 h2;rw[e1,e2] at h3;have hb:binOp .eql tx (.agg xs) (.agg ys)=(do pure (.bool (←Op.equal tx (.agg xs) (.agg ys)))):=rfl;simp only[execOp,e1,e2,Sem.run_bind,hT.guard,Result.andThen_ok,hb,h3,Sem.run_pure]⟩
theorem zX3 {α:Type} [DecidableEq α] {en:En α} {x y:Operand} {a b: α} {tx tz:TypeId} (hn:d<E.n) (hT:EqTy P tx en) (hx:S.ev x= .d (en.dv a)) (hy:S.ev y= .d (en.dv b)):
  AOp P r E S ⟨some d,.binOp .neq tx x y tz,ty,pos,af,g⟩ d (.d (.v (.bool (!decide (a=b))))):=
 ⟨rfl,hn,fun S' h=>jQ rfl hn (by simp) fun A w I ρ C hs=>by
  have h1:=hs.ev x;rw[(h.ev (by simp[Op.operands])).trans hx] at h1;have h2:=hs.ev y;rw[(h.ev (by simp[Op.operands])).trans hy] at h2;obtain⟨⟨xs,ys,e1,e2⟩,h3⟩:=hT.eq a b _ _ w I h1 h2;rw[e1,e2] at h3;have hb:binOp .neq tx (.agg xs) (.agg ys)=(do pure (.bool (!(←Op.equal tx (.agg xs) (.agg ys))))):=rfl;simp only[execOp,e1,e2,Sem.run_bind,hT.guard,Result.andThen_ok,hb,h3,Sem.run_pure]⟩
theorem zM {t n:Nat} {x y:Operand} {id eb:Nat} {cells:List AV} {ds:List DV} (hT:AggTy P t n) (hx:S.ev x= .ptr id 0) (hb:S.blk id= .box eb cells) (hy:S.ev y= .d (.agg ds)) (hl:cells.length=n) (hl2:ds.length=n) (hE:E.wrB=true):
  j9 P r E ⟨none,.store t x y,ty,pos,af,g⟩ S (S.setBlk id (.box eb (ds.map AV.d))):=
 zER rfl (by simp) fun A w I ρ C hs=>by
  have h:=hs.ev x;rw[hx] at h;obtain⟨b,hρ,hv⟩:=h;have hbk:=hs.blks id;rw[hb] at hbk;obtain⟨b',arr,hρ',hB,hh,h1',hpw,hI⟩:=hbk;have hbb:b'=b:=by rw[hρ'] at hρ;simpa[blockOf] using hρ
  subst hbb;have hyv:=hs.ev y;rw[hy] at hyv;have hyv':Rep w I (A.eval y) (.agg ds):=hyv;generalize he:A.eval y=vy at hyv';cases hyv' with
  | agg xs cells' hlx h1 hr=>
   have hsz:arr.size=n:=by rw[←Array.length_toList,hpw.1];exact hl
   have hxl:xs.length=n:=by rw[hlx];exact hl2
   have hst:=zOK (P:=P) w hT (b:=b') (off:=0) (vs:=xs) hh (by omega) hxl h1;have e1:arr.toList.take 0++xs++arr.toList.drop (0+n)=xs:=by
    rw[List.drop_eq_nil_of_le (by simp;omega)];simp
   rw[e1] at hst;refine⟨_,?_,I,ρ,C,hs.modify (zCS w b' xs.toArray) (by rw[hb];simp) hρ (vG hI) ⟨b',xs.toArray,hρ',hB,setRow_heap w b' arr _ eb _ hh,by simpa using h1,?_,hI⟩ hE⟩
   ·simp only[execOp,hv,he,Sem.run_bind,hst]
    rfl
   ·have hrp:Reps w I xs ds:=⟨hlx,hr⟩
    exact yAB (ρ:=ρ) (Reps.mono hrp (vG hI) (fun _ _ h=>h))
end
end Go.AV
namespace Go.AV
open Go.RowKit Go.M
section
variable {P:Program} {r:Option Nat} {E:Env} {S:AState} {d:Nat} {ty:TypeId} {pos:String} {af:Array Edge} {g:Option (Nat×Bool)}
theorem z16 {a:Act} {w:World} {x y:DV} (hn:d<E.n) (hc:∀w I v,Rep w I v x→Rep w I v y) (h:Sat E (S.put d (.d x)) a w):Sat E (S.put d (.d y)) a w:=by
 obtain⟨I,ρ,C,h⟩:=h;refine⟨I,ρ,C,⟨fun u=>?_,h.blks,h.dist,by have:=h.frame;rw[zDA _ _ hn] at this ⊢;exact this,h.sub,h.old,h.size,h.defers,h.cI,h.cB,h.nm⟩⟩
 have:=h.tmps u;rw[zBD] at this ⊢;by_cases e:d=u;simp only[e,if_true] at this ⊢;exact hc _ _ _ this;simp only[e,if_false] at this ⊢;exact this
theorem AOp.conv {o:Oper} {x y:DV} (h:AOp P r E S o d (.d x)) (hc:∀w I v,Rep w I v x→Rep w I v y):AOp P r E S o d (.d y):=
 ⟨h.1,h.2.1,fun S' ha a w K Q hs hk=>h.2.2 S' ha a w K Q hs fun a' w' hs'=>hk a' w' (z16 h.2.1 hc hs')⟩
theorem zU4 {as bs:List DV} (hn:NilL as bs) {w:World} {I:Im} {v:Value} (h:Rep w I v (.agg as)):Rep w I v (.agg bs):=by
 cases h with
 | agg xs cells hx h1 hr=>
  have:=zLH hn (⟨hx,hr⟩:Reps w I xs as);exact .agg xs bs this.1 h1 this.2
theorem AOp.nils {o:Oper} {as bs:List DV} (h:AOp P r E S o d (.d (.agg as))) (hn:NilL as bs):AOp P r E S o d (.d (.agg bs)):=h.conv fun _ _ _ hr=>zU4 hn hr
theorem zOU {x:Operand} {i:Nat} {cs:List Cap} {c:Cap} (hn:d<E.n) (hx:S.ev x= .tupc cs) (hi:cs[i]? =some c):AOp P r E S ⟨some d,.extract x i,ty,pos,af,g⟩ d c.av:=
 ⟨rfl,hn,fun S' ha=>kC rfl hn (by simp) fun A w I ρ C hs=>by
  have h:=hs.ev x;rw[(ha.ev (by simp[Op.operands])).trans hx] at h;obtain⟨xs,hv,hr⟩:=h;have hlt:i<xs.length:=by rw[hr.1];exact(List.getElem?_eq_some_iff.1 hi).1
  refine⟨xs[i],?_,Cap.holds (hr.2 i _ c (List.getElem?_eq_getElem hlt) hi)⟩;simp only[execOp,hv];simp[Instr.extract,List.getElem?_eq_getElem hlt]⟩
theorem zU5 {x:Operand} {c:List Cap} (hn:d<E.n) (hx:S.ev x= .tupc c):AOp P r E S ⟨some d,.move x,ty,pos,af,g⟩ d (.tupc c):=zH1 hn hx
theorem zSP {x:Operand} (hn:d<E.n):AOp P r E S ⟨some d,.assign x,ty,pos,af,g⟩ d .top:=
 ⟨rfl,hn,fun S' ha=>kC rfl hn (by simp) fun A w I ρ C hs=>⟨A.eval x,by simp[execOp],trivial⟩⟩
theorem zSQ {id e size:Nat} {cells:List DV} (hb:S.blk id= .row e size false cells):zGG E S (S.setBlk id (.win e size 0 cells)):=by
 rintro a w ⟨I,ρ,C,h⟩
 have hk:=h.blks id;rw[hb] at hk;obtain⟨hp,n,xs,hl,hown,h1,hr,hI⟩:=hk;have hne:S.blk id≠ .none:=by rw[hb];simp
 have key:∀i,(S.setBlk id (.win e size 0 cells)).blk i≠ .none→S.blk i≠ .none:=by
  intro i hi;rw[jB] at hi;by_cases e':id=i;subst e';exact hne;simpa[e'] using hi
 refine⟨I,ρ,C,⟨h.tmps,fun i=>?_,fun i i' b hn hi hi'=>h.dist i i' b hn (key i hi) (key i' hi'),h.frame,h.sub,h.old,h.size,h.defers,h.cI,fun i b hi=>h.cB i b (key i hi),fun i v hv hi=>h.nm i v hv (key i hi)⟩⟩;rw[jB];by_cases e':id=i;subst e';simp only[if_true];rcases hown.2 with ⟨hv,hn0⟩ | ⟨gb,cap,cur,hv,hB,hh,hnc,hcm,hcs,htk⟩
 subst hn0;exact⟨none,0,0,xs,hv,Nat.le_refl _,hp.1,hl,hr,h1,.inl ⟨rfl,rfl⟩⟩;refine⟨_,n,cap,xs,hv,hnc,hp.1,hl,hr,h1,.inr ⟨gb,0,cur,rfl,hp.2 gb (by rw[hv];rfl),hh,?_,fun j x hj=>?_,fun j _ hj hi=>?_⟩⟩
 rw[Nat.zero_add,hcs];exact Nat.mul_le_mul_right _ hnc;have:=hown.cells (g:=gb) (by rw[hv];rfl) j x hj
 rw[zE1,cell_of_row w gb (0+j) cur e (0,0) hh] at this;exact this;have:=(hI gb j (by rw[hv];rfl) hi).1;cases this;simp only[e',if_false];exact h.blks i
theorem zXA {t id e size k:Nat} {cells:List DV} (hn:t<E.n) (ht:S.get t= .row id) (hb:S.blk id= .win e size k cells):zGG E S ((S.setBlk id .none).put t (.d (.sl size cells))):=by
 rintro a w ⟨I,ρ,C,h⟩
 have hk:=h.blks id;rw[hb] at hk;obtain⟨A,n,c,xs,hv,hnc,hp,hl,hr,h1,hA⟩:=hk;have hne:S.blk id≠ .none:=by rw[hb];simp
 let I':Im:=fun b j=>I b j∨(∃off,A=some ⟨b,off,none⟩∧off≤j∧j<off+n*size)
 have hsub:∀b j,I b j→I' b j:=fun b j hi=> .inl hi;have key:∀i,((S.setBlk id .none).put t (.d (.sl size cells))).blk i≠ .none→S.blk i≠ .none∧i≠id:=by
  intro i hi;rw[z4Y,jB] at hi;by_cases e':id=i;subst e';simp at hi;simp only[e',if_false] at hi;exact⟨hi,fun e2=>e' e2.symm⟩
 have hbo:∀b off,A=some ⟨b,off,none⟩→blockOf (ρ id)=some b:=fun b off e=>by rw[hv,e];rfl
 refine⟨I',ρ,C,⟨fun u=>?_,fun i=>?_,fun i i' b hn' hi hi'=>h.dist i i' b hn' (key i hi).1 (key i' hi').1,by rw[zDA _ _ hn];exact h.frame,fun b j hi=>hsub b j (h.sub b j hi),fun b j hi=>?_,h.size,h.defers,fun b j hi=>?_,fun i b hi=>h.cB i b (key i hi).1,fun i v hv hi=>h.nm i v hv (key i hi).1⟩⟩
 rw[zBD];by_cases e':t=u;subst e';simp only[if_true];have:=h.tmps t;rw[ht] at this;have hvt:a.tmps.getD t undef= ρ id:=this;rw[hvt,hv];rcases hA with ⟨rfl,rfl⟩ | ⟨b,off,arr,rfl,hM,hh,hf,hc,hI⟩
 have:cells= []:=List.eq_nil_of_length_eq_zero (by simpa using hl);subst this;exact .nil _ _ _;by_cases h0:n=0;subst h0;have:cells= []:=List.eq_nil_of_length_eq_zero (by simpa using hl);subst this;exact .nil _ _ _;have hr':=hr.mono (xB I w) hsub;refine .sl b off n c size xs cells (by omega) hnc hl hr.1 (fun j x hj=>⟨?_,.inr ⟨off,rfl,by omega,?_⟩⟩) h1 hr'.2;rw[cell_of_row w b (off+j) arr e (0,0) hh];exact hc j x hj;have:=(List.getElem?_eq_some_iff.1 hj).1;rw[hr.1,hl] at this;omega;simp only[e',if_false];exact(h.tmps u).mono (xB I w) hsub;show BlkOk w I' ρ E.mine i ((S.setBlk id .none).blk i);rw[jB];by_cases e':id=i;subst e';simp only[if_true];trivial;simp only[e',if_false];refine(h.blks i).widenI hsub fun b j hx hbi hi=>?_;rcases hi with hi | ⟨off,hA',_⟩
 exact hi;exact absurd hbi (h.dist id i b e' hne hx (hbo b off hA'));rcases hi with hi | ⟨off,hA',_⟩
 exact h.old b j hi;have:=h.blt id b hne (hbo b off hA');exact⟨this.2,.inr this.1⟩;rcases hi with hi | ⟨off,hA',_⟩
 exact h.cI b j hi;exact h.cB id b hne (hbo b off hA')
end
end Go.AV
namespace Go.AV
open Go.RowKit Go.M
def zMK (S:AState) (σ:List (Nat×Nat)) (T:List (Nat×Blk)):Bool:=σ.all fun p=>match look Blk.none T p.1,S.blk p.2 with
 | .none,.none=>true
 | .none,_=>false
 | _,_=>true
theorem zJL {S:AState} {σ:List (Nat×Nat)} {T:List (Nat×Blk)} (h:zMK S σ T=true):zLE S σ T:=by
 intro k hk hT;have:=List.all_eq_true.1 h _ (zDY hk);simp only[hT] at this;cases hb:S.blk (look 0 σ k) with
 | none=>rfl
 | _=>rw[hb] at this;simp at this
theorem zOV {σ:List (Nat×Nat)} (h:((σ.map Prod.fst).Nodup∧(σ.map Prod.snd).Nodup)):Ren σ:=⟨h.1,h.2⟩
section
variable {P:Program} {r:Option Nat} {E:Env} {S:AState} {d:Nat} {ty:TypeId} {pos:String} {af:Array Edge} {g:Option (Nat×Bool)}
theorem zKS {f:FuncId} {xs:List Operand} {ats:Array TypeId} {args rets:List Cap} {T T':List (Nat×Blk)} {keep:List Nat} (σ:List (Nat×Nat)) (hc:GC P f args T keep rets T') (hn:d<E.n) (hσ:(σ.map Prod.fst).Nodup∧(σ.map Prod.snd).Nodup)
  (hargs:ArgsAs σ (xs.map S.ev) args) (hal:args.all (Cap.idsLt σ)=true) (hrl:rets.all (Cap.idsLt σ)=true) (hT:BlksAs S σ T) (hTo:zB4 σ T=true) (hTo':zB4 σ T'=true)
  (hfr:zMK S σ T=true) (hnm:∀k,E.nm k=none) (hE:E.wrB=true) (hG:E.gdt=uO P:=by rfl):
  j9 P r E ⟨some d,.call {callee:= .value (.func f),args:=xs.toArray,argTypes:=ats},ty,pos,af,g⟩ S
   (((S.killL (zHS σ keep T')).setL (renL σ T'++zJ5 σ T T')).put d ((zKQ rets).ren σ)):=
 zX1 σ hn (zOV hσ) hargs hal hrl hT hTo hTo' (zJL hfr) (fun k _=> .inl (hnm _)) hc hE hG
end
theorem nl0:NilL [] []:=trivial
theorem nlE {a:DV} {as bs:List DV} (h:NilL as bs):NilL (a::as) (a::bs):=⟨.inl rfl,h⟩
theorem nlN {s:Nat} {as bs:List DV} (h:NilL as bs):NilL (.v (.slice none 0 0)::as) (.sl s []::bs):=⟨.inr ⟨rfl,_,rfl⟩,h⟩
end Go.AV
namespace Go.AV
open Go.RowKit Go.M
structure ArTy (P:Program) (t:TypeId) (n es:Nat) (e:TypeId) (zs:List Value):Prop where
 und:P.underlying t=some (.array n e)
 size:∀w,(sizeOf e).run P w= .ok es w
 pos:0<es
 zero:∀w,(zeroValue t).run P w= .ok (.agg zs.toArray) w
 one:∀x∈zs,x.oneCell'=true
def arP (n es:Nat):List (Nat×Nat):=(List.range n).map fun i=>(i*es,es)
theorem z5F {n es i:Nat} {q:Nat×Nat} (h:(arP n es)[i]? =some q):i<n∧q=(i*es,es):=by unfold arP at h;rw[List.getElem?_map] at h;by_cases hi:i<n;simp[hi] at h;exact⟨hi,h.symm⟩;simp[hi] at h
theorem ArTy.of {P:Program} {t e:TypeId} {n es:Nat} {zs:List Value} (hu:P.underlying t=some (.array n e)) (hs:(P.info? e).map (·.size)=some es) (hp:0<es) (hz:((P.info? t).bind (·.zero))=some (.agg zs.toArray)) (h1:zs.all Value.oneCell'=true):ArTy P t n es e zs:=
 ⟨hu,zSM hs,hp,zSN hz,fun x hx=>List.all_eq_true.1 h1 x hx⟩
theorem zOW {f g:Nat→Option (Nat×Nat)}:∀(vs:List (Nat×Value)) (arr:Array Value),(∀p∈vs,f p.1=g p.1)→Instr.fill f arr vs=Instr.fill g arr vs
 | [],_,_=>rfl
 | (i,v)::vs,arr,h=>by
  simp only[Instr.fill];rw[h (i,v) (by simp)];cases g i with
  | none=>rfl
  | some q=>
   obtain⟨off,size⟩:=q;simp only;split;rfl;exact zOW vs _ (fun p hp=>h p (by simp[hp]))
theorem zU6 {places:List (Nat×Nat)}:∀{ds:List (Nat×DV)} {cells cells':List DV},zM6 places cells ds=some cells'→∀p∈ds,∃q,places[p.1]? =some q
 | [],_,_,_,p,hp=>by cases hp
 | (i,v)::ds,cells,cells',h,p,hp=>by
  simp only[zM6] at h;cases hq:places[i]? with
  | none=>rw[hq] at h;cases h
  | some q=>
   rw[hq] at h;obtain⟨off,size⟩:=q;simp only at h;split at h;rcases List.mem_cons.1 hp with e | hp
   rw[e];exact⟨_,hq⟩;exact zU6 h p hp;cases h
theorem zOX {P:Program} {α:Type} {w:World} {F: α→Option Bool×PUnit→Sem (ForInStep (Option Bool×PUnit))}:∀(fs:List α) (cs:List Bool),Pw (fun (f: α) c=> ∀s,(F f s).run P w= .ok (if c then .yield (none,()) else .done (some false,())) w) fs cs→
  (forIn fs ((none,()):Option Bool×PUnit) F).run P w= .ok (if cs.all id then (none,()) else (some false,())) w
 | [],cs,h=>by cases cs with
  | nil=>simp
  | cons c cs=>have:=h.1;simp at this
 | f::fs,cs,h=>by cases cs with
  | nil=>have:=h.1;simp at this
  | cons c cs=>
   obtain⟨h1,ht⟩:=zHH h;have ih:=zOX fs cs ht;rw[List.forIn_cons];simp only[Sem.run_bind,h1,Result.andThen_ok];cases c with
   | false=>simp
   | true=>simpa using ih
section
variable {P:Program} {r:Option Nat} {E:Env} {S:AState} {d:Nat} {ty:TypeId} {pos:String} {af:Array Edge} {g:Option (Nat×Bool)}
theorem zOY {t e:TypeId} {n es:Nat} {zs:List Value} {ps:List (Nat×Operand)} {ds:List (Nat×DV)} {cells:List DV} (hn:d<E.n) (hT:ArTy P t n es e zs) (hds:dvP S ps=some ds) (hf:zM6 (arP n es) (zs.map DV.v) ds=some cells):
  AOp P r E S ⟨some d,.build t ps.toArray,ty,pos,af,g⟩ d (.d (.agg cells)):=
 ⟨rfl,hn,fun S' ha=>kC rfl hn (by simp) fun A w I ρ C hs=>by
  have hds':dvP S' ps=some ds:=(zMI ha (fun p hp=>by simp only[Op.operands];simp;exact⟨p.1,hp⟩)).trans hds
  have hpw:=zMH hs hds';obtain⟨arr',h1,h2,h3⟩:=zUZ (places:=arP n es) ds (ps.map fun p=>(p.1,A.eval p.2)) zs.toArray (zs.map DV.v) cells (by simpa using zOR w I zs) (by simpa using hT.one) hpw hf;refine⟨.agg arr',?_,by have:=Rep.agg (w:=w) (I:=I) arr'.toList cells h2.1 h3 h2.2;rw[Array.toArray_toList] at this;exact this⟩
  have hz:=hT.zero w;have hc:Instr.fill (fun i=>some (i*es,es)) zs.toArray (ps.map fun p=>(p.1,A.eval p.2))=some arr':=by
   rw[←h1];apply zOW;intro p hp;obtain⟨j,hj,e1⟩:=List.getElem_of_mem hp;have hjd:j<ds.length:=by rw[←hpw.1];exact hj
   have h4:=hpw.2 j _ _ (List.getElem?_eq_getElem hj) (List.getElem?_eq_getElem hjd);obtain⟨q,hq⟩:=zU6 hf ds[j] (List.getElem_mem hjd);rw[e1] at h4;rw[h4.1,hq,(z5F hq).2]
  simp only[execOp,Instr.build,List.map_toArray,Sem.run_bind,hz,Result.andThen_ok,run_underlying hT.und,hT.size w,Value.cells,hc,Sem.run_pure]⟩
theorem z17 {α β:Type} {R: α→β→Prop} {xs:List α} {ys:List β} (h:Pw R xs ys) (a n:Nat):Pw R ((xs.drop a).take n) ((ys.drop a).take n):=by refine⟨by simp[h.1],fun j x y hx hy=>?_⟩;rw[List.getElem?_take] at hx hy;by_cases hj:j<n;simp only[hj,if_true,List.getElem?_drop] at hx hy;exact h.2 (a+j) x y hx hy;simp[hj] at hx
theorem zZ5 {α:Type} {en:En α} {l:List α} {t e:TypeId} {n:Nat} {zs:List Value} {x ix:Operand} {kk:IntKind} {i:Int} {v: α} (hn:d<E.n) (hT:ArTy P t n en.size e zs) (ho:AggTy P e en.size) (hc:∀v,en.dv v= .agg (en.cells v)) (hx:S.ev x= .d (.agg (en.all l))) (hl:l.length=n) (hi:S.ev ix= .d (.v (.int kk i))) (hv:kV l i=some v):
  AOp P r E S ⟨some d,.index t x ix,ty,pos,af,g⟩ d (.d (en.dv v)):=
 ⟨rfl,hn,fun S' ha=>kC rfl hn (by simp) fun A w I ρ C hs=>by
  have h1:=hs.ev x;rw[(ha.ev (by simp[Op.operands])).trans hx] at h1;have h2:=hs.ev ix;rw[(ha.ev (by simp[Op.operands])).trans hi] at h2;have h2':=zRH h2;obtain⟨q0,q1,q2,q3⟩:=uL hv;generalize hX:A.eval x=vx at h1;cases h1 with
  | agg xs cells hxl h1c hr=>
   have hsub:((en.all l).drop (i.toNat*en.size)).take en.size=en.cells v:=by
    have:=zSK (e:=en) q3 0 en.size (by omega);rw[Nat.add_zero,List.drop_zero,←en.len v,List.take_length] at this;rw[←en.len v];exact this
   have hpw:=z17 (R:=Rep w I) ⟨hxl,hr⟩ (i.toNat*en.size) en.size;rw[hsub] at hpw;have hex:(xs.toArray.extract (i.toNat*en.size) (i.toNat*en.size+en.size))=((xs.drop (i.toNat*en.size)).take en.size).toArray:=by
    rw[List.extract_toArray,List.extract_eq_take_drop];congr 2;omega
   refine⟨.agg ((xs.drop (i.toNat*en.size)).take en.size).toArray,?_,?_⟩
   ·have hin:0≤i∧i<(n:Int):=⟨q0,by omega⟩
    simp only[execOp,hX,h2',Instr.index,Sem.run_bind,asIntOf,Sem.run_pure,Result.andThen_ok,run_underlying hT.und,hin,and_self,if_true,hT.size w,part,ho.agg w,hex]
   ·rw[hc]
    exact .agg _ _ hpw.1 (fun y hy=>h1c y (List.mem_of_mem_drop (List.mem_of_mem_take hy))) hpw.2⟩
theorem z5G {t n gi:Nat} {zs:List Value} (hn:d<E.n) (hT:AggTy P t n) (hg:E.gdt gi=some zs) (hl:zs.length=n) (h1:zs.all Value.oneCell'=true):
  AOp P r E S ⟨some d,.load t (.global gi),ty,pos,af,g⟩ d (.d (.agg (zs.map DV.v))):=
 ⟨rfl,hn,fun S' ha=>kC rfl hn (by simp) fun A w I ρ C hs=>by
  have hgl:=hs.gl gi zs hg;refine⟨.agg zs.toArray,?_,.agg _ _ (by simp) (fun x hx=>List.all_eq_true.1 h1 x hx) (zOR w I zs).2⟩;have hev:A.eval (.global gi)= .pointer (some ⟨gi,0,none⟩):=rfl;simp only[execOp,hev,Sem.run_bind];rw[zCR w hT gi 0 zs hl (fun j v hj=>by rw[Nat.zero_add];exact(hgl j).1.trans hj)]
  rfl⟩
theorem zLI {t e:TypeId} {n es:Nat} {zs:List Value} (h:ArTy P t n es e zs) {k:Nat} (hk:k<n) (kk:IntKind) (w:World) (b o:Nat):
  (Instr.indexAt t (.pointer (some ⟨b,o,none⟩)) (.int kk (k:Int))).run P w= .ok (.pointer (some ⟨b,o+k*es,none⟩)) w:=by
 have hadd:(⟨b,o,none⟩:Addr).add (k*es)=⟨b,o+k*es,none⟩:=by
  unfold Addr.add;split
  ·rename_i e;rw[e];rfl
  ·rfl
 have hin:0≤(k:Int)∧(k:Int)<(n:Int):=⟨by omega,by omega⟩;simp only[Instr.indexAt,Sem.run_bind,asIntOf,Sem.run_pure,Result.andThen_ok,run_underlying h.und,Instr.sureAddr,hin,and_self,if_true,h.size w,Int.toNat_natCast,hadd]
theorem zNL {t e:TypeId} {n es id o:Nat} {zs:List Value} {x ix:Operand} {kk:IntKind} {k:Nat} (hn:d<E.n) (hT:ArTy P t n es e zs) (hx:S.ev x= .ptr id o) (hi:S.ev ix= .d (.v (.int kk (k:Int)))) (hk:k<n):
  AOp P r E S ⟨some d,.indexAddr t x ix,ty,pos,af,g⟩ d (.ptr id (o+k*es)):=
 ⟨rfl,hn,fun S' ha=>kC rfl hn (by simp) fun A w I ρ C hs=>by
  have h:=hs.ev x;rw[(ha.ev (by simp[Op.operands])).trans hx] at h;have h2:=hs.ev ix;rw[(ha.ev (by simp[Op.operands])).trans hi] at h2;have h2':=zRH h2;obtain⟨b,hρ,hv⟩:=h;refine⟨.pointer (some ⟨b,o+k*es,none⟩),?_,b,hρ,rfl⟩;simp only[execOp,hv,h2',Sem.run_bind,zLI hT hk kk w b o];rfl⟩
theorem zGB {t e:TypeId} {n es:Nat} {zs:List Value} {cells:List DV} {x ix:Operand} {kk:IntKind} {k:Nat} (hn:d<E.n) (hT:ArTy P t n es e zs) (hx:S.ev x= .d (.pt cells)) (hi:S.ev ix= .d (.v (.int kk (k:Int)))) (hk:k<n):
  AOp P r E S ⟨some d,.indexAddr t x ix,ty,pos,af,g⟩ d (.ip cells (0+k*es)):=
 ⟨rfl,hn,fun S' ha=>kC rfl hn (by simp) fun A w I ρ C hs=>by
  have h:=hs.ev x;rw[(ha.ev (by simp[Op.operands])).trans hx] at h;have h2:=hs.ev ix;rw[(ha.ev (by simp[Op.operands])).trans hi] at h2;have h2':=zRH h2;obtain⟨b,o',xs,hv,hr,h1,hcc⟩:=z11 (ρ:=ρ) h;refine⟨.pointer (some ⟨b,o'+(0+k*es),none⟩),?_,b,o',xs,rfl,hr,h1,hcc⟩;simp only[execOp,hv,h2',Sem.run_bind,zLI hT hk kk w b (o'+0),Nat.add_assoc];rfl⟩
end
theorem EqTy.ofA {P:Program} {α:Type} [DecidableEq α] {t e:TypeId} {n:Nat} {zs:List Value} {en:En α} {vals: α→List Value} {cs: α→α→List Bool} (hT:ArTy P t n 1 e zs) (ho:OneTy P e) (hg:P.eqGuardType P.depth t=false)
  (hv:∀a,en.dv a= .agg ((vals a).map DV.v)) (he:∀a b w,Pw (fun (i:Nat) c=> ∃x y,(vals a)[i]? =some x∧(vals b)[i]? =some y∧(Op.equalIn (9998+1) e x y).run P w= .ok c w) (List.range n) (cs a b)) (hc:∀a b,(cs a b).all id=decide (a=b)):EqTy P t en where
 eq:=fun a b va vb w I h1 h2=>by
  rw[hv] at h1 h2;rw[zJV h1,zJV h2];refine⟨⟨_,_,rfl,rfl⟩,?_⟩;show (Op.equalIn (9999+1) t _ _).run P w=_;rw[Op.equalIn];simp only[Sem.run_bind,run_underlying hT.und,Result.andThen_ok,hT.size w];rw[Std.Legacy.Range.forIn_eq_forIn_range'];have hrg:List.range' 0 ((n-0+1-1)/1) 1=List.range n:=by simp[List.range_eq_range']
  have hsz:(Std.Legacy.Range.size [0:n])=n:=by simp[Std.Legacy.Range.size]
  simp only[hsz];rw[←List.range_eq_range',←hc a b];rw[zOX (P:=P) (w:=w) (List.range n) (cs a b) ⟨(he a b w).1,fun j f c hf hcj s=>?_⟩]
  ·simp only[Result.andThen_ok]
   cases (cs a b).all id<;>simp
  ·obtain⟨x,y,q3,q4,q5⟩:=(he a b w).2 j f c hf hcj
   simp only[Sem.run_bind,Nat.mul_one,zJK ho.agg (xs:=(vals a).toArray) (a:=x) (by simpa using q3),zJK ho.agg (xs:=(vals b).toArray) (a:=y) (by simpa using q4),Result.andThen_ok];have q5':(Op.equalIn 9999 e x y).run P w= .ok c w:=q5;rw[q5'];cases c<;>simp
 guard:=fun op x y xs ys w=>by
  have hp:(program).run P w= .ok P w:=by rfl
  cases op<;>simp[eqGuard,hp,hg]
end Go.AV
namespace Go.AV
open Go.RowKit Go.M
theorem zM9 {P:Program} {κ:Type} [DecidableEq κ] {kt:TypeId} {kv: κ→Value} {w:World} (h0:∀a b,(Op.equal kt (kv a) (kv b)).run P w= .ok (decide (a=b)) w) (a: κ):∀(es:List MapEntry) (ks:List κ) (i:Nat),Pw (fun (x:MapEntry) k=>x.key=kv k) es ks→
  (Instr.findAsking kt (kv a) es i).run P w= .ok (findAt a ks es i) w
 | [],ks,i,h=>by
  cases ks with
  | nil=>simp[Instr.findAsking,findAt]
  | cons k ks=>have:=h.1;simp at this
 | x::es,ks,i,h=>by
  cases ks with
  | nil=>have:=h.1;simp at this
  | cons k ks=>
   obtain⟨h1,h2⟩:=zHH h;have ih:=zM9 h0 a es ks (i+1) h2;simp only[Instr.findAsking,Sem.run_bind,h1,h0,Result.andThen_ok,findAt];by_cases e:a=k
   ·simp[e]
   ·simp[e,ih]
theorem zU7 {td:TypeDesc} {k:Value} {es:List MapEntry} (h0:∀x∈es,Instr.sameNow td k x.key=none) (i:Nat):Instr.findNow td k es i=if es= [] then some none else none:=by
 cases es with
 | nil=>rfl
 | cons x es=>simp[Instr.findNow,h0 x (by simp)]
theorem z8C {P:Program} {κ:Type} [DecidableEq κ] {kt:TypeId} {en:En κ} {kv: κ→Value} {vals: κ→List Value} {td:TypeDesc} (hu:P.underlying kt=some td) (hT:EqTy P kt en) (hv:∀a,en.dv a= .agg ((vals a).map DV.v)) (hk:∀a,kv a= .agg (vals a).toArray) (h1:∀a,(vals a).all Value.oneCell'=true)
  (hs:∀a,(vals a).all (fun x=>Instr.sameBits 9999 x x)=true) (hc:∀a b w,(Instr.checkKey b 10000 kt (kv a)).run P w= .ok () w):KeyTy P kt kv where
 same:=fun a=>by
  rw[hk];have:∀(l:List Value),l.all (fun x=>Instr.sameBits 9999 x x)=true→(l.zip l).all (fun (x,y)=>Instr.sameBits 9999 x y)=true:=by
   intro l
   induction l with
   | nil=>intro _;rfl
   | cons x l ih=>intro h;simp only[List.all_cons,Bool.and_eq_true] at h;simp only[List.zip_cons_cons,List.all_cons,Bool.and_eq_true];exact⟨h.1,ih h.2⟩
  show Instr.sameBits (9999+1) _ _=true;rw[Instr.sameBits];simp[this _ (hs a)]
 check:=hc
 find:=fun a ks es w h=>by
  have heq:∀a b,(Op.equal kt (kv a) (kv b)).run P w= .ok (decide (a=b)) w:=by
   intro a b;have ra:Rep w (fun _ _=>False) (kv a) (en.dv a):=by rw[hk,hv];exact zU2 _ (h1 a)
   have rb:Rep w (fun _ _=>False) (kv b) (en.dv b):=by rw[hk,hv];exact zU2 _ (h1 b)
   exact(hT.eq a b _ _ w _ ra rb).2
  have hn:=zU7 (td:=td) (k:=kv a) (es:=es) (fun x _=>by rw[hk];cases td<;>rfl) 0
  simp only[Instr.findKey,Sem.run_bind,run_underlying hu,Result.andThen_ok,hn];by_cases he:es= []
  ·subst he
   cases ks with
   | nil=>simp[findAt]
   | cons k ks=>have:=h.1;simp at this
  ·simp only[he,if_false]
   exact zM9 heq a es ks 0 h
end Go.AV
namespace Go.AV
open Go.RowKit Go.M
def DV.pure:DV→Bool
 | .v _=>true
 | .agg cs=>cs.all DV.isV
 | _=>false
section
variable {P:Program} {r:Option Nat} {E:Env} {S:AState} {d:Nat} {ty:TypeId} {pos:String} {af:Array Edge} {g:Option (Nat×Bool)}
theorem zX4 {w:World} {I:Im} {ρ:Nat→Value} {M:Nat→Prop} {id e size k n:Nat} {cells:List DV} (h:BlkOk w I ρ M id (.win e size k cells)) (hl:cells.length=n*size):
  0<size∧∃A c xs,ρ id= .slice A n c∧n≤c∧Reps w I xs cells∧(∀x∈xs,x.oneCell'=true)∧(0<n→∃b off arr,A=some ⟨b,off,none⟩∧M b∧w.heap[b]? =some (.cells arr e (0,0))∧off+n*size≤arr.size∧(∀(j:Nat) x,xs[j]? =some x→arr[off+j]? =some x)∧(∀j,off≤j→j<off+n*size→I b j→j<off+k*size)):=by
 obtain⟨A,n',c,xs,hv,hnc,hp,hl',hr,h1,hA⟩:=h;obtain rfl:=zHP hl' hl hp;refine⟨hp,A,c,xs,hv,hnc,hr,h1,fun h0=>?_⟩;rcases hA with ⟨_,h⟩ | h
 ·omega
 ·exact h
section win
variable {t e size bytes k n:Nat} {z:Value} {x:Operand} {id:Nat} {cells:List DV}
theorem zZ6 (hn:d<E.n) (hT:SlTy P t e size bytes z) (hx:S.ev x= .row id) (hb:S.blk id= .win e size k cells) (hl:cells.length=n*size):
  AOp P r E S ⟨some d,.call {callee:= .builtin .len,args:= #[x],argTypes:= #[t]},ty,pos,af,g⟩ d (.d (.v (.int .i64 n))):=
 ⟨rfl,hn,fun S' ha=>jQ rfl hn (by simp) fun A w I ρ C hs=>by
  have h:=hs.ev x;rw[(ha.ev (by simp[Op.operands,Call.operands])).trans hx] at h;have hv:A.eval x= ρ id:=h;have hk:=hs.blks id;rw[(ha.blk id).trans hb] at hk;obtain⟨_,A',c,xs,hρ,_⟩:=zX4 hk hl;exact zN0 w hT.und _ _ _ x A (hv.trans hρ) _ rfl⟩
end win
end
end Go.AV
namespace Go.AV
open Go.RowKit Go.M
theorem z5H {vals:List Value} {u:DV} (h:u= .agg (vals.map DV.v)):∀(w:World) (I:Im) v,Rep w I v u→v= .agg vals.toArray:=by
 subst h;intro w I v h;cases h with
 | agg xs cells hx h1 hr=>
  congr 2;apply List.ext_getElem?;intro j;cases hxj:xs[j]? with
  | none=>
   have h1:xs.length≤j:=List.getElem?_eq_none_iff.1 hxj;rw[List.length_map] at hx;exact(List.getElem?_eq_none_iff.2 (by omega)).symm
  | some x=>
   have h1:j<vals.length:=by have:=(List.getElem?_eq_some_iff.1 hxj).1;rw[List.length_map] at hx;omega
   have hv:vals[j]? =some vals[j]:=List.getElem?_eq_getElem h1;rw[hv,zRH (hr j x (.v vals[j]) hxj (by simp[hv]))]
section
variable {P:Program} {r:Option Nat} {E:Env} {S:AState} {d:Nat} {ty:TypeId} {pos:String} {af:Array Edge} {g:Option (Nat×Bool)}
section
variable {t:TypeId} {κ ν:Type} [DecidableEq κ] {kv: κ→Value} {ev:En ν} {mp:List (κ×ν)} {k: κ} {kt vt:TypeId} {zv:Value} {zero: ν} {km kk:Operand} {id:Nat} {uk:DV}
theorem zZ7 (hn:d<E.n) (hT:MapTy P t kt vt zv) (hK:KeyTy P kt kv) (hm:S.ev km= .row id) (hb:S.blk id= .map (vB kv ev mp)) (hk:S.ev kk= .d uk) (hu:∀(w:World) (I:Im) v,Rep w I v uk→v=kv k) (hz:∀w I,Rep w I zv (ev.dv zero)):
  AOp P r E S ⟨some d,.lookup t km kk false,ty,pos,af,g⟩ d (.d (ev.dv (xI mp k zero))):=
 ⟨rfl,hn,fun S' ha=>kC rfl hn (by simp) fun A w I ρ C hs=>by
  have hbk:=hs.blks id;rw[(ha.blk id).trans hb] at hbk;obtain⟨b,ents,clock,hρ,_,hh,hp,_⟩:=hbk;have hv:=hs.ev km;rw[(ha.ev (by simp[Op.operands])).trans hm] at hv;have hv':A.eval km= .map (some b):=Eq.trans hv hρ;have hkk:=hs.ev kk;rw[(ha.ev (x:=kk) (by simp[Op.operands])).trans hk] at hkk;have hkv:=hu _ _ _ hkk;have hz':=hz w I;obtain⟨v,h1,h2⟩:=zGJ (w:=w) (I:=I) hT hK hh hp hz' false;refine⟨v,?_,h2⟩;simp only[execOp,hv',hkv,Sem.run_bind,h1];rfl⟩
theorem zXB (hn:d<E.n) (hT:MapTy P t kt vt zv) (hK:KeyTy P kt kv) (hm:S.ev km= .row id) (hb:S.blk id= .map (vB kv ev mp)) (hk:S.ev kk= .d uk) (hu:∀(w:World) (I:Im) v,Rep w I v uk→v=kv k) (hz:∀w I,Rep w I zv (ev.dv zero)):
  AOp P r E S ⟨some d,.lookup t km kk true,ty,pos,af,g⟩ d (.tup [ev.dv (xI mp k zero),db (wK mp k)]):=
 ⟨rfl,hn,fun S' ha=>kC rfl hn (by simp) fun A w I ρ C hs=>by
  have hbk:=hs.blks id;rw[(ha.blk id).trans hb] at hbk;obtain⟨b,ents,clock,hρ,_,hh,hp,_⟩:=hbk;have hv:=hs.ev km;rw[(ha.ev (by simp[Op.operands])).trans hm] at hv;have hv':A.eval km= .map (some b):=Eq.trans hv hρ;have hkk:=hs.ev kk;rw[(ha.ev (x:=kk) (by simp[Op.operands])).trans hk] at hkk;have hkv:=hu _ _ _ hkk;have hz':=hz w I;obtain⟨v,h1,h2⟩:=zGJ (w:=w) (I:=I) hT hK hh hp hz' true;refine⟨.tuple #[v,.bool (wK mp k)],?_,[v,.bool (wK mp k)],rfl,Pw.cons h2 (Pw.cons (.v _) Pw.nil)⟩;simp only[execOp,hv',hkv,Sem.run_bind,h1];rfl⟩
theorem zLJ {x:Operand} {v: ν} {u:DV} (hT:MapTy P t kt vt zv) (hK:KeyTy P kt kv) (hm:S.ev km= .row id) (hb:S.blk id= .map (vB kv ev mp)) (hk:S.ev kk= .d uk) (hku:∀(w:World) (I:Im) v,Rep w I v uk→v=kv k) (hx:S.ev x= .d u) (hu:u=ev.dv v) (hE:E.wrB=true):
    j9 P r E ⟨none,.mapUpdate t km kk x,ty,pos,af,g⟩ S (S.setBlk id (.map (vB kv ev (wD mp k v)))):=
  zER rfl (by simp) fun A w I ρ C hs=>by
    subst hu;have hbk:=hs.blks id;rw[hb] at hbk;obtain⟨b,ents,clock,hρ,hM,hh,hp,hI,hN⟩:=hbk;have hv:=hs.ev km;rw[hm] at hv;have hv':A.eval km= .map (some b):=Eq.trans hv hρ;have hkk:=hs.ev kk;rw[hk] at hkk;have hkv:=hku _ _ _ hkk;have hxv:=hs.ev x;rw[hx] at hxv;have hlt:=(Array.getElem?_eq_some_iff.1 hh).1;have hf:=hK.find k _ ents.toList w (zN1 hp);have hget:(getObj b).run P w= .ok (.map ents clock) w:=by simp[getObj,Sem.run,hh]
    have fin:∀(ents':Array MapEntry) (clock':Nat),Pw (fun (x:MapEntry) (y:Value×DV)=>x.key=y.1∧Rep w I x.val y.2) ents'.toList (vB kv ev (wD mp k v))→Born ents' clock'→
        Sat E (S.setBlk id (.map (vB kv ev (wD mp k v)))) A {w with heap:=w.heap.setIfInBounds b (.map ents' clock')}:=by
      intro ents' clock' hp' hN';have hg:w.grownBy {w with heap:=w.heap.setIfInBounds b (.map ents' clock')} (some b):=
        ⟨rfl,rfl,rfl,by simp,fun q _ hq=>Array.getElem?_setIfInBounds_ne (fun e=>hq (by rw[e]))⟩
      have hsame:Same I w {w with heap:=w.heap.setIfInBounds b (.map ents' clock')}:=fun b' j hi=>by
        have:b'≠b:=fun e=>hI j (e▸hi);exact KeepB.of (Array.getElem?_setIfInBounds_ne (fun e=>this e.symm))
      refine⟨I,ρ,C,hs.modify hg (by rw[hb];simp) (by rw[hρ];rfl) hsame ⟨b,ents',clock',hρ,hM,by simp[hlt],hp'.imp fun _ _ h=>⟨h.1,h.2.mono hsame (fun _ _ h=>h)⟩,hI,hN'⟩ hE⟩
    rcases zGI (a:=k) (i:=0) hp with ⟨e1,e2⟩ | ⟨v0,j,x0,e1,e2,e3,⟨q,q1,q2,q3⟩,e4⟩
    · rw[e2] at hf
      refine⟨_,?_,fin (ents.push {key:=kv k,val:=A.eval x,born:=clock}) (clock+1) ?_ hN.push⟩
      · simp only[execOp,hv',hkv,Instr.mapUpdate,Sem.run_bind,run_underlying hT.und,Result.andThen_ok,hget,hK.check,hf,zGK hh,Sem.run_pure]
      · rw[zLG e1]
        simp only[vB,List.map_append,Array.toList_push,List.map_cons,List.map_nil];exact Pw.append hp (Pw.cons ⟨rfl,hxv⟩ Pw.nil)
    · rw[e2] at hf
      have hq:ents[0+j]? =some q:=by rw[Nat.zero_add];simpa using q1
      have hkey:(Instr.keyThatStays (((ents[0+j]?).map (·.key)).getD (kv k)) (kv k)).run P w= .ok (kv k) w:=by
        rw[hq];simp only[Option.map_some,Option.getD_some,q2,Instr.keyThatStays,hK.same,if_true,Sem.run_pure]
      refine⟨_,?_,fin (ents.modify (0+j) fun e=>{e with key:=kv k,val:=A.eval x}) clock ?_ (hN.modify fun _=>rfl)⟩
      · simp only[execOp,hv',hkv,Instr.mapUpdate,Sem.run_bind,run_underlying hT.und,Result.andThen_ok,hget,hK.check,hf,hkey,zGK hh,Sem.run_pure]
      · rw[Nat.zero_add,Array.toList_modify]
        exact e4 (A.eval x) v _ (fun _=> .inr rfl) (fun _=>rfl) hxv
end
end
end Go.AV


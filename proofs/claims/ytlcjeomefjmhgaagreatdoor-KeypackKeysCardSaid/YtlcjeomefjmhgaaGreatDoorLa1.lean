/- The layer of abstract values: what a temporary holds, said once; every rule of it is proved from the model. Conditions: none. -/
import Derived.WalkKit
import Derived.TacticsIn
import Derived.OrdersIn
import Derived.RangeFuncLeaves
import Derived.Deep.AppendLies
import Derived.Below
import Derived.LoopNIn
import Derived.IntWalk
import Derived.Laws.BytesArg
import Derived.RangeFuncIn
set_option linter.unusedSimpArgs false
set_option linter.unusedVariables false
set_option linter.unnecessarySimpa false
namespace Go.AV
open Go.RowKit
inductive DV where
 | v (u:Value)
 | sl (size:Nat) (cells:List DV)
 | agg (cells:List DV)
 | pt (cells:List DV)
 | fn (f:FuncId) (caps:List DV)
 | mp (ks:List Value) (vs:List DV)
abbrev Im:=Nat→Nat→Prop
inductive Rep (w:World) (I:Im):Value→DV→Prop
  | v (u:Value):Rep w I u (.v u)
  | nil (A:Option Addr) (c size:Nat):Rep w I (.slice A 0 c) (.sl size [])
  | sl (b off n c size:Nat) (xs:List Value) (cells:List DV) (hn:0<n) (hcap:n≤c) (hl:cells.length=n*size) (hx:xs.length=cells.length)
      (hc:∀(j:Nat) x,xs[j]? =some x→w.cell? ⟨b,off+j,none⟩=some x∧I b (off+j)) (h1:∀x∈xs,x.oneCell'=true)
      (hr:∀(j:Nat) x d,xs[j]? =some x→cells[j]? =some d→Rep w I x d):Rep w I (.slice (some ⟨b,off,none⟩) n c) (.sl size cells)
  | agg (xs:List Value) (cells:List DV) (hx:xs.length=cells.length) (h1:∀x∈xs,x.oneCell'=true)
      (hr:∀(j:Nat) x d,xs[j]? =some x→cells[j]? =some d→Rep w I x d):Rep w I (.agg xs.toArray) (.agg cells)
  | pt (b off:Nat) (xs:List Value) (cells:List DV) (hx:xs.length=cells.length)
      (hc:∀(j:Nat) x,xs[j]? =some x→w.cell? ⟨b,off+j,none⟩=some x∧I b (off+j)) (h1:∀x∈xs,x.oneCell'=true)
      (hr:∀(j:Nat) x d,xs[j]? =some x→cells[j]? =some d→Rep w I x d):Rep w I (.pointer (some ⟨b,off,none⟩)) (.pt cells)
  | fn (f:FuncId) (xs:List Value) (caps:List DV) (hx:xs.length=caps.length)
      (hr:∀(j:Nat) x d,xs[j]? =some x→caps[j]? =some d→Rep w I x d):Rep w I (.func (.func f) #[] xs.toArray) (.fn f caps)
  | mp (b clock:Nat) (ents:Array MapEntry) (vs:List DV) (hh:w.heap[b]? =some (.map ents clock)) (hI:I b 0) (hx:ents.size=vs.length)
      (hr:∀(j:Nat) x d,ents.toList[j]? =some x→vs[j]? =some d→Rep w I x.val d):Rep w I (.map (some b)) (.mp (ents.toList.map (·.key)) vs)
structure KeepB (w w':World) (b j:Nat):Prop where
 cell:w'.cell? ⟨b,j,none⟩=w.cell? ⟨b,j,none⟩
 map:∀ents c,w.heap[b]? =some (.map ents c)→w'.heap[b]? =some (.map ents c)
theorem KeepB.refl {w:World} {b j:Nat}:KeepB w w b j:=⟨rfl,fun _ _ h=>h⟩
theorem KeepB.trans {w z G:World} {b j:Nat} (h:KeepB z G b j) (k:KeepB w z b j):KeepB w G b j:=⟨h.cell.trans k.cell,fun e c q=>h.map e c (k.map e c q)⟩
theorem KeepB.of {w w':World} {b j:Nat} (h:w'.heap[b]? =w.heap[b]?):KeepB w w' b j:=⟨World.cell?_of_block (a:=⟨b,j,none⟩) h,fun _ _ q=>h.trans q⟩
theorem KeepB.ofCell {w w':World} {b j:Nat} {arr:Array Value} {e:Nat} {k:Nat×Nat} (hb:w.heap[b]? =some (.cells arr e k)) (h:w'.cell? ⟨b,j,none⟩=w.cell? ⟨b,j,none⟩):KeepB w w' b j:=⟨h,fun _ _ q=>by rw[hb] at q;cases q⟩
def Same (I:Im) (w w':World):Prop:= ∀b j,I b j→KeepB w w' b j
theorem Rep.mono {w w':World} {I I':Im} {v:Value} {d:DV} (h:Rep w I v d) (hs:Same I w w') (hI:∀b j,I b j→I' b j):Rep w' I' v d:=by
 induction h with
 | v u=>exact .v u
 | nil A c size=>exact .nil A c size
 | sl b off n c size xs cells hn aa hl k H Z hr z=>
  exact .sl b off n c size xs cells hn aa hl k (fun j x O=>⟨(hs _ _ (H j x O).2).cell.trans (H j x O).1,hI _ _ (H j x O).2⟩) Z z
 | agg xs cells k Z hr z=>exact .agg xs cells k Z z
 | pt b off xs cells k H Z hr z=>
  exact .pt b off xs cells k (fun j x O=>⟨(hs _ _ (H j x O).2).cell.trans (H j x O).1,hI _ _ (H j x O).2⟩) Z z
 | fn f xs T k hr z=>exact .fn f xs T k z
 | mp b G Y vs hh hb k hr z=>exact .mp b G Y vs ((hs _ _ hb).map _ _ hh) (hI _ _ hb) k z
def Pw {h k:Type} (R: h→k→Prop) (xs:List h) (ys:List k):Prop:=
 xs.length=ys.length∧∀(j:Nat) x y,xs[j]? =some x→ys[j]? =some y→R x y
section
variable {α β:Type} {R R': α→β→Prop} {xs xs':List α} {ys ys':List β}
theorem Pw.imp (h:Pw R xs ys) (z:∀x y,R x y→R' x y):Pw R' xs ys:=⟨h.1,fun j x d G k=>z _ _ (h.2 j x d G k)⟩
theorem Pw.nil:Pw R [] []:=⟨rfl,fun j x d h=>by simp at h⟩
theorem Pw.cons {x: α} {y: β} (h:R x y) (G:Pw R xs ys):Pw R (x::xs) (y::ys):=by
 refine⟨by simp[G.1],fun j y e z k=>?_⟩;cases j with
 | zero=>simp at z k;subst z;subst k;exact h
 | succ j=>simp at z k;exact G.2 j y e z k
theorem Pw.append (h:Pw R xs ys) (k:Pw R xs' ys'):Pw R (xs++xs') (ys++ys'):=by
 refine⟨by simp[h.1,k.1],fun j x d G z=>?_⟩;by_cases H:j<xs.length;rw[List.getElem?_append_left H] at G;rw[List.getElem?_append_left (h.1▸H)] at z;exact h.2 j x d G z;rw[List.getElem?_append_right (by omega)] at G;rw[List.getElem?_append_right (by rw[←h.1];omega)] at z
 rw[←h.1] at z;exact k.2 _ x d G z
theorem Pw.take (h:Pw R xs ys) (n:Nat):Pw R (xs.take n) (ys.take n):=by refine⟨by simp[h.1],fun j x y k G=>?_⟩;rw[List.getElem?_take] at k G;split at k;rename_i z;rw[if_pos z] at G;exact h.2 j x y k G;cases k
theorem Pw.drop (h:Pw R xs ys) (n:Nat):Pw R (xs.drop n) (ys.drop n):=by refine⟨by simp[h.1],fun j x y k z=>?_⟩;rw[List.getElem?_drop] at k z;exact h.2 _ x y k z
theorem Pw.set (h:Pw R xs ys) {x: α} {y: β} (H:R x y) (n:Nat):Pw R (xs.set n x) (ys.set n y):=by refine⟨by simp[h.1],fun j u v k z=>?_⟩;rw[List.getElem?_set] at k z;by_cases e:n=j;subst e;by_cases G:n<xs.length;simp[G] at k;rw[h.1] at G;simp[G] at z;subst k;subst z;exact H;simp[G] at k;simp[e] at k z;exact h.2 j u v k z
end
abbrev Reps (w:World) (I:Im) (xs:List Value) (ds:List DV):Prop:=Pw (Rep w I) xs ds
theorem Reps.mono {w w':World} {I k:Im} {xs:List Value} {ds:List DV} (h:Reps w I xs ds) (H:Same I w w') (z:∀b j,I b j→k b j):Reps w' k xs ds:=
 h.imp fun _ _ G=>G.mono H z
inductive Cap where
 | top
 | d (x:DV)
 | ptr (id off:Nat)
 | row (id:Nat)
inductive AV where
 | top
 | d (x:DV)
 | row (id:Nat)
 | ptr (id off:Nat)
 | ip (cells:List DV) (off:Nat)
 | tup (ds:List DV)
 | cond (g:Bool) (x:AV)
 | gh (k:Nat)
 | rs (id off n:Nat)
 | clo (f:FuncId) (caps:List Cap)
 | tupc (xs:List Cap)
 | wp (id off:Nat)
 | ws (id off n:Nat) (tight:Bool)
 | aggc (xs:List Cap)
inductive Blk where
 | none
 | row (e size:Nat) (sh:Bool) (cells:List DV)
 | box (e:Nat) (cells:List AV)
 | map (es:List (Value×DV))
 | win (e size k:Nat) (cells:List DV)
structure AState where
 tmps:List (Nat×AV)
 blks:List (Nat×Blk)
def look {z:Type} (h: z):List (Nat×z)→Nat→z
 | [],_=>h
 | (i,x)::r,k=>if Nat.beq i k then x else look h r k
theorem kU {G:Type} (z: G) (i:Nat) (x: G) (r:List (Nat×G)) (k:Nat):look z ((i,x)::r) k=if i=k then x else look z r k:=by simp only[look];by_cases h:i=k<;>simp[h,Nat.beq_eq]
def AState.get (S:AState) (t:Nat):AV:=look .top S.tmps t
def AState.blk (S:AState) (id:Nat):Blk:=look .none S.blks id
def AState.put (S:AState) (t:Nat) (x:AV):AState:={S with tmps:=(t,x)::S.tmps}
def AState.setBlk (S:AState) (id:Nat) (b:Blk):AState:={S with blks:=(id,b)::S.blks}
theorem vX (S:AState) (t u:Nat) (x:AV):(S.put t x).get u=if t=u then x else S.get u:=kU _ _ _ _ _
theorem yGG (S:AState) (t u:Nat) (x:AV):(S.put t x).blk u=S.blk u:=rfl
theorem yA (S:AState) (t u:Nat) (x:Blk):(S.setBlk t x).blk u=if t=u then x else S.blk u:=kU _ _ _ _ _
theorem zSW (S:AState) (t u:Nat) (x:Blk):(S.setBlk t x).get u=S.get u:=rfl
def GT:Nat:=1000000
def AState.ghost (S:AState):Nat:=match S.get GT with
 | .gh k=>k
 | _=>0
def isData:Obj→Bool
 | .cells _ _ _=>true
 | .map _ _=>true
 | _=>false
structure Turned (l:Nat) (w w':World):Prop where
 os:w'.os=w.os
 tape:w'.tape=w.tape
 output:w'.output=w.output
 size:w'.heap.size=w.heap.size
 blk:∀k,k≠l→w'.heap[k]? =w.heap[k]?
 no:∀o,w.heap[l]? =some o→isData o=false
 no':∀o,w'.heap[l]? =some o→isData o=false
structure Chg (w w':World) (O:Nat→Prop):Prop where
 os:w'.os=w.os
 tape:w'.tape=w.tape
 output:w'.output=w.output
 size:w.heap.size≤w'.heap.size
 block:∀k,k<w.heap.size→¬O k→w'.heap[k]? =w.heap[k]?
theorem Chg.of {w w':World} {row:Option Nat} (h:w.grownBy w' row):Chg w w' (fun b=>row=some b):=
 ⟨h.os,h.tape,h.output,h.size,fun k z G=>h.block k z (fun e=>G e.symm)⟩
def GlI (h:Nat→Option (List Value)) (w:World) (I:Im):Prop:= ∀g zs,h g=some zs→∀j v,zs[j]? =some v→w.cell? ⟨g,j,none⟩=some v∧I g j
theorem GlI.sub {k:Nat→Option (List Value)} {w:World} {I z:Im} (h:GlI k w I) (O:∀b j,I b j→z b j):GlI k w z:=fun g zs G j v H=>⟨(h g zs G j v H).1,O _ _ (h g zs G j v H).2⟩
theorem GlI.none {w:World} {I:Im}:GlI (fun _=>none) w I:=fun _ _ h=>by cases h
structure Env where
 B:Nat
 I0:Im
 n:Nat
 fr:Nat→(Nat→Prop)→World→Prop
 wrB:Bool
 nle:n≤1000000
 mine:Nat→Prop
 mineB:∀b,B≤b→mine b
 nm:Nat→Option Value
 size:∀k C w,fr k C w→B≤w.heap.size
 csize:∀k C w,fr k C w→∀b,C b→b<w.heap.size
 grow:∀k C w w',fr k C w→Below w.heap.size w w'→fr k C w'
 wr:wrB=true→∀k C w w' O,fr k C w→Chg w w' O→(∀b,O b→mine b∧¬C b∧∃o,w.heap[b]? =some o∧isData o=true)→Same I0 w w'→fr k C w'
 turn:wrB=true→∀k C w w' l,fr k C w→B≤l→Turned l w w'→Same I0 w w'→fr k C w'
 gdt:Nat→Option (List Value)
 gl:∀k C w,fr k C w→GlI gdt w I0
def blockOf:Value→Option Nat
 | .slice (some a) _ _=>some a.block
 | .pointer (some a)=>some a.block
 | .map (some b)=>some b
 | _=>none
section
variable (w:World) (I:Im) (ρ:Nat→Value)
def HoldsC:Value→Cap→Prop
 | _,.top=>True
 | v,.d x=>Rep w I v x
 | v,.row id=>v= ρ id
 | v,.ptr id off=> ∃b,blockOf (ρ id)=some b∧v= .pointer (some ⟨b,off,none⟩)
def Holds:Value→AV→Prop
 | _,.top=>True
 | v,.d x=>Rep w I v x
 | v,.row id=>v= ρ id
 | v,.ptr id off=> ∃b,blockOf (ρ id)=some b∧v= .pointer (some ⟨b,off,none⟩)
 | v,.ip cells k=> ∃b off xs,v= .pointer (some ⟨b,off+k,none⟩)∧Reps w I xs cells∧(∀x∈xs,x.oneCell'=true)∧(∀(j:Nat) x,xs[j]? =some x→w.cell? ⟨b,off+j,none⟩=some x∧I b (off+j))
 | v,.tup ds=> ∃xs,v= .tuple xs.toArray∧Reps w I xs ds
 | v,.cond g x=>(g=true→Holds v x)∧(g=false→v=undef)
 | _,.gh _=>True
 | v,.rs id off n=> ∃A c,v= .slice A n c∧n≤c∧(0<n→∃b,blockOf (ρ id)=some b∧A=some ⟨b,off,none⟩)
 | v,.clo f h=> ∃xs,v= .func (.func f) #[] xs.toArray∧Pw (HoldsC w I ρ) xs h
 | v,.tupc cs=> ∃xs,v= .tuple xs.toArray∧Pw (HoldsC w I ρ) xs cs
 | v,.aggc cs=> ∃xs,v= .agg xs.toArray∧Pw (HoldsC w I ρ) xs cs∧∀x∈xs,x.oneCell'=true
 | v,.wp id off=> ∃b o n c,ρ id= .slice (some ⟨b,o,none⟩) n c∧v= .pointer (some ⟨b,o+off,none⟩)
 | v,.ws id off n tt=> ∃A c,v= .slice A n c∧n≤c∧(tt=true→c=n)∧(0<n→∃b o n0 c0,ρ id= .slice (some ⟨b,o,none⟩) n0 c0∧A=some ⟨b,o+off,none⟩)
def BlkOk (M:Nat→Prop) (id:Nat):Blk→Prop
 | .none=>True
 | .row e size sh cells=>(0<size∧∀g,(ρ id).ownBlock=some g→M g)∧∃n xs,cells.length=n*size∧w.ownsRow 0 e size (ρ id) n xs∧(∀x∈xs,x.oneCell'=true)∧Reps w I xs cells∧
   (∀g j,(ρ id).ownBlock=some g→I g j→sh=true∧j<cells.length)
 | .box e cells=> ∃b arr,ρ id= .pointer (some ⟨b,0,none⟩)∧M b∧w.heap[b]? =some (.cells arr e (0,0))∧(∀x∈arr.toList,x.oneCell'=true)∧
   Pw (Holds w I ρ) arr.toList cells∧(∀j,¬I b j)
 | .map es=> ∃b h z,ρ id= .map (some b)∧M b∧w.heap[b]? =some (.map h z)∧Pw (fun (x:MapEntry) (y:Value×DV)=>x.key=y.1∧Rep w I x.val y.2) h.toList es∧(∀j,¬I b j)
 | .win e size k cells=> ∃A n c xs,ρ id= .slice A n c∧n≤c∧0<size∧cells.length=n*size∧Reps w I xs cells∧(∀x∈xs,x.oneCell'=true)∧
   ((A=none∧n=0)∨∃b off arr,A=some ⟨b,off,none⟩∧M b∧w.heap[b]? =some (.cells arr e (0,0))∧off+n*size≤arr.size∧(∀(j:Nat) x,xs[j]? =some x→arr[off+j]? =some x)∧(∀j,off≤j→j<off+n*size→I b j→j<off+k*size))
end
structure DefOk (B:Nat) (wrB:Bool) (C:Nat→Prop) (w:World) (ds:List Deferred):Prop where
 each:∀d∈ds,∃r,d.target= .collected r∧B≤r∧¬C r∧w.heap[r]? =some (.deferred (some []))
 dist:ds.Pairwise fun d e=> ∀r,d.target= .collected r→e.target≠ .collected r
 wr:ds≠[]→wrB=true
theorem DefOk.nil {B:Nat} {k:Bool} {C:Nat→Prop} {w:World}:DefOk B k C w []:=⟨by simp,.nil,fun h=>absurd rfl h⟩
theorem DefOk.keep {B:Nat} {k:Bool} {C:Nat→Prop} {w w':World} {ds:List Deferred} (h:DefOk B k C w ds) (Y:∀r:Nat,w.heap[r]? =some (Obj.deferred (some []))→w'.heap[r]? =some (Obj.deferred (some []))):DefOk B k C w' ds:=
 ⟨fun d T=>let ⟨r,G,H,z,O⟩:=h.each d T;⟨r,G,H,z,Y r O⟩,h.dist,h.wr⟩
structure SatAt (E:Env) (S:AState) (a:Act) (w:World) (I:Im) (ρ:Nat→Value) (C:Nat→Prop):Prop where
 tmps:∀t,Holds w I ρ (a.tmps.getD t undef) (S.get t)
 blks:∀id,BlkOk w I ρ E.mine id (S.blk id)
 dist:∀id id' b,id≠id'→S.blk id≠ .none→S.blk id'≠ .none→blockOf (ρ id)=some b→blockOf (ρ id')≠some b
 frame:E.fr S.ghost C w
 sub:∀b j,E.I0 b j→I b j
 old:∀b j,I b j→b<w.heap.size∧(E.I0 b j∨E.mine b)
 size:a.tmps.size=E.n
 defers:DefOk E.B E.wrB C w a.defers
 cI:∀b j,I b j→¬C b
 cB:∀id b,S.blk id≠ .none→blockOf (ρ id)=some b→¬C b
 nm:∀id v,E.nm id=some v→S.blk id≠ .none→ρ id=v
def Sat (E:Env) (S:AState) (a:Act) (w:World):Prop:= ∃I ρ C,SatAt E S a w I ρ C
theorem SatAt.gl {E:Env} {S:AState} {a:Act} {w:World} {I:Im} {ρ:Nat→Value} {C:Nat→Prop} (h:SatAt E S a w I ρ C):GlI E.gdt w I:=(E.gl _ _ _ h.frame).sub h.sub
theorem zCW (S:AState) {t:Nat} (x:AV) {E:Env} (h:t<E.n):(S.put t x).ghost=S.ghost:=by
 have k:t≠GT:=by have:=E.nle;unfold GT;omega
 unfold AState.ghost;rw[vX,if_neg k]
def AV.un:AV→AV
 | .cond true x=>x.un
 | y=>y
def AState.ev (S:AState):Operand→AV
 | .tmp t=>(S.get t).un
 | .const v=> .d (.v v)
 | .func f=> .d (.v (.func (.func f) #[] #[]))
 | .global _=> .top
theorem Holds.un {w:World} {I:Im} {ρ:Nat→Value} {v:Value}:∀{x:AV},Holds w I ρ v x→Holds w I ρ v x.un:=by
 intro x
 induction x with
 | cond g x k=>
  intro h;cases g with
  | false=>exact h
  | true=>exact k (h.1 rfl)
 | _=>exact id
theorem SatAt.ev {E:Env} {S:AState} {a:Act} {w:World} {I:Im} {ρ:Nat→Value} {C:Nat→Prop} (h:SatAt E S a w I ρ C) (x:Operand):Holds w I ρ (a.eval x) (S.ev x):=by
 cases x with
 | tmp t=>exact(h.tmps t).un
 | const v=>exact .v v
 | func f=>exact .v _
 | global g=>trivial
theorem SatAt.val {E:Env} {S:AState} {a:Act} {w:World} {I:Im} {ρ:Nat→Value} {C:Nat→Prop} (h:SatAt E S a w I ρ C) {x:Operand} {v:Value} (k:S.ev x= .d (.v v)):a.eval x=v:=by have:=h.ev x;rw[k] at this;generalize a.eval x=u at this ⊢;cases this;rfl
theorem SatAt.put {E:Env} {S:AState} {a:Act} {w:World} {I:Im} {ρ:Nat→Value} {C:Nat→Prop} (h:SatAt E S a w I ρ C) {d:Nat} {v:Value} {x:AV} (z:d<E.n) (G:Holds w I ρ v x):
  SatAt E (S.put d x) (a.put (some d) v) w I ρ C:=by
 refine⟨fun t=>?_,h.blks,h.dist,by rw[zCW S x z];exact h.frame,h.sub,h.old,by simp[Act.put,h.size],h.defers,h.cI,h.cB,h.nm⟩
 rw[vX];by_cases k:d=t
 ·subst k
  simp only[if_true,Act.put];rw[Array.getD_eq_getD_getElem?,Array.getElem?_setIfInBounds_self_of_lt (by rw[h.size];exact z)]
  exact G
 ·simp only[k,if_false,Act.put]
  have:=h.tmps t;rw[Array.getD_eq_getD_getElem?] at this ⊢;rw[Array.getElem?_setIfInBounds_ne k];exact this
def fen (r:Option Nat):Fence:={Fence.wide with round:=r}
def k4 (P:Program) (r:Option Nat) (E:Env) (o:Oper) (S S':AState):Prop:=
 ∀a w (K:Act→World→Prop) (Q:Exit→Act→World→Prop),Sat E S a w→(∀h w',Sat E S' h w'→K h w')→o.wpIn (fen r) 0 P a w K Q
section
variable {P:Program} {r:Option Nat} {E:Env} {S:AState}
theorem wM {o:Oper} {S':AState} (k:∀c,o.op≠ .defer c)
  (h:∀a w I ρ C,SatAt E S a w I ρ C→∃v w',(execOp a.eval o).run P w= .ok (.value v) w'∧Sat E S' (a.put o.dst v) w'):k4 P r E o S S':=by
 rintro a w K Q ⟨I,ρ,C,H⟩ z
 obtain⟨v,w',G,O⟩:=h a w I ρ C H;refine⟨fun f _=>trivial,?_⟩;rw[Oper.semAt_eq _ _ _ k,G];exact z _ _ O
theorem zW {o:Oper} {d:Nat} {x:AV} (G:o.dst=some d) (H:d<E.n) (k:∀c,o.op≠ .defer c)
  (h:∀a w I ρ C,SatAt E S a w I ρ C→∃v,(execOp a.eval o).run P w= .ok (.value v) w∧Holds w I ρ v x):k4 P r E o S (S.put d x):=
 wM k fun a w I ρ C z=>by
  obtain⟨v,O,T⟩:=h a w I ρ C z;exact⟨v,w,O,I,ρ,C,by rw[G];exact z.put H T⟩
variable {d:Nat} {ty:TypeId} {pos:String} {af:Array Edge} {g:Option (Nat×Bool)}
theorem z8H {x:Operand} (h:d<E.n):k4 P r E ⟨some d,.move x,ty,pos,af,g⟩ S (S.put d (S.ev x)):=
 zW rfl h (by simp) fun a w I ρ C k=>⟨a.eval x,by simp[execOp],k.ev x⟩
theorem z0J {x:Operand} (h:d<E.n):k4 P r E ⟨some d,.assign x,ty,pos,af,g⟩ S (S.put d (S.ev x)):=
 zW rfl h (by simp) fun a w I ρ C k=>⟨a.eval x,by simp[execOp],k.ev x⟩
theorem kR {o:Oper} {v:Value} (z:o.dst=some d) (G:d<E.n) (k:∀c,o.op≠ .defer c)
  (h:∀a w I ρ C,SatAt E S a w I ρ C→(execOp a.eval o).run P w= .ok (.value v) w):k4 P r E o S (S.put d (.d (.v v))):=
 zW z G k fun a w I ρ C H=>⟨v,h a w I ρ C H,.v v⟩
section ints
variable {k:IntKind} {x y:Operand} {a b:Int} {tx tz:TypeId} (hn:d<E.n) (hx:S.ev x= .d (.v (.int k a))) (hy:S.ev y= .d (.v (.int k b)))
include hn hx hy
theorem yBD (z:k.wrap (a+b)=a+b):k4 P r E ⟨some d,.binOp .add tx x y tz,ty,pos,af,g⟩ S (S.put d (.d (.v (.int k (a+b))))):=
 kR rfl hn (by simp) fun A w I ρ C h=>by
  simp only[execOp,h.val hx,h.val hy];simp[binOp,eqGuard,Op.intArith,z]
theorem yBE (z:k.wrap (a*b)=a*b):k4 P r E ⟨some d,.binOp .mul tx x y tz,ty,pos,af,g⟩ S (S.put d (.d (.v (.int k (a*b))))):=
 kR rfl hn (by simp) fun A w I ρ C h=>by
  simp only[execOp,h.val hx,h.val hy];simp[binOp,eqGuard,Op.intArith,z]
theorem yBF:k4 P r E ⟨some d,.binOp .lss tx x y tz,ty,pos,af,g⟩ S (S.put d (.d (.v (.bool (decide (a<b)))))):=
 kR rfl hn (by simp) fun A w I ρ C h=>by
  simp only[execOp,h.val hx,h.val hy];simp[binOp,eqGuard,Op.intCmp]
theorem yBG:k4 P r E ⟨some d,.binOp .leq tx x y tz,ty,pos,af,g⟩ S (S.put d (.d (.v (.bool (decide (a≤b)))))):=
 kR rfl hn (by simp) fun A w I ρ C h=>by
  simp only[execOp,h.val hx,h.val hy];simp[binOp,eqGuard,Op.intCmp]
theorem yBH:k4 P r E ⟨some d,.binOp .gtr tx x y tz,ty,pos,af,g⟩ S (S.put d (.d (.v (.bool (decide (b<a)))))):=
 kR rfl hn (by simp) fun A w I ρ C h=>by
  simp only[execOp,h.val hx,h.val hy];simp[binOp,eqGuard,Op.intCmp]
theorem yBI:k4 P r E ⟨some d,.binOp .geq tx x y tz,ty,pos,af,g⟩ S (S.put d (.d (.v (.bool (decide (b≤a)))))):=
 kR rfl hn (by simp) fun A w I ρ C h=>by
  simp only[execOp,h.val hx,h.val hy];simp[binOp,eqGuard,Op.intCmp]
theorem yBJ:k4 P r E ⟨some d,.binOp .eql tx x y tz,ty,pos,af,g⟩ S (S.put d (.d (.v (.bool (decide (a=b)))))):=
 kR rfl hn (by simp) fun A w I ρ C h=>by
  simp only[execOp,h.val hx,h.val hy];have:(a==b)=decide (a=b):=rfl;simp[binOp,eqGuard,Op.intCmp,this]
theorem yBK:k4 P r E ⟨some d,.binOp .neq tx x y tz,ty,pos,af,g⟩ S (S.put d (.d (.v (.bool (!decide (a=b)))))):=
 kR rfl hn (by simp) fun A w I ρ C h=>by
  simp only[execOp,h.val hx,h.val hy];have:(a != b)= !decide (a=b):=rfl;simp[binOp,eqGuard,Op.intCmp,this]
end ints
theorem yBL {k k':IntKind} {x y:Operand} {a:Int} {m:Nat} {tx tz:TypeId} (T:d<E.n) (Y:S.ev x= .d (.v (.int k a))) (Z:S.ev y= .d (.v (.int k' (m:Int))))
  (O:m≤k.bits):k4 P r E ⟨some d,.binOp .shr tx x y tz,ty,pos,af,g⟩ S (S.put d (.d (.v (.int k (a/2 ^ m))))):=
 kR rfl T (by simp) fun A w I ρ C h=>by
  simp only[execOp,h.val Y,h.val Z];have z:¬((m:Int)<0):=by omega
  have G:min m k.bits=m:=Nat.min_eq_left O;have H:a.fdiv (2 ^ m)=a/2 ^ m:=Int.fdiv_eq_ediv_of_nonneg a (Int.le_of_lt (Int.pow_pos (by decide)));simp[binOp,eqGuard,Op.shift,z,G,H]
theorem yBM {x:Operand} {b:Bool} {tx:TypeId} (h:d<E.n) (z:S.ev x= .d (.v (.bool b))):k4 P r E ⟨some d,.unOp .not tx x,ty,pos,af,g⟩ S (S.put d (.d (.v (.bool (!b))))):=
 kR rfl h (by simp) fun A w I ρ C k=>by
  simp only[execOp,k.val z];simp[Op.unary]
theorem zU9 {c:Operand} {t:Nat} {b h:Bool} (O:d<E.n) (H:S.ev c= .d (.v (.bool b))) (T:S.get t= .cond b (.d (.v (.bool h)))):
  k4 P r E ⟨some d,.pick c (.tmp t) (.const (.bool false)),ty,pos,af,g⟩ S (S.put d (.d (.v (.bool (b&&h))))):=
 kR rfl O (by simp) fun A w I ρ C G=>by
  have z:=G.tmps t;rw[T] at z;simp only[execOp,G.val H];cases b with
  | false=>simp[asBool,Act.eval]
  | true=>
   have k:=z.1 rfl;generalize Y:A.tmps.getD t undef=v at k;cases k;simp only[Act.eval,Y];simp[asBool]
theorem zX0 {c:Operand} {t:Nat} {b h:Bool} (O:d<E.n) (H:S.ev c= .d (.v (.bool b))) (T:S.get t= .cond (!b) (.d (.v (.bool h)))):
  k4 P r E ⟨some d,.pick c (.const (.bool true)) (.tmp t),ty,pos,af,g⟩ S (S.put d (.d (.v (.bool (b ||h))))):=
 kR rfl O (by simp) fun A w I ρ C G=>by
  have z:=G.tmps t;rw[T] at z;simp only[execOp,G.val H];cases b with
  | true=>simp[asBool,Act.eval]
  | false=>
   have k:=z.1 rfl;generalize Y:A.tmps.getD t undef=v at k;cases k;simp only[Act.eval,Y];simp[asBool]
section strs
variable {x y:Operand} {a b:ByteArray} {tx tz:TypeId} (hn:d<E.n) (hx:S.ev x= .d (.v (.string a))) (hy:S.ev y= .d (.v (.string b)))
include hn hx hy
theorem zSX {k:BinOp} {v:Value} (O:k≠ .shl∧k≠ .shr) (h:∀w,(Op.stringOp k a b).run P w= .ok v w):k4 P r E ⟨some d,.binOp k tx x y tz,ty,pos,af,g⟩ S (S.put d (.d (.v v))):=
 kR rfl hn (by simp) fun A w I ρ C z=>by
  simp only[execOp,z.val hx,z.val hy];have G:(eqGuard k tx x y (.string a) (.string b)).run P w= .ok () w:=by cases k<;>simp[eqGuard]
  have H:binOp k tx (.string a) (.string b)=Op.stringOp k a b:=by cases k<;>simp_all [binOp]
  simp[G,H,h]
theorem z8I:k4 P r E ⟨some d,.binOp .eql tx x y tz,ty,pos,af,g⟩ S (S.put d (.d (.v (.bool (a.toList==b.toList))))):=zSX hn hx hy (by simp) (fun _=>by simp[Op.stringOp])
theorem z8J:k4 P r E ⟨some d,.binOp .neq tx x y tz,ty,pos,af,g⟩ S (S.put d (.d (.v (.bool (!(a.toList==b.toList)))))):=zSX hn hx hy (by simp) (fun _=>by simp[Op.stringOp])
theorem z8K:k4 P r E ⟨some d,.binOp .lss tx x y tz,ty,pos,af,g⟩ S (S.put d (.d (.v (.bool (Op.bytesLess a.toList b.toList))))):=zSX hn hx hy (by simp) (fun _=>by simp[Op.stringOp])
end strs
theorem zVA {k z:IntKind} {x:Operand} {a:Int} {G td:TypeId} {ds:TypeDesc} (O:d<E.n) (T:P.underlying G=some ds) (H:P.underlying td=some (.int z)) (Y:S.ev x= .d (.v (.int k a))):
  k4 P r E ⟨some d,.convert G td x,ty,pos,af,g⟩ S (S.put d (.d (.v (.int z (z.wrap a))))):=
 kR rfl O (by simp) fun A w I ρ C h=>by
  simp only[execOp,h.val Y];simp[convert,run_underlying T,run_underlying H,Conv.intToInt]
theorem zX1 {x:Operand} {i:Nat} {ds:List DV} {e:DV} (G:d<E.n) (T:S.ev x= .tup ds) (hi:ds[i]? =some e):k4 P r E ⟨some d,.extract x i,ty,pos,af,g⟩ S (S.put d (.d e)):=
 zW rfl G (by simp) fun A w I ρ C H=>by
  have h:=H.ev x;rw[T] at h;obtain⟨xs,O,z⟩:=h;have k:i<xs.length:=by rw[z.1];exact(List.getElem?_eq_some_iff.1 hi).1
  refine⟨xs[i],?_,z.2 i _ e (List.getElem?_eq_getElem k) hi⟩;simp only[execOp,O];simp[Instr.extract,List.getElem?_eq_getElem k]
end
def Cap.mentions (id:Nat):Cap→Bool
 | .row i=>Nat.beq i id
 | .ptr i _=>Nat.beq i id
 | _=>false
def AV.mentions (id:Nat):AV→Bool
 | .row i=>Nat.beq i id
 | .ptr i _=>Nat.beq i id
 | .rs i _ _=>Nat.beq i id
 | .wp i _=>Nat.beq i id
 | .ws i _ _ _=>Nat.beq i id
 | .clo _ h=>h.any (Cap.mentions id)
 | .tupc h=>h.any (Cap.mentions id)
 | .aggc h=>h.any (Cap.mentions id)
 | .cond _ x=>x.mentions id
 | _=>false
def zEP (id:Nat) (x:AV):AV:=if x.mentions id then .top else x
def zSE (id:Nat):Blk→Blk
 | .box e cells=> .box e (cells.map (zEP id))
 | b=>b
def AState.kill (S:AState) (id:Nat):AState:=
 {tmps:=S.tmps.map fun p=>(p.1,zEP id p.2),blks:=S.blks.map fun p=>(p.1,zSE id p.2)}
theorem zOL {z:Type} (h: z) (f: z→z) (G:f h=h) (l:List (Nat×z)) (k:Nat):look h (l.map fun p=>(p.1,f p.2)) k=f (look h l k):=by
 induction l with
 | nil=>simp[look,G]
 | cons p l H=>obtain⟨i,x⟩:=p;simp only[List.map_cons,kU,H];split<;>rfl
theorem z0K (S:AState) (id t:Nat):(S.kill id).get t=zEP id (S.get t):=zOL _ _ rfl _ _
theorem zH2 (S:AState) (id i:Nat):(S.kill id).blk i=zSE id (S.blk i):=zOL _ _ rfl _ _
theorem yGH (id:Nat) (x:AV):(match zEP id x with | .gh k=>k | _=>0)=(match x with | .gh k=>k | _=>0):=by
 unfold zEP;by_cases h:x.mentions id=true;simp only[h,if_true];cases x<;>first | rfl | (simp[AV.mentions] at h)
 simp only[h];rfl
def upd (ρ:Nat→Value) (id:Nat) (v:Value):Nat→Value:=fun i=>if i=id then v else ρ i
theorem HoldsC.upd {w w':World} {I k:Im} {ρ:Nat→Value} {v:Value} {x:Cap} (h:HoldsC w I ρ v x) (H:Same I w w') (G:∀b j,I b j→k b j) (id:Nat) (u:Value) (z:x.mentions id=false):
  HoldsC w' k (upd ρ id u) v x:=by
 cases x with
 | top=>trivial
 | d y=>exact Rep.mono h H G
 | row i=>
  have:i≠id:=by intro e;subst e;simp[Cap.mentions] at z
  simpa[HoldsC,Go.AV.upd,this] using h
 | ptr i off=>
  have:i≠id:=by intro e;subst e;simp[Cap.mentions] at z
  simpa[HoldsC,Go.AV.upd,this] using h
theorem HoldsC.updL {w w':World} {I k:Im} {ρ:Nat→Value} {xs:List Value} {cs:List Cap} (h:Pw (HoldsC w I ρ) xs cs) (O:Same I w w') (G:∀b j,I b j→k b j) (id:Nat) (u:Value) (H:cs.any (Cap.mentions id)=false):
  Pw (HoldsC w' k (Go.AV.upd ρ id u)) xs cs:=⟨h.1,fun j x c T z=>(h.2 j x c T z).upd O G id u (by
   have:=List.any_eq_false.1 H c (List.mem_of_getElem? z);simpa using this)⟩
theorem HoldsC.mono {w w':World} {I k:Im} {ρ:Nat→Value} {v:Value} {x:Cap} (h:HoldsC w I ρ v x) (G:Same I w w') (z:∀b j,I b j→k b j):HoldsC w' k ρ v x:=by
 cases x with
 | top=>trivial
 | d y=>exact Rep.mono h G z
 | row i=>exact h
 | ptr i off=>exact h
theorem Holds.upd {w w':World} {I Z:Im} {ρ:Nat→Value} {v:Value} {x:AV} (h:Holds w I ρ v x) (T:Same I w w') (O:∀b j,I b j→Z b j) (id:Nat) (u:Value):
  Holds w' Z (upd ρ id u) v (zEP id x):=by
 unfold zEP;by_cases z:x.mentions id=true
 ·simp[z,Holds]
 ·simp only[z]
  show Holds w' Z (Go.AV.upd ρ id u) v x
  induction x with
  | top=>trivial
  | d y=>exact Rep.mono h T O
  | row i=>
   have:i≠id:=by intro e;subst e;simp[AV.mentions] at z
   simpa[Holds,Go.AV.upd,this] using h
  | ptr i off=>
   have:i≠id:=by intro e;subst e;simp[AV.mentions] at z
   simpa[Holds,Go.AV.upd,this] using h
  | ip cells k=>
   obtain⟨b,off,xs,G,hr,h1,hc⟩:=h;exact⟨b,off,xs,G,hr.mono T O,h1,fun j y hj=>⟨(T _ _ (hc j y hj).2).cell.trans (hc j y hj).1,O _ _ (hc j y hj).2⟩⟩
  | tup ds=>obtain⟨xs,G,hr⟩:=h;exact⟨xs,G,hr.mono T O⟩
  | cond g y ih=>exact⟨fun hg=>ih (h.1 hg) (by simpa[AV.mentions] using z),h.2⟩
  | gh k=>trivial
  | rs i off n=>
   have:i≠id:=by intro e;subst e;simp[AV.mentions] at z
   simpa[Holds,Go.AV.upd,this] using h
  | clo f H=>
   obtain⟨xs,G,Y⟩:=h;exact⟨xs,G,HoldsC.updL Y T O id u (by simpa[AV.mentions] using z)⟩
  | tupc H=>
   obtain⟨xs,G,Y⟩:=h;exact⟨xs,G,HoldsC.updL Y T O id u (by simpa[AV.mentions] using z)⟩
  | aggc H=>
   obtain⟨xs,G,Y,h1⟩:=h;exact⟨xs,G,HoldsC.updL Y T O id u (by simpa[AV.mentions] using z),h1⟩
  | wp i off=>
   have:i≠id:=by intro e;subst e;simp[AV.mentions] at z
   simpa[Holds,Go.AV.upd,this] using h
  | ws i off n tt=>
   have:i≠id:=by intro e;subst e;simp[AV.mentions] at z
   simpa[Holds,Go.AV.upd,this] using h
theorem Holds.mono {w w':World} {I I':Im} {ρ:Nat→Value} {v:Value} {x:AV} (h:Holds w I ρ v x) (O:Same I w w') (H:∀b j,I b j→I' b j):Holds w' I' ρ v x:=by
 induction x with
 | top=>trivial
 | d y=>exact Rep.mono h O H
 | row i=>exact h
 | ptr i off=>exact h
 | ip cells k=>
  obtain⟨b,off,xs,z,hr,Y,Z⟩:=h;exact⟨b,off,xs,z,hr.mono O H,Y,fun j y hj=>⟨(O _ _ (Z j y hj).2).cell.trans (Z j y hj).1,H _ _ (Z j y hj).2⟩⟩
 | tup ds=>obtain⟨xs,z,hr⟩:=h;exact⟨xs,z,hr.mono O H⟩
 | cond g y ih=>exact⟨fun hg=>ih (h.1 hg),h.2⟩
 | gh k=>trivial
 | rs i off n=>exact h
 | clo f G=>obtain⟨xs,z,T⟩:=h;exact⟨xs,z,T.imp fun _ _ h=>h.mono O H⟩
 | tupc G=>obtain⟨xs,z,T⟩:=h;exact⟨xs,z,T.imp fun _ _ h=>h.mono O H⟩
 | aggc G=>obtain⟨xs,z,T,Y⟩:=h;exact⟨xs,z,T.imp fun _ _ h=>h.mono O H,Y⟩
 | wp i off=>exact h
 | ws i off n tt=>exact h
theorem zNI {w w':World} {B e size n:Nat} {v:Value} {xs:List Value} (h:w.ownsRow B e size v n xs) (hb:∀g,v.ownBlock=some g→w'.heap[g]? =w.heap[g]?):w'.ownsRow B e size v n xs:=by
 refine⟨h.1,?_⟩;rcases h.2 with O | ⟨g,k,z,rfl,G,H,rest⟩
 exact .inl O;exact .inr ⟨g,k,z,rfl,G,by rw[hb g rfl];exact H,rest⟩
theorem zA1 {v:Value} {g:Nat} (h:v.ownBlock=some g):blockOf v=some g:=by unfold Value.ownBlock at h;split at h;simpa[blockOf] using h;cases h
theorem BlkOk.mono {w w':World} {I:Im} {ρ:Nat→Value} {M:Nat→Prop} {i:Nat} {x:Blk} (h:BlkOk w I ρ M i x) (hs:Same I w w')
  (hb:∀b,blockOf (ρ i)=some b→w'.heap[b]? =w.heap[b]?):BlkOk w' I ρ M i x:=by
 cases x with
 | none=>trivial
 | row e size sh cells=>
  obtain⟨h0,n,xs,hl,ad,Z,H,hI⟩:=h;exact⟨h0,n,xs,hl,zNI ad (fun g hg=>hb g (zA1 hg)),Z,H.mono hs (fun _ _ h=>h),hI⟩
 | box e cells=>
  obtain⟨b,arr,z,hB,hh,Z,H,hI⟩:=h;exact⟨b,arr,z,hB,by rw[hb b (by rw[z];rfl)];exact hh,Z,H.imp fun _ _ h=>h.mono hs (fun _ _ h=>h),hI⟩
 | map es=>
  obtain⟨b,Y,G,z,hB,hh,H,hI⟩:=h;exact⟨b,Y,G,z,hB,by rw[hb b (by rw[z];rfl)];exact hh,H.imp fun _ _ h=>⟨h.1,h.2.mono hs (fun _ _ h=>h)⟩,hI⟩
 | win e size k cells=>
  obtain⟨A,n,c,xs,z,ai,hp,hl,H,Z,T⟩:=h;refine⟨A,n,c,xs,z,ai,hp,hl,H.mono hs (fun _ _ h=>h),Z,?_⟩;rcases T with T | ⟨b,off,arr,T,hB,hh,O⟩
  ·exact .inl T
  ·exact .inr ⟨b,off,arr,T,hB,by rw[hb b (by rw[z,T];rfl)];exact hh,O⟩
theorem BlkOk.upd {w w':World} {I:Im} {ρ:Nat→Value} {M:Nat→Prop} {i:Nat} {x:Blk} (h:BlkOk w I ρ M i x) (hs:Same I w w')
  (hb:∀b,blockOf (ρ i)=some b→w'.heap[b]? =w.heap[b]?) {id:Nat} (an:i≠id) (u:Value):BlkOk w' I (upd ρ id u) M i (zSE id x):=by
 have z:Go.AV.upd ρ id u i= ρ i:=by simp[Go.AV.upd,an]
 cases x with
 | none=>trivial
 | row e size sh cells=>
  obtain⟨h0,n,xs,hl,ah,h1,H,hI⟩:=h;refine⟨by rw[z];exact h0,n,xs,hl,?_,h1,H.mono hs (fun _ _ h=>h),?_⟩
  ·rw[z];exact zNI ah (fun g hg=>hb g (zA1 hg))
  ·rw[z];exact hI
 | box e cells=>
  obtain⟨b,arr,O,hB,hh,h1,H,hI⟩:=h;refine⟨b,arr,by rw[z];exact O,hB,by rw[hb b (by rw[O];rfl)];exact hh,h1,⟨by simpa using H.1,fun j y av hj G=>?_⟩,hI⟩
  rw[List.getElem?_map] at G;cases hc:cells[j]? with
  | none=>simp[hc] at G
  | some aj=>
   simp[hc] at G;subst G;exact(H.2 j y aj hj hc).upd hs (fun _ _ h=>h) id u
 | map es=>
  obtain⟨b,aa,T,O,hB,hh,H,hI⟩:=h;exact⟨b,aa,T,by rw[z];exact O,hB,by rw[hb b (by rw[O];rfl)];exact hh,H.imp fun _ _ h=>⟨h.1,h.2.mono hs (fun _ _ h=>h)⟩,hI⟩
 | win e size k cells=>
  obtain⟨A,n,c,xs,O,am,hp,hl,H,h1,Z⟩:=h;refine⟨A,n,c,xs,by rw[z];exact O,am,hp,hl,H.mono hs (fun _ _ h=>h),h1,?_⟩
  rcases Z with Z | ⟨b,off,arr,Z,hB,hh,Y⟩
  ·exact .inl Z
  ·exact .inr ⟨b,off,arr,Z,hB,by rw[hb b (by rw[O,Z];rfl)];exact hh,Y⟩
theorem BlkOk.widenI {w:World} {I I':Im} {ρ:Nat→Value} {M:Nat→Prop} {i:Nat} {x:Blk} (h:BlkOk w I ρ M i x) (z:∀b j,I b j→I' b j)
  (hx:∀b j,x≠ .none→blockOf (ρ i)=some b→I' b j→I b j):BlkOk w I' ρ M i x:=by
 have hs:Same I w w:=fun _ _ _=>KeepB.refl;cases x with
 | none=>trivial
 | row e size sh cells=>
  obtain⟨h0,n,xs,hl,ad,O,Y,T⟩:=h;exact⟨h0,n,xs,hl,ad,O,Y.mono hs z,fun g j hg hi=>T g j hg (hx g j (by simp) (zA1 hg) hi)⟩
 | box e cells=>
  obtain⟨b,arr,G,hB,hh,O,Y,T⟩:=h;exact⟨b,arr,G,hB,hh,O,Y.imp fun _ _ h=>h.mono hs z,fun j hi=>T j (hx b j (by simp) (by rw[G];rfl) hi)⟩
 | map es=>
  obtain⟨b,aa,H,G,hB,hh,Y,T⟩:=h;exact⟨b,aa,H,G,hB,hh,Y.imp fun _ _ h=>⟨h.1,h.2.mono hs z⟩,fun j hi=>T j (hx b j (by simp) (by rw[G];rfl) hi)⟩
 | win e size k cells=>
  obtain⟨A,n,c,xs,G,ak,hp,hl,Y,O,Z⟩:=h;refine⟨A,n,c,xs,G,ak,hp,hl,Y.mono hs z,O,?_⟩;rcases Z with Z | ⟨b,off,arr,Z,hB,hh,hf,hc,T⟩
  ·exact .inl Z
  ·exact .inr ⟨b,off,arr,Z,hB,hh,hf,hc,fun j O h2 hi=>T j O h2 (hx b j (by simp) (by rw[G,Z];rfl) hi)⟩
theorem BlkOk.mineM {w:World} {I:Im} {ρ:Nat→Value} {M M':Nat→Prop} {i:Nat} {x:Blk} (h:BlkOk w I ρ M i x)
  (Y:∀b,x≠ .none→blockOf (ρ i)=some b→M b→M' b):BlkOk w I ρ M' i x:=by
 cases x with
 | none=>trivial
 | row e size sh cells=>
  obtain⟨h0,rest⟩:=h;exact⟨⟨h0.1,fun g hg=>Y g (by simp) (zA1 hg) (h0.2 g hg)⟩,rest⟩
 | box e cells=>
  obtain⟨b,arr,z,T,rest⟩:=h;exact⟨b,arr,z,Y b (by simp) (by rw[z];rfl) T,rest⟩
 | map es=>
  obtain⟨b,O,G,z,T,rest⟩:=h;exact⟨b,O,G,z,Y b (by simp) (by rw[z];rfl) T,rest⟩
 | win e size k cells=>
  obtain⟨A,n,c,xs,z,Z,hp,hl,hr,h1,H⟩:=h;refine⟨A,n,c,xs,z,Z,hp,hl,hr,h1,?_⟩;rcases H with H | ⟨b,off,arr,H,T,rest⟩
  ·exact .inl H
  ·exact .inr ⟨b,off,arr,H,Y b (by simp) (by rw[z,H];rfl) T,rest⟩
theorem SatAt.blt {E:Env} {S:AState} {a:Act} {w:World} {I:Im} {ρ:Nat→Value} {C:Nat→Prop} (h:SatAt E S a w I ρ C):∀i b,S.blk i≠ .none→blockOf (ρ i)=some b→E.mine b∧b<w.heap.size:=by
 intro i b hi hb;have:=h.blks i;cases Y:S.blk i with
 | none=>exact absurd Y hi
 | row e size sh cells=>
  rw[Y] at this;obtain⟨hM,n,xs,hl,T,_⟩:=this;rcases T.2 with ⟨hn,_⟩ | ⟨g,ad,ag,z,H,G,_⟩
  rw[hn] at hb;simp[blockOf] at hb;have aa:=hM.2 g (by rw[z];rfl)
  rw[z] at hb;simp[blockOf] at hb;subst hb;exact⟨aa,(Array.getElem?_eq_some_iff.1 G).1⟩
 | box e cells=>
  rw[Y] at this;obtain⟨b',arr,z,H,G,_⟩:=this;rw[z] at hb;simp[blockOf] at hb;subst hb;exact⟨H,(Array.getElem?_eq_some_iff.1 G).1⟩
 | map es=>
  rw[Y] at this;obtain⟨b',ac,Z,z,H,G,_⟩:=this;rw[z] at hb;simp[blockOf] at hb;subst hb;exact⟨H,(Array.getElem?_eq_some_iff.1 G).1⟩
 | win e size k cells=>
  rw[Y] at this;obtain⟨A,n,c,xs,z,_,_,_,_,_,O⟩:=this;rcases O with ⟨O,_⟩ | ⟨b',off,arr,O,H,G,_⟩
  rw[z,O] at hb;simp[blockOf] at hb;rw[z,O] at hb;simp[blockOf] at hb;subst hb;exact⟨H,(Array.getElem?_eq_some_iff.1 G).1⟩
theorem SatAt.grow {E:Env} {S:AState} {a:Act} {w w':World} {I:Im} {ρ:Nat→Value} {C:Nat→Prop} (h:SatAt E S a w I ρ C) (hb:Below w.heap.size w w'):SatAt E S a w' I ρ C:=by
 have G:Same I w w':=fun b j hi=>KeepB.of (hb.block b (h.old b j hi).1);refine⟨fun t=>(h.tmps t).mono G (fun _ _ h=>h),fun i=>?_,h.dist,E.grow _ _ _ _ h.frame hb,h.sub,fun b j hi=>⟨Nat.lt_of_lt_of_le (h.old b j hi).1 hb.size,(h.old b j hi).2⟩,h.size,h.defers.keep fun r z=>(hb.block r (Array.getElem?_eq_some_iff.1 z).1).trans z,h.cI,h.cB,h.nm⟩;cases H:S.blk i with
 | none=>trivial
 | _=>
  rw[←H];exact(h.blks i).mono G (fun b k=>hb.block b (h.blt i b (by rw[H];simp) k).2)
theorem SatAt.cellBlk {E:Env} {S:AState} {a:Act} {w:World} {I:Im} {ρ:Nat→Value} {C:Nat→Prop} (h:SatAt E S a w I ρ C) {id b:Nat} (ab:S.blk id≠ .none) (z:blockOf (ρ id)=some b):∃o,w.heap[b]? =some o∧isData o=true:=by
 have:=h.blks id;cases Y:S.blk id with
 | none=>exact absurd Y ab
 | row e size sh cells=>
  rw[Y] at this;obtain⟨_,n,xs,hl,T,_⟩:=this;rcases T.2 with ⟨hn,_⟩ | ⟨g,ag,ah,G,hB,H,_⟩
  rw[hn] at z;simp[blockOf] at z;rw[G] at z;simp[blockOf] at z;subst z;exact⟨_,H,rfl⟩
 | box e cells=>
  rw[Y] at this;obtain⟨b',arr,G,hB,H,_⟩:=this;rw[G] at z;simp[blockOf] at z;subst z;exact⟨_,H,rfl⟩
 | map es=>
  rw[Y] at this;obtain⟨b',ad,Z,G,hB,H,_⟩:=this;rw[G] at z;simp[blockOf] at z;subst z;exact⟨_,H,rfl⟩
 | win e size k cells=>
  rw[Y] at this;obtain⟨A,n,c,xs,G,_,_,_,_,_,O⟩:=this;rcases O with ⟨O,_⟩ | ⟨b',off,arr,O,hB,H,_⟩
  rw[G,O] at z;simp[blockOf] at z;rw[G,O] at z;simp[blockOf] at z;subst z;exact⟨_,H,rfl⟩
theorem SatAt.modify {E:Env} {S:AState} {a:Act} {w w':World} {I:Im} {ρ:Nat→Value} {C:Nat→Prop} (h:SatAt E S a w I ρ C) {id b:Nat} {x:Blk} (Z:w.grownBy w' (some b))
  (z:S.blk id≠ .none) (O:blockOf (ρ id)=some b) (hs:Same I w w') (hx:BlkOk w' I ρ E.mine id x) (hE:E.wrB=true):SatAt E (S.setBlk id x) a w' I ρ C:=by
 have G:∃o,w.heap[b]? =some o∧isData o=true:=h.cellBlk z O;refine⟨fun t=>(h.tmps t).mono hs (fun _ _ h=>h),fun i=>?_,fun i i' Y ac hi ab hb=>?_,E.wr hE _ _ _ _ _ h.frame (Chg.of Z) (fun k hk=>by cases hk;exact⟨(h.blt id _ z O).1,h.cB id _ z O,G⟩) (fun b j hi=>hs b j (h.sub b j hi)),h.sub,
  fun b j hi=>⟨Nat.lt_of_lt_of_le (h.old b j hi).1 Z.size,(h.old b j hi).2⟩,h.size,h.defers.keep fun r hr=>(Z.block r (Array.getElem?_eq_some_iff.1 hr).1 (fun e=>by cases e;obtain⟨o,hc,hd⟩:=G;rw[hc] at hr;cases hr;cases hd)).trans hr,h.cI,fun i Y hi H=>?_,fun i v hv hi=>h.nm i v hv ?_⟩
 ·rw[yA]
  by_cases e:id=i
  ·subst e;simpa using hx
  ·simp only[e,if_false]
   cases hb:S.blk i with
   | none=>trivial
   | _=>
    rw[←hb];have T:S.blk i≠ .none:=by rw[hb];simp
    exact(h.blks i).mono hs (fun Y H=>Z.block Y (h.blt i Y T H).2 (fun he=>h.dist i id Y (fun e'=>e e'.symm) T z H (by rw[O,he])))
 ·have key:∀i,(S.setBlk id x).blk i≠ .none→S.blk i≠ .none:=by
   intro i hi;rw[yA] at hi;by_cases e:id=i
   ·subst e;exact z
   ·simpa[e] using hi
  exact h.dist i i' Y ac (key i hi) (key i' ab) hb
 ·refine h.cB i Y ?_ H
  rw[yA] at hi;by_cases e:id=i
  ·subst e;exact z
  ·simpa[e] using hi
 ·rw[yA] at hi
  by_cases e:id=i
  ·subst e;exact z
  ·simpa[e] using hi
theorem SatAt.update {E:Env} {S:AState} {a:Act} {w w':World} {I:Im} {ρ:Nat→Value} {C:Nat→Prop} (h:SatAt E S a w I ρ C) {row:Option Nat} (hg:w.grownBy w' row) {id:Nat} {u:Value} {x:Blk}
  (z:∀k,row=some k→S.blk id≠ .none∧blockOf (ρ id)=some k)
  (hs:Same I w w') (hu:∀b,blockOf u=some b→w.heap.size≤b∨(S.blk id≠ .none∧blockOf (ρ id)=some b)) (hx:BlkOk w' I (upd ρ id u) E.mine id x) (hE:row=none∨E.wrB=true) (ao:E.nm id=none):
  SatAt E ((S.kill id).setBlk id x) a w' I (upd ρ id u) C:=by
 have al:E.fr ((S.kill id).setBlk id x).ghost C w':=by
  have am:((S.kill id).setBlk id x).ghost=S.ghost:=by
   unfold AState.ghost;rw[zSW,z0K];exact yGH id _
  rw[am];rcases hE with rfl | hE
  ·exact E.grow _ _ _ _ h.frame ⟨hg.os,hg.tape,hg.output,hg.size,fun k hk=>hg.block k hk (by simp)⟩
  ·exact E.wr hE _ _ _ _ _ h.frame (Chg.of hg) (fun k hk=>⟨(h.blt id k (z k hk).1 (z k hk).2).1,h.cB id k (z k hk).1 (z k hk).2,h.cellBlk (z k hk).1 (z k hk).2⟩) (fun b j hi=>hs b j (h.sub b j hi))
 have blt:∀i b,S.blk i≠ .none→blockOf (ρ i)=some b→b<w.heap.size:=fun i b hi hb=>(h.blt i b hi hb).2;refine⟨fun t=>?_,fun i=>?_,fun i Y b T hi ah hb=>?_,al,h.sub,fun b j hb=>⟨Nat.lt_of_lt_of_le (h.old b j hb).1 hg.size,(h.old b j hb).2⟩,h.size,h.defers.keep fun r hr=>(hg.block r (Array.getElem?_eq_some_iff.1 hr).1 (fun e=>by
  obtain⟨Z,h2⟩:=z r e.symm;obtain⟨o,hc,hd⟩:=h.cellBlk Z h2;rw[hc] at hr;cases hr;cases hd)).trans hr,h.cI,fun i b hi hb=>?_,fun i v hv hi=>?_⟩
 ·rw[zSW,z0K]
  exact(h.tmps t).upd hs (fun _ _ h=>h) id u
 ·rw[yA]
  by_cases e:id=i
  ·subst e;simpa using hx
  ·simp only[e,if_false]
   rw[zH2];cases hb:S.blk i with
   | none=>trivial
   | _=>
    rw[←hb];refine(h.blks i).upd hs (fun b H=>?_) (fun G=>e G.symm) u;have ad:S.blk i≠ .none:=by rw[hb];simp
    refine hg.block b (blt i b ad H) (fun he=>?_);obtain⟨Z,h2⟩:=z b he.symm;exact h.dist i id b (fun G=>e G.symm) ad Z H h2
 ·have key:∀i,((S.kill id).setBlk id x).blk i≠ .none→i≠id→S.blk i≠ .none:=by
   intro i hi hn;rw[yA,if_neg (fun e=>hn e.symm),zH2] at hi;intro e;rw[e] at hi;exact hi rfl
  have O:∀i,i≠id→upd ρ id u i= ρ i:=fun i hn=>by simp[upd,hn]
  have ag:upd ρ id u id=u:=by simp[upd]
  by_cases e:i=id
  ·have G:Y≠id:=fun G=>T (e.trans G.symm)
   subst e;rw[ag] at hb;rw[O Y G];intro H;rcases hu b hb with aj | ⟨Z,h2⟩
   ·have:=blt Y b (key Y ah G) H;omega
   ·exact h.dist i Y b T Z (key Y ah G) h2 H
  ·by_cases G:Y=id
   ·subst G
    rw[O i e] at hb;rw[ag];intro H;rcases hu b H with aj | ⟨Z,h2⟩
    ·have:=blt i b (key i hi e) hb;omega
    ·exact h.dist i Y b T (key i hi e) Z hb h2
   ·rw[O i e] at hb
    rw[O Y G];exact h.dist i Y b T (key i hi e) (key Y ah G) hb
 ·by_cases e:i=id
  ·subst e
   have H:blockOf u=some b:=by simpa[upd] using hb
   rcases hu b H with Z | ⟨Z,h2⟩
   ·intro hc
    have:=E.csize _ _ _ h.frame _ hc;omega
   ·exact h.cB i b Z h2
  ·refine h.cB i b ?_ (by simpa[upd,e] using hb)
   rw[yA,if_neg (fun G=>e G.symm),zH2] at hi;intro G;rw[G] at hi;exact hi rfl
 ·have T:i≠id:=fun e=>by rw[e,ao] at hv;cases hv
  have:upd ρ id u i= ρ i:=by simp[upd,T]
  rw[this];refine h.nm i v hv ?_;rw[yA,if_neg (fun G=>T G.symm),zH2] at hi;intro G;rw[G] at hi;exact hi rfl
end Go.AV
namespace Go.AV
open Go.RowKit
structure OneTy (P:Program) (t:TypeId):Prop where
 agg:∀w,(isAgg t).run P w= .ok false w
 size:∀w,(sizeOf t).run P w= .ok 1 w
structure AggTy (P:Program) (t n:Nat):Prop where
 agg:∀w,(isAgg t).run P w= .ok true w
 size:∀w,(sizeOf t).run P w= .ok n w
structure SlTy (P:Program) (t e size bytes:Nat) (z:Value):Prop where
 und:P.underlying t=some (.slice e)
 info:∃i,P.info? e=some i∧i.zero=some z∧i.size=size∧i.bytes=bytes
 zs:z.cells.size=size
 pos:0<size
 one:∀c∈z.cells.toList,c.oneCell'=true
theorem OneTy.of {P:Program} {t:TypeId} {ds:TypeDesc} (k:P.underlying t=some ds) (z:(match ds with | .struct _ | .array _ _=>true | _=>false)=false) (hi:(P.info? t).map (·.size)=some 1):OneTy P t:=by
 refine⟨fun w=>?_,fun w=>?_⟩
 · cases ds<;>simp_all [isAgg,run_underlying k]
 ·
  cases h:P.info? t with
  | none=>simp[h] at hi
  | some i=>simp[h] at hi;simp[sizeOf,typeInfo,h,hi]
theorem AggTy.of {P:Program} {t n:Nat} {ds:TypeDesc} (k:P.underlying t=some ds) (z:(match ds with | .struct _ | .array _ _=>true | _=>false)=true) (hi:(P.info? t).map (·.size)=some n):AggTy P t n:=by
 refine⟨fun w=>?_,fun w=>?_⟩
 · cases ds<;>simp_all [isAgg,run_underlying k]
 ·
  cases h:P.info? t with
  | none=>simp[h] at hi
  | some i=>simp[h] at hi;simp[sizeOf,typeInfo,h,hi]
theorem SlTy.of {P:Program} {t e size bytes:Nat} {z:Value} (O:P.underlying t=some (.slice e)) (hi:(P.info? e).map (fun i=>(i.zero,i.size,i.bytes))=some (some z,size,bytes))
  (T:z.cells.size=size) (H:0<size) (k:z.cells.toList.all Value.oneCell'=true):SlTy P t e size bytes z:=by
 refine⟨O,?_,T,H,fun c G=>List.all_eq_true.1 k c G⟩;cases h:P.info? e with
 | none=>simp[h] at hi
 | some i=>simp[h] at hi;exact⟨i,rfl,hi.1,hi.2.1,hi.2.2⟩
theorem SlTy.size {P:Program} {t e size bytes:Nat} {z:Value} (h:SlTy P t e size bytes z) (w:World):(sizeOf e).run P w= .ok size w:=by obtain⟨i,hi,_,k,_⟩:=h.info;simp[sizeOf,typeInfo,hi,k]
theorem w9 (b off j:Nat):(⟨b,off,none⟩:Addr).add j=⟨b,off+j,none⟩:=by unfold Addr.add;split<;>simp_all
theorem Rep.sl_inv {w:World} {I:Im} {v:Value} {size:Nat} {cells:List DV} (h:Rep w I v (.sl size cells)):
  ∃A n c xs,v= .slice A n c∧n≤c∧cells.length=n*size∧Reps w I xs cells∧(∀x∈xs,x.oneCell'=true)∧
   (0<n→∃b off,A=some ⟨b,off,none⟩∧∀(j:Nat) x,xs[j]? =some x→w.cell? ⟨b,off+j,none⟩=some x∧I b (off+j)):=by
 cases h with
 | nil A c=>exact⟨A,0,c,[],rfl,by omega,by simp,Pw.nil,by simp,fun h=>absurd h (by omega)⟩
 | sl b off n c size xs cells Y k H T G z O=>exact⟨_,n,c,xs,rfl,by omega,H,⟨T,O⟩,z,fun _=>⟨b,off,rfl,G⟩⟩
theorem zFN {n m size:Nat} {cells:List DV} (h:cells.length=n*size) (k:cells.length=m*size) (z:0<size):n=m:=
 Nat.eq_of_mul_eq_mul_right z (h.symm.trans k)
section
variable {P:Program} {r:Option Nat} {E:Env} {S:AState} {d:Nat} {ty:TypeId} {pos:String} {af:Array Edge} {g:Option (Nat×Bool)}
theorem zSF (w:World) {t e:TypeId} (k:P.underlying t=some (.slice e)) (A:Option Addr) (n c:Nat) (x:Operand) (a:Act) (z:a.eval x= .slice A n c) (o:Oper)
  (h:o.op= .call {callee:= .builtin .len,args:= #[x],argTypes:= #[t]}):(execOp a.eval o).run P w= .ok (.value (.int .i64 n)) w:=by
 unfold execOp;simp only[h,resolve,List.map_toArray,List.map_cons,List.map_nil,z];simp[invoke,builtin,Builtin.len_,run_underlying k,goInt]
theorem z3Y {t e size bytes:Nat} {z:Value} {x:Operand} {cells:List DV} {n:Nat} (T:d<E.n) (G:SlTy P t e size bytes z) (hx:S.ev x= .d (.sl size cells)) (O:cells.length=n*size):
  k4 P r E ⟨some d,.call {callee:= .builtin .len,args:= #[x],argTypes:= #[t]},ty,pos,af,g⟩ S (S.put d (.d (.v (.int .i64 n)))):=
 kR rfl T (by simp) fun A w I ρ C Y=>by
  have h:=Y.ev x;rw[hx] at h;obtain⟨H,n',c,xs,Z,_,k,_⟩:=Rep.sl_inv h;obtain rfl:=zFN k O G.pos;exact zSF w G.und H n' c x A Z _ rfl
theorem zX2 {t e size bytes:Nat} {z:Value} {x:Operand} {id:Nat} {sh:Bool} {cells:List DV} {n:Nat} (hn:d<E.n) (O:SlTy P t e size bytes z) (hx:S.ev x= .row id) (hb:S.blk id= .row e size sh cells) (hl:cells.length=n*size):
  k4 P r E ⟨some d,.call {callee:= .builtin .len,args:= #[x],argTypes:= #[t]},ty,pos,af,g⟩ S (S.put d (.d (.v (.int .i64 n)))):=
 kR rfl hn (by simp) fun A w I ρ C Y=>by
  have h:=Y.ev x;rw[hx] at h;have k:=Y.blks id;rw[hb] at k;obtain⟨h0,n',xs,T,G,_⟩:=k;obtain rfl:=zFN T hl O.pos;have Z:A.eval x= ρ id:=h;rcases G.2 with ⟨H,rfl⟩ | ⟨gb,aa,ab,H,_⟩
  ·exact zSF w O.und _ _ _ x A (Z.trans H) _ rfl
  ·exact zSF w O.und _ _ _ x A (Z.trans H) _ rfl
theorem zX3 {t:TypeId} {x:Operand} {s:ByteArray} (h:d<E.n) (z:P.underlying t=some .string) (G:S.ev x= .d (.v (.string s))):
  k4 P r E ⟨some d,.call {callee:= .builtin .len,args:= #[x],argTypes:= #[t]},ty,pos,af,g⟩ S (S.put d (.d (.v (.int .i64 s.size)))):=
 kR rfl h (by simp) fun Ac w I ρ C k=>by
  simp only[execOp,resolve,List.map_toArray,List.map_cons,List.map_nil,k.val G];simp[invoke,builtin,Builtin.len_,run_underlying z,goInt]
theorem zI0 (w:World) {t e size:Nat} (G:P.underlying t=some (.slice e)) (h:(sizeOf e).run P w= .ok size w) (b off n c:Nat) (H:IntKind) (k:Nat) (z:k<n):
  (Instr.indexAt t (.slice (some ⟨b,off,none⟩) n c) (.int H k)).run P w= .ok (.pointer (some ⟨b,off+k*size,none⟩)) w:=by
 simp[Instr.indexAt,asIntOf,run_underlying G,h,w9,z]
theorem zX4 {t e size bytes:Nat} {z:Value} {x Z:Operand} {cells:List DV} {n k:Nat} {kk:IntKind} {i:Int} (hn:d<E.n) (G:SlTy P t e size bytes z) (hx:S.ev x= .d (.sl size cells))
  (hi:S.ev Z= .d (.v (.int kk i))) (hk:i=(k:Int)) (hl:cells.length=n*size) (T:k<n):
  k4 P r E ⟨some d,.indexAddr t x Z,ty,pos,af,g⟩ S (S.put d (.ip cells (k*size))):=
 zW rfl hn (by simp) fun A w I ρ C Y=>by
  subst hk;have h:=Y.ev x;rw[hx] at h;obtain⟨A',n',c,xs,hv,_,O,hr,h1,hc⟩:=Rep.sl_inv h;obtain rfl:=zFN O hl G.pos;obtain⟨b,off,rfl,H⟩:=hc (by omega);refine⟨_,?_,b,off,xs,rfl,hr,h1,H⟩;simp only[execOp,hv,Y.val hi,Sem.run_bind,zI0 w G.und (G.size w) b off n' c kk k T];rfl
theorem zSY {t e size bytes:Nat} {z:Value} {x ix:Operand} {id:Nat} {sh:Bool} {cells:List DV} {n k:Nat} {kk:IntKind} {i:Int} (hn:d<E.n) (Z:SlTy P t e size bytes z) (hx:S.ev x= .row id)
  (hb:S.blk id= .row e size sh cells) (hi:S.ev ix= .d (.v (.int kk i))) (hk:i=(k:Int)) (hl:cells.length=n*size) (H:k<n):
  k4 P r E ⟨some d,.indexAddr t x ix,ty,pos,af,g⟩ S (S.put d (.ptr id (k*size))):=
 zW rfl hn (by simp) fun A w I ρ C hs=>by
  subst hk;have h:=hs.ev x;rw[hx] at h;have hv:A.eval x= ρ id:=h;have G:=hs.blks id;rw[hb] at G;obtain⟨h0,n',xs,aa,O,_⟩:=G;obtain rfl:=zFN aa hl Z.pos;rcases O.2 with ⟨Y,rfl⟩ | ⟨gb,T,ah,Y,_⟩
  ·exact absurd H (by omega)
  ·refine⟨_,?_,gb,by rw[Y];rfl,rfl⟩
   simp only[execOp,hv,Y,hs.val hi,Sem.run_bind,zI0 w Z.und (Z.size w) gb 0 n' T kk k H];simp
theorem zGR (w:World) {t:TypeId} (h:OneTy P t) (b off:Nat) (v:Value) (k:w.cell? ⟨b,off,none⟩=some v):(Instr.loadAt t (.pointer (some ⟨b,off,none⟩))).run P w= .ok v w:=by simp[Instr.loadAt,Instr.sureAddr,loadVar,h.agg,run_load,k]
theorem zDF (w:World) {t n:Nat} (h:AggTy P t n) (b off:Nat) (vs:List Value) (G:vs.length=n) (k:∀j v,vs[j]? =some v→w.cell? ⟨b,off+j,none⟩=some v):
  (Instr.loadAt t (.pointer (some ⟨b,off,none⟩))).run P w= .ok (.agg vs.toArray) w:=by
 subst G;have:=run_loadCells_list (P:=P) w ⟨b,off,none⟩ vs (fun j v z=>by rw[w9];exact k j v z)
 simp[Instr.loadAt,Instr.sureAddr,loadVar,h.agg,h.size,this]
theorem zX5 {t:TypeId} {x:Operand} {cells:List DV} {off:Nat} {e:DV} (Y:d<E.n) (T:OneTy P t) (hx:S.ev x= .ip cells off) (H:cells[off]? =some e):
  k4 P r E ⟨some d,.load t x,ty,pos,af,g⟩ S (S.put d (.d e)):=
 zW rfl Y (by simp) fun A w I ρ C Z=>by
  have h:=Z.ev x;rw[hx] at h;obtain⟨b,o,xs,hv,O,h1,z⟩:=h;have G:off<xs.length:=by rw[O.1];exact(List.getElem?_eq_some_iff.1 H).1
  have k:=List.getElem?_eq_getElem G;refine⟨xs[off],?_,O.2 off _ e k H⟩;simp only[execOp,hv,Sem.run_bind,zGR w T b (o+off) _ (z off _ k).1];rfl
theorem zVB {t n:Nat} {x:Operand} {cells:List DV} {off:Nat} {es:List DV} (hn:d<E.n) (hT:AggTy P t n) (k:S.ev x= .ip cells off) (Y:(cells.drop off).take n=es) (Z:es.length=n):
  k4 P r E ⟨some d,.load t x,ty,pos,af,g⟩ S (S.put d (.d (.agg es))):=
 zW rfl hn (by simp) fun A w I ρ C hs=>by
  have h:=hs.ev x;rw[k] at h;obtain⟨b,o,xs,hv,hr,h1,O⟩:=h;have z:((xs.drop off).take n).length=n:=by
   have:((cells.drop off).take n).length=n:=by rw[Y];exact Z
   simp only[List.length_take,List.length_drop] at this ⊢;rw[hr.1];exact this
  refine⟨.agg ((xs.drop off).take n).toArray,?_,.agg _ _ (by rw[z,Z]) (fun x k=>h1 x (List.mem_of_mem_drop (List.mem_of_mem_take k))) (fun j x e k H=>?_)⟩
  ·simp only[execOp,hv,Sem.run_bind]
   rw[zDF w hT b (o+off) _ z]
   ·rfl
   ·intro j v G
    rw[List.getElem?_take] at G;split at G
    ·rw[List.getElem?_drop] at G
     rw[Nat.add_assoc];exact(O _ v G).1
    ·cases G
  ·subst Y
   rw[List.getElem?_take] at k H;split at k
   ·rename_i T
    rw[if_pos T] at H;rw[List.getElem?_drop] at k H;exact hr.2 _ x e k H
   ·cases k
theorem zVC {t:TypeId} {x:Operand} {id off eb:Nat} {cells:List AV} {av:AV} (hn:d<E.n) (hT:OneTy P t) (hx:S.ev x= .ptr id off) (hb:S.blk id= .box eb cells) (Y:cells[off]? =some av):
  k4 P r E ⟨some d,.load t x,ty,pos,af,g⟩ S (S.put d av):=
 zW rfl hn (by simp) fun A w I ρ C hs=>by
  have h:=hs.ev x;rw[hx] at h;obtain⟨b,k,hv⟩:=h;have z:=hs.blks id;rw[hb] at z;obtain⟨T,arr,H,hB,hh,h1,Z,hI⟩:=z;rw[H] at k;simp[blockOf] at k;subst k;have G:off<arr.size:=by rw[←Array.length_toList,Z.1];exact(List.getElem?_eq_some_iff.1 Y).1
  have O:arr[off]? =some arr[off]:=Array.getElem?_eq_getElem G;refine⟨arr[off],?_,Z.2 off _ av (by simp[G]) Y⟩;simp only[execOp,hv,Sem.run_bind];rw[zGR w hT T off arr[off] (by rw[cell_of_row w T off arr eb (0,0) hh];exact O)]
  rfl
theorem zP9 {w:World} {I:Im} {ρ:Nat→Value} {M:Nat→Prop} {id e size:Nat} {sh:Bool} {cells:List DV} (h:BlkOk w I ρ M id (.row e size sh cells)) {b:Nat} (hb:blockOf (ρ id)=some b):
  ∃xs,Reps w I xs cells∧(∀x∈xs,x.oneCell'=true)∧∀(j:Nat) x,xs[j]? =some x→w.cell? ⟨b,j,none⟩=some x:=by
 obtain⟨h0,n',xs,Y,k,z,Z,_⟩:=h;refine⟨xs,Z,z,fun j x T=>?_⟩;rcases k.2 with ⟨z,rfl⟩ | ⟨O,G,H,z,_⟩
 ·rw[z] at hb;cases hb
 ·rw[z] at hb
  simp[blockOf] at hb;subst hb;have:=k.cells (g:=O) (by rw[z];rfl) j x T
  rw[w9] at this;simpa using this
theorem zVD {t:TypeId} {x:Operand} {id off e size:Nat} {sh:Bool} {cells:List DV} {y:DV} (hn:d<E.n) (hT:OneTy P t) (hx:S.ev x= .ptr id off) (hb:S.blk id= .row e size sh cells) (T:cells[off]? =some y):
  k4 P r E ⟨some d,.load t x,ty,pos,af,g⟩ S (S.put d (.d y)):=
 zW rfl hn (by simp) fun A w I ρ C Z=>by
  have h:=Z.ev x;rw[hx] at h;obtain⟨b,O,hv⟩:=h;have k:=Z.blks id;rw[hb] at k;obtain⟨xs,Y,h1,G⟩:=zP9 k O;have H:off<xs.length:=by rw[Y.1];exact(List.getElem?_eq_some_iff.1 T).1
  have z:=List.getElem?_eq_getElem H;refine⟨xs[off],?_,Y.2 off _ y z T⟩;simp only[execOp,hv,Sem.run_bind,zGR w hT b off _ (G off _ z)];rfl
theorem zSZ {t n:Nat} {x:Operand} {id off e size:Nat} {sh:Bool} {cells es:List DV} (hn:d<E.n) (hT:AggTy P t n) (k:S.ev x= .ptr id off) (hb:S.blk id= .row e size sh cells)
  (hc:(cells.drop off).take n=es) (hl:es.length=n):
  k4 P r E ⟨some d,.load t x,ty,pos,af,g⟩ S (S.put d (.d (.agg es))):=
 zW rfl hn (by simp) fun A w I ρ C hs=>by
  have h:=hs.ev x;rw[k] at h;obtain⟨b,Z,hv⟩:=h;have G:=hs.blks id;rw[hb] at G;obtain⟨xs,hr,h1,T⟩:=zP9 G Z;have z:((xs.drop off).take n).length=n:=by
   have:((cells.drop off).take n).length=n:=by rw[hc];exact hl
   simp only[List.length_take,List.length_drop] at this ⊢;rw[hr.1];exact this
  refine⟨.agg ((xs.drop off).take n).toArray,?_,.agg _ _ (by rw[z,hl]) (fun x k=>h1 x (List.mem_of_mem_drop (List.mem_of_mem_take k))) (fun j x e k O=>?_)⟩
  ·simp only[execOp,hv,Sem.run_bind]
   rw[zDF w hT b off _ z]
   ·rfl
   ·intro j v H
    rw[List.getElem?_take] at H;split at H
    ·rw[List.getElem?_drop] at H
     exact T _ v H
    ·cases H
  ·subst hc
   rw[List.getElem?_take] at k O;split at k
   ·rename_i Y
    rw[if_pos Y] at O;rw[List.getElem?_drop] at k O;exact hr.2 _ x e k O
   ·cases k
theorem zFO {o:Oper} {S':AState} (z:o.dst=none) (k:∀c,o.op≠ .defer c)
  (h:∀a w I ρ C,SatAt E S a w I ρ C→∃w',(execOp a.eval o).run P w= .ok .skip w'∧Sat E S' a w'):k4 P r E o S S':=by
 rintro a w K Q ⟨I,ρ,C,O⟩ G
 obtain⟨w',H,T⟩:=h a w I ρ C O;refine⟨fun f _=>trivial,?_⟩;rw[Oper.semAt_eq _ _ _ k,H];refine G _ _ ?_;rw[z];exact T
theorem zJU {v:Value} (h:v.oneCell'=true):v.cells= #[v]:=by cases v<;>simp_all [Value.oneCell',Value.cells]
theorem zS0 (w:World) {t:TypeId} (G:OneTy P t) {b off e:Nat} {arr:Array Value} {v:Value} (H:w.heap[b]? =some (.cells arr e (0,0))) (h:off<arr.size) (k:v.oneCell'=true):
  (Instr.storeAt t (.pointer (some ⟨b,off,none⟩)) v).run P w= .ok () (w.setRow b (arr.toList.set off v).toArray):=by
 have:=run_storeCells_at P b off e [v] 0 arr w H (by simp;omega) (by simpa using k)
 have z:arr.toList.take off++ [v]++arr.toList.drop (off+1)=arr.toList.set off v:=by
  rw[List.set_eq_take_append_cons_drop,if_pos (by simpa using h)];simp
 simp only[Nat.add_zero,List.length_singleton,z] at this;simp[Instr.storeAt,Instr.sureAddr,storeVar,G.size,zJU k,this]
theorem zS1 (w:World) {t n:Nat} (z:AggTy P t n) {b off e:Nat} {arr:Array Value} {vs:List Value} (G:w.heap[b]? =some (.cells arr e (0,0))) (h:off+n≤arr.size) (H:vs.length=n) (k:∀v∈vs,v.oneCell'=true):
  (Instr.storeAt t (.pointer (some ⟨b,off,none⟩)) (.agg vs.toArray)).run P w= .ok () (w.setRow b (arr.toList.take off++vs++arr.toList.drop (off+n)).toArray):=by
 subst H;have:=run_storeCells_at P b off e vs 0 arr w G (by simpa using h) k;simp only[Nat.add_zero] at this;simp only[Instr.storeAt,Instr.sureAddr,storeVar,Sem.run_bind,Sem.run_pure,Result.andThen_ok,z.size,Value.cells];simp[this]
theorem zAC (w:World) (b:Nat) (arr:Array Value):w.grownBy (w.setRow b arr) (some b):=
 ⟨rfl,rfl,rfl,by simp,fun k _ h=>setRow_other w b k arr (fun e=>h (by rw[e]))⟩
theorem xB {w:World} {I:Im} {b:Nat} {arr:Array Value} (h:∀j,¬I b j):Same I w (w.setRow b arr):=by intro k j hi;have:k≠b:=fun e=>h j (e▸hi);exact KeepB.of (setRow_other w b k arr this)
def AV.one:AV→Bool
 | .d (.v u)=>u.oneCell'
 | .d (.sl _ _)=>true
 | .d (.pt _)=>true
 | .d (.fn _ _)=>true
 | .d (.mp _ _)=>true
 | .row _=>true
 | .ptr _ _=>true
 | .clo _ _=>true
 | _=>false
theorem zS2 {w:World} {I:Im} {ρ:Nat→Value} {M:Nat→Prop} {S:AState} (hb:∀id,BlkOk w I ρ M id (S.blk id)) {v:Value} {av:AV} (h:Holds w I ρ v av) (Z:av.one=true)
  (hr:∀id,av= .row id→S.blk id≠ .none):v.oneCell'=true:=by
 cases av with
 | d x=>
  cases x with
  | v u=>cases h;simpa[AV.one] using Z
  | sl s c=>obtain⟨A,n,c,xs,rfl,_⟩:=Rep.sl_inv h;rfl
  | agg c=>simp[AV.one] at Z
  | pt c=>cases h;rfl
  | fn f c=>cases h;rfl
  | mp ks vs=>cases h;rfl
 | row id=>
  have H:v= ρ id:=h;have z:=hb id;cases T:S.blk id with
  | none=>exact absurd T (hr id rfl)
  | row e size sh cells=>
   rw[T] at z;obtain⟨_,n,xs,hl,O,_⟩:=z;rcases O.2 with ⟨G,_⟩ | ⟨g,ad,ag,G,_⟩<;>rw[H,G]<;>rfl
  | box e cells=>
   rw[T] at z;obtain⟨b',arr,G,_⟩:=z;rw[H,G];rfl
  | map es=>
   rw[T] at z;obtain⟨b',ab,Y,G,_⟩:=z;rw[H,G];rfl
  | win e size k cells=>
   rw[T] at z;obtain⟨A,n,c,xs,G,_⟩:=z;rw[H,G];rfl
 | ptr id off=>obtain⟨b,_,H⟩:=h;rw[H];rfl
 | clo f aa=>obtain⟨xs,H,_⟩:=h;rw[H];rfl
 | _=>simp[AV.one] at Z
def zV5 (S:AState):AV→Bool
 | .row id=>match S.blk id with | .none=>false | _=>true
 | _=>true
theorem zS3 {S:AState} {av:AV} (h:zV5 S av=true):∀id,av= .row id→S.blk id≠ .none:=by
 rintro id rfl e
 simp[zV5,e] at h
theorem zH3 {t:TypeId} {x y:Operand} {id off eb:Nat} {cells:List AV} (hT:OneTy P t) (hx:S.ev x= .ptr id off) (hb:S.blk id= .box eb cells) (ad:off<cells.length)
  (h1:(S.ev y).one=true) (hr:zV5 S (S.ev y)=true) (hE:E.wrB=true):
  k4 P r E ⟨none,.store t x y,ty,pos,af,g⟩ S (S.setBlk id (.box eb (cells.set off (S.ev y)))):=
 zFO rfl (by simp) fun A w I ρ C Z=>by
  have h:=Z.ev x;rw[hx] at h;obtain⟨b,G,hv⟩:=h;have O:=Z.blks id;rw[hb] at O;obtain⟨H,arr,z,hB,hh,ab,Y,hI⟩:=O;have ac:H=b:=by rw[z] at G;simpa[blockOf] using G
  subst ac;have hy:=Z.ev y;have k:=zS2 Z.blks hy h1 (zS3 hr);have T:off<arr.size:=by rw[←Array.length_toList,Y.1];exact ad
  refine⟨w.setRow H (arr.toList.set off (A.eval y)).toArray,?_,I,ρ,C,Z.modify (zAC w H _) (by rw[hb];simp) G (xB hI) ⟨H,_,z,hB,setRow_heap w H arr _ eb _ hh,?_,?_,hI⟩ hE⟩
  ·simp only[execOp,hv,Sem.run_bind,zS0 w hT hh T k]
   rfl
  ·intro u hu
   simp only at hu;rcases List.mem_or_eq_of_mem_set hu with hu | hu
   ·exact ab u hu
   ·rw[hu];exact k
  ·exact(Y.imp fun _ _ h=>h.mono (xB hI) (fun _ _ h=>h)).set (hy.mono (xB hI) (fun _ _ h=>h)) off
theorem zS4 {t:TypeId} {x y:Operand} {id off e size:Nat} {cells:List DV} {u:DV} (hT:OneTy P t) (hx:S.ev x= .ptr id off) (hb:S.blk id= .row e size false cells) (ad:off<cells.length)
  (hy:S.ev y= .d u) (h1:(AV.d u).one=true) (hE:E.wrB=true):
  k4 P r E ⟨none,.store t x y,ty,pos,af,g⟩ S (S.setBlk id (.row e size false (cells.set off u))):=
 zFO rfl (by simp) fun A w I ρ C hs=>by
  have h:=hs.ev x;rw[hx] at h;obtain⟨b,k,hv⟩:=h;have ab:=hs.blks id;rw[hb] at ab;obtain⟨h0,n,xs,hl,H,ak,an,hI⟩:=ab;have Z:=hs.ev y;rw[hy] at Z;have G:=zS2 hs.blks Z h1 (by intro _ e;cases e)
  rcases H.2 with ⟨hn,_⟩ | ⟨T,aj,O,hn,hB,hh,ah,am,ac,ao⟩
  ·rw[hn] at k;cases k
  ·have al:T=b:=by rw[hn] at k;simpa[blockOf] using k
   subst al;have z:∀j,¬I T j:=fun j hj=>by have:=(hI T j (by rw[hn];rfl) hj).1;cases this
   have aq:xs.length=n*size:=H.1;have ag:off<O.size:=by rw[ac];rw[hl] at ad;exact Nat.lt_of_lt_of_le ad (Nat.mul_le_mul_right _ ah)
   refine⟨w.setRow T (O.toList.set off (A.eval y)).toArray,?_,I,ρ,C,hs.modify (zAC w T _) (by rw[hb];simp) k (xB z) ⟨h0,n,xs.set off (A.eval y),by simp[hl],⟨by simp[aq],.inr ⟨T,aj,_,hn,hB,setRow_heap w T O _ e _ hh,ah,am,?_,?_⟩⟩,?_,?_,?_⟩ hE⟩
   ·simp only[execOp,hv,Sem.run_bind,zS0 w hT hh ag G]
    rfl
   ·simp[ac]
   ·simp only[List.take_set,ao]
   ·intro v ap
    rcases List.mem_or_eq_of_mem_set ap with hu | hu
    ·exact ak v hu
    ·rw[hu];exact G
   ·exact(an.imp fun _ _ h=>h.mono (xB z) (fun _ _ h=>h)).set (Rep.mono Z (xB z) (fun _ _ h=>h)) off
   ·intro g' j Y hi
    rw[hn] at Y;simp[Value.ownBlock] at Y;subst Y;exact absurd hi (z j)
theorem zS5 (w:World) (o:Obj) {b:Nat} (h:b<w.heap.size):(w.alloc o).heap[b]? =w.heap[b]?:=(World.grownBy_alloc w o none).block b h (by simp)
theorem zH4 (w:World) (o:Obj):w.grownBy (w.alloc o) none:=World.grownBy_alloc w o none
theorem zEQ {w:World} {I:Im} (o:Obj) (h:∀b j,I b j→b<w.heap.size):Same I w (w.alloc o):=fun b j hi=>KeepB.of (zS5 w o (h b j hi))
theorem SatAt.newRow {A:Act} {w:World} {I:Im} {ρ:Nat→Value} {C:Nat→Prop} (Y:SatAt E S A w I ρ C) {id e size n c:Nat} {xs rest:List Value} {cells:List DV} (hp:0<size) (Z:cells.length=n*size) (hc:n≤c) (H:c≤maxLen)
  (hr:rest.length=(c-n)*size) (z:Reps w I xs cells) (h1:∀x∈xs,x.oneCell'=true) (T:E.nm id=none):
  SatAt E ((S.kill id).setBlk id (.row e size false cells)) A (w.alloc (.cells (xs++rest).toArray e)) I (upd ρ id (.slice (some ⟨w.heap.size,0,none⟩) n c)) C:=by
 have G:∀b j,I b j→b<w.heap.size:=fun b j h=>(Y.old b j h).1;have k:xs.length=n*size:=by rw[z.1,Z]
 refine Y.update (zH4 w _) (by simp) (zEQ _ G) (fun b hb=> .inl (by simp[blockOf] at hb;omega)) ⟨⟨hp,fun g hg=>E.mineB g (by simp[upd,Value.ownBlock] at hg;have:=E.size _ _ _ Y.frame;omega)⟩,n,xs,Z,?_,h1,z.mono (zEQ _ G) (fun _ _ h=>h),?_⟩ (.inl rfl) T
 ·have eu:upd ρ id (.slice (some ⟨w.heap.size,0,none⟩) n c) id= .slice (some ⟨w.heap.size,0,none⟩) n c:=by simp[upd]
  rw[eu];refine⟨k,.inr ⟨w.heap.size,c,_,rfl,Nat.zero_le _,heap_alloc_new w _,hc,H,?_,?_⟩⟩
  ·simp only[List.size_toArray,List.length_append,k,hr,←Nat.add_mul]
   congr 1;omega
  ·rw[←k]
   exact List.take_left
 ·intro g' j O hi
  simp[upd,Value.ownBlock] at O;have:=G g' j hi;omega
theorem SatAt.newBox {A:Act} {w:World} {I:Im} {ρ:Nat→Value} {C:Nat→Prop} (Y:SatAt E S A w I ρ C) {id e:Nat} {arr:Array Value} {cells:List AV} (z:Pw (Holds w I ρ) arr.toList cells) (Z:∀x∈arr.toList,x.oneCell'=true) (T:E.nm id=none):
  SatAt E ((S.kill id).setBlk id (.box e (cells.map (zEP id)))) A (w.alloc (.cells arr e)) I (upd ρ id (.pointer (some ⟨w.heap.size,0,none⟩))) C:=by
 have H:∀b j,I b j→b<w.heap.size:=fun b j h=>(Y.old b j h).1;refine Y.update (zH4 w _) (by simp) (zEQ _ H) (fun b hb=> .inl (by simp[blockOf] at hb;omega)) ⟨w.heap.size,arr,by simp[upd],E.mineB _ (E.size _ _ _ Y.frame),heap_alloc_new w _,Z,⟨by simpa using z.1,fun j x av hx k=>?_⟩,fun j hj=>by have:=H _ j hj;omega⟩ (.inl rfl) T
 rw[List.getElem?_map] at k;cases O:cells[j]? with
 | none=>simp[O] at k
 | some G=>
  simp[O] at k;subst k;exact(z.2 j x G hx O).upd (zEQ _ H) (fun _ _ h=>h) id _
def dvs (vs:List Value):List AV:=vs.map fun v=> .d (.v v)
theorem z8L (w:World) (I:Im) (ρ:Nat→Value) (vs:List Value):Pw (Holds w I ρ) vs (dvs vs):=by refine⟨by simp[dvs],fun j x y k h=>?_⟩;simp[dvs,k] at h;subst h;exact .v x
theorem yBN (id:Nat) (vs:List Value):(dvs vs).map (zEP id)=dvs vs:=by simp[dvs,zEP,AV.mentions]
theorem yE {h:TypeId} {zs:List Value} (T:d<E.n) (G:((P.info? h).bind (·.zero)).map (·.cells.toList)=some zs) (O:zs.all Value.oneCell'=true) (H:E.nm d=none):
    k4 P r E ⟨some d,.alloc h,ty,pos,af,g⟩ S (((S.kill d).setBlk d (.box h (dvs zs))).put d (.ptr d 0)):=
  wM (by simp) fun A w I ρ C Y=>by
    cases hi:P.info? h with
    | none=>simp[hi] at G
    | some i=>
      cases k:i.zero with
      | none=>simp[hi,k] at G
      | some z=>
        simp[hi,k] at G;have hb:=Y.newBox (id:=d) (e:=h) (arr:=z.cells) (cells:=dvs zs) (by rw[G];exact z8L _ _ _ _) (by rw[G];exact fun x Z=>List.all_eq_true.1 O x Z) H
        rw[yBN] at hb;refine⟨.pointer (some ⟨w.heap.size,0,none⟩),w.alloc (.cells z.cells h),?_,I,_,C,hb.put T ⟨w.heap.size,by simp[upd,blockOf],rfl⟩⟩;simp[execOp,Instr.alloc,zeroValue,typeInfo,hi,k,newVar,newRow]
end
end Go.AV
namespace Go.AV
open Go.RowKit
def AState.dv (S:AState):AV→Option DV
 | .d x=>some x
 | .row id=>match S.blk id with
  | .row _ size _ cells=>some (.sl size cells)
  | _=>none
 | _=>none
def AState.shareAV (S:AState):AV→AState
 | .row id=>match S.blk id with
  | .row e size _ cells=>S.setBlk id (.row e size true cells)
  | _=>S
 | _=>S
theorem zVE {w:World} {B e size n:Nat} {v:Value} {xs:List Value} (h:w.ownsRow B e size v n xs) {b:Nat} (hb:v.ownBlock=some b):∃arr G H,w.heap[b]? =some (.cells arr G H):=by rcases h.2 with ⟨T,_⟩ | ⟨g,k,z,Y,Z,O,_⟩;rw[T] at hb;simp[Value.ownBlock] at hb;rw[Y] at hb;simp[Value.ownBlock] at hb;subst hb;exact⟨_,_,_,O⟩
theorem kV (I:Im) (w:World):Same I w w:=fun _ _ _=>KeepB.refl
theorem SatAt.shareRow {E:Env} {S:AState} {a:Act} {w:World} {I:Im} {ρ:Nat→Value} {C:Nat→Prop} (h:SatAt E S a w I ρ C) {id e size:Nat} {sh:Bool} {cells:List DV} (hb:S.blk id= .row e size sh cells):
  ∃Y:Im,(∀b j,I b j→Y b j)∧SatAt E (S.setBlk id (.row e size true cells)) a w Y ρ C∧Rep w Y (ρ id) (.sl size cells):=by
 have hk:=h.blks id;rw[hb] at hk;obtain⟨hp,n,xs,Z,H,h1,O,hI⟩:=hk;have z:S.blk id≠ .none:=by rw[hb];simp
 let Y:Im:=fun b j=>I b j∨((ρ id).ownBlock=some b∧j<cells.length)
 have k:∀b j,I b j→Y b j:=fun b j hi=> .inl hi;refine⟨Y,k,⟨fun t=>(h.tmps t).mono (kV I w) k,fun i=>?_,fun i i' b T hi ad=>?_,h.frame,fun b j hi=>k b j (h.sub b j hi),fun b j hi=>?_,h.size,h.defers,fun b j hi=>?_,fun i b hi ab=>?_,fun i v hv hi=>h.nm i v hv ?_⟩,?_⟩
 ·rw[yA]
  by_cases G:id=i
  ·subst G
   simp only[if_true];refine⟨hp,n,xs,Z,H,h1,O.mono (kV I w) k,fun g j hg hi=>⟨rfl,?_⟩⟩;rcases hi with hi | ⟨_,hi⟩
   ·exact(hI g j hg hi).2
   ·exact hi
  ·simp only[G,if_false]
   refine(h.blks i).widenI k fun b j hx ac hi=>?_;rcases hi with hi | ⟨hi,_⟩
   ·exact hi
   ·exact absurd ac (h.dist id i b G z hx (zA1 hi))
 ·have key:∀i,(S.setBlk id (.row e size true cells)).blk i≠ .none→S.blk i≠ .none:=by
   intro i hi;rw[yA] at hi;by_cases G:id=i
   ·subst G;exact z
   ·simpa[G] using hi
  exact h.dist i i' b T (key i hi) (key i' ad)
 ·rcases hi with hi | ⟨hi,_⟩
  ·exact h.old b j hi
  ·have:=h.blt id b z (zA1 hi)
   exact⟨this.2,.inr this.1⟩
 ·rcases hi with hi | ⟨hi,_⟩
  ·exact h.cI b j hi
  ·exact h.cB id b z (zA1 hi)
 ·refine h.cB i b ?_ ab
  rw[yA] at hi;by_cases G:id=i
  ·subst G;exact z
  ·simpa[G] using hi
 ·rw[yA] at hi
  by_cases G:id=i
  ·subst G;exact z
  ·simpa[G] using hi
 ·rcases H.2 with ⟨T,rfl⟩ | ⟨gb,aa,am,T,hB,hh,ag,ap,aq,aw⟩
  ·have:cells= []:=List.eq_nil_of_length_eq_zero (by simpa using Z)
   subst this;rw[T];exact .nil _ _ _
  ·rw[T]
   by_cases h0:n=0
   ·subst h0
    have:cells= []:=List.eq_nil_of_length_eq_zero (by simpa using Z);subst this;exact .nil _ _ _
   ·refine .sl gb 0 n aa size xs cells (by omega) ag Z O.1 (fun j x hj=>⟨?_,.inr ⟨by rw[T];rfl,?_⟩⟩) h1 (O.mono (kV I w) k).2
    ·have:=H.cells (g:=gb) (by rw[T];rfl) j x hj
     rw[w9] at this;exact this
    ·rw[←O.1,Nat.zero_add]
     exact(List.getElem?_eq_some_iff.1 hj).1
theorem SatAt.dv {E:Env} {S:AState} {a:Act} {w:World} {I:Im} {ρ:Nat→Value} {C:Nat→Prop} (h:SatAt E S a w I ρ C) {v:Value} {x:AV} {y:DV} (T:Holds w I ρ v x) (G:S.dv x=some y):
  ∃H:Im,(∀b j,I b j→H b j)∧SatAt E (S.shareAV x) a w H ρ C∧Rep w H v y:=by
 cases x with
 | d z=>simp[AState.dv] at G;subst G;exact⟨I,fun _ _ h=>h,h,T⟩
 | row id=>
  simp only[AState.dv] at G;cases hb:S.blk id with
  | row e size sh cells=>
   rw[hb] at G;simp at G;subst G;obtain⟨H,Y,Z,h3⟩:=h.shareRow hb;have O:v= ρ id:=T;refine⟨H,Y,?_,by rw[O];exact h3⟩
   simp only[AState.shareAV,hb];exact Z
  | none=>rw[hb] at G;simp at G
  | box e c=>rw[hb] at G;simp at G
  | map es=>rw[hb] at G;simp at G
  | win e s k c=>rw[hb] at G;simp at G
 | _=>simp[AState.dv] at G
theorem zS6 (S:AState) (x y:AV):(S.shareAV x).dv y=S.dv y:=by
 unfold AState.shareAV;split;rename_i id;split;rename_i e size sh cells hb;cases y with
 | row i=>
  simp only[AState.dv,yA];by_cases h:id=i;subst h;simp[hb];simp[h]
 | _=>rfl
 rfl;rfl
def AState.dvL (S:AState):List AV→Option (List DV)
 | []=>some []
 | x::r=>match S.dv x,S.dvL r with
  | some y,some ys=>some (y::ys)
  | _,_=>none
def AState.shareL (S:AState):List AV→AState
 | []=>S
 | x::r=>(S.shareAV x).shareL r
theorem zV6 (S:AState) (x:AV) (l:List AV):(S.shareAV x).dvL l=S.dvL l:=by
 induction l with
 | nil=>rfl
 | cons y l h=>simp only[AState.dvL,zS6,h]
theorem SatAt.dvL {E:Env} {a:Act} {w:World} {ρ:Nat→Value} {C:Nat→Prop} (l:List AV):∀{S:AState} {I:Im} (_:SatAt E S a w I ρ C) {vs:List Value} {ds:List DV} (_:Pw (Holds w I ρ) vs l) (_:S.dvL l=some ds),
  ∃O:Im,(∀b j,I b j→O b j)∧SatAt E (S.shareL l) a w O ρ C∧Reps w O vs ds:=by
 induction l with
 | nil=>
  intro S I h vs ds G k;simp[AState.dvL] at k;subst k;have:vs= []:=List.eq_nil_of_length_eq_zero G.1;subst this;exact⟨I,fun _ _ h=>h,h,Pw.nil⟩
 | cons x l ih=>
  intro S I h vs ds G k;cases vs with
  | nil=>have:=G.1;simp at this
  | cons v vs=>
   simp only[AState.dvL] at k;cases H:S.dv x with
   | none=>simp[H] at k
   | some y=>
    cases T:S.dvL l with
    | none=>simp[H,T] at k
    | some ys=>
     simp[H,T] at k;subst k;obtain⟨Z,h1,h2,h3⟩:=h.dv (G.2 0 v x rfl rfl) H;have Y:Pw (Holds w Z ρ) vs l:=⟨by have:=G.1;simpa using this,fun j u z hu hz=>(G.2 (j+1) u z (by simpa using hu) (by simpa using hz)).mono (kV I w) h1⟩
     obtain⟨I2,h4,h5,h6⟩:=ih h2 Y (by rw[zV6];exact T)
     exact⟨I2,fun b j hi=>h4 b j (h1 b j hi),h5,Pw.cons (h3.mono (kV Z w) h4) h6⟩
def z0L (w:World) (I:Im) (v:Value):List DV→Prop
 | [y]=>Rep w I v y
 | ys=> ∃xs,v= .tuple xs.toArray∧Reps w I xs ys
def gdNames:List (String×List Value):=[("unicodetext/ordering.hangulRanges",[.int .i64 4352,.int .i64 4370,.int .i64 4449,.int .i64 4469,.int .i64 4520,.int .i64 4546,.int .i64 44032,.int .i64 55203])]
def zBO (P:Program) (g:Nat):Option (List Value):=(gdNames.find? fun p=>P.globalNamed p.1==some g).map Prod.snd
def zE (P:Program) (f:FuncId) (ds z:List DV):Prop:=
 (∃k,P.funcs[f]? =some k∧(k.name== "runtime.NumGoroutine")=false∧k.body.isNone=false)∧
 ∀(w:World) (I:Im) (vs:List Value),(∀b j,I b j→b<w.heap.size)→GlI (zBO P) w I→Reps w I vs ds→
  Calls P f vs.toArray w fun e w'=> ∃v h,e= .returned v∧Below w.heap.size w w'∧(∀b j,I b j→h b j)∧(∀b j,h b j→b<w'.heap.size∧(I b j∨w.heap.size≤b))∧z0L w' h v z
def zV7:List DV→AV
 | [y]=> .d y
 | ys=> .tup ys
theorem zLU {w:World} {I:Im} {ρ:Nat→Value} {v:Value}:∀{k:List DV},z0L w I v k→Holds w I ρ v (zV7 k)
 | [],h=>h
 | [_],h=>h
 | _::_::_,h=>h
section
variable {P:Program} {r:Option Nat} {E:Env} {S:AState} {d:Nat} {ty:TypeId} {pos:String} {af:Array Edge} {g:Option (Nat×Bool)}
theorem SatAt.widen {a:Act} {w:World} {I G:Im} {ρ:Nat→Value} {C:Nat→Prop} {B:Nat} (h:SatAt E S a w I ρ C) (z:∀b j,I b j→G b j) (k:∀b j,G b j→b<w.heap.size∧(I b j∨B≤b))
  (O:∀i b,S.blk i≠ .none→blockOf (ρ i)=some b→b<B) (Y:E.B≤B) (T:∀b,C b→b<B):SatAt E S a w G ρ C:=by
 refine⟨fun t=>(h.tmps t).mono (kV I w) z,fun i=>?_,h.dist,h.frame,fun b j hi=>z b j (h.sub b j hi),fun b j hi=>⟨(k b j hi).1,?_⟩,h.size,h.defers,fun b j hi=>?_,h.cB,h.nm⟩
 ·refine(h.blks i).widenI z fun b j hx H hi=>?_
  rcases (k b j hi).2 with hi | hi
  ·exact hi
  ·have:=O i b hx H;omega
 ·rcases (k b j hi).2 with hi | hi
  ·exact(h.old b j hi).2
  ·exact .inr (E.mineB b (by omega))
 ·rcases (k b j hi).2 with hi | hi
  ·exact h.cI b j hi
  ·intro Z;have:=T b Z;omega
theorem zBC {A:Act} {w:World} {I:Im} {ρ:Nat→Value} {C:Nat→Prop} (h:SatAt E S A w I ρ C) (xs:List Operand):Pw (Holds w I ρ) (xs.map A.eval) (xs.map S.ev):=by
 induction xs with
 | nil=>exact Pw.nil
 | cons x xs k=>exact Pw.cons (h.ev x) k
theorem zV8 {f:FuncId} {xs:List Operand} {ats:Array TypeId} {ds rs:List DV} (hn:d<E.n) (ac:S.dvL (xs.map S.ev)=some ds) (hc:zE P f ds rs) (hG:E.gdt=zBO P:=by rfl):
  k4 P r E ⟨some d,.call {callee:= .value (.func f),args:=xs.toArray,argTypes:=ats},ty,pos,af,g⟩ S ((S.shareL (xs.map S.ev)).put d (zV7 rs)):=by
 rintro A w K Q ⟨I,ρ,C,hs⟩ hk
 obtain⟨⟨fn,hf,z,h⟩,k⟩:=hc;obtain⟨I1,h1,G,h3⟩:=SatAt.dvL _ hs (zBC hs xs) ac;have ab:=k w I1 (xs.map A.eval) (fun b j hi=>(G.old b j hi).1) (hG▸G.gl) h3;refine⟨fun f _=>trivial,?_⟩;rw[Oper.semAt_eq _ _ _ (by simp)];have T:(execOp A.eval ⟨some d,.call {callee:= .value (.func f),args:=xs.toArray,argTypes:=ats},ty,pos,af,g⟩).run P w= .ok (.enter f (xs.map A.eval).toArray) w:=by
  simp only[execOp,resolve,Act.eval,Deferred.ofValue];have ad:¬fn.name= "runtime.NumGoroutine" :=by simpa using z
  have ag:¬fn.body=none:=by intro e;simp[e] at h
  simp[invoke,callFunc,hf,ad,ag,List.map_toArray]
 rw[T];refine⟨by simp[fen,Fence.wide],?_⟩;show CallsIn Fence.wide 0 P f _ w _;refine callsIn_wide.2 (ab.mono ?_)
 rintro e w' ⟨v,I',rfl,hb,Y,H,O⟩
 refine hk _ _ ⟨I',ρ,C,SatAt.put ?_ hn (zLU O)⟩;have h4:=G.grow hb;exact h4.widen Y H (fun i b hi Z=>(G.blt i b hi Z).2) (E.size _ _ _ G.frame) (fun b hc=>E.csize _ _ _ G.frame b hc)
end
end Go.AV
namespace Go.AV
open Go.RowKit
def yKZ (E:Env) (K:Exit→AState→Prop):Exit→Act→World→Prop:=fun e a w=> ∃S,K e S∧Sat E S a w
def Avc (P:Program) (r:Option Nat) (E:Env) (c:Code) (K:Exit→AState→Prop) (S:AState):Prop:=
 ∀a w,Sat E S a w→c.wpIn (fen r) 0 P (yKZ E K) a w
def zE3 (E:Env) (S S':AState):Prop:= ∀a w,Sat E S a w→Sat E S' a w
def yBO (J:AState→Prop) (K:Exit→AState→Prop):Exit→AState→Prop
 | .normal,S=>J S
 | e,S=>K e S
def yBP (id:Nat) (K:Exit→AState→Prop):Exit→AState→Prop
 | .exit i,S=>if Nat.beq i id then K .normal S else K (.exit i) S
 | e,S=>K e S
def gd (h b:Bool):Bool:=match h with
 | true=>b
 | false=>!b
section
variable {P:Program} {r:Option Nat} {E:Env} {S S':AState} {K:Exit→AState→Prop} {J:AState→Prop} {ops:Array Oper} {rest:List Oper} {o:Oper} {d:Nat}
theorem SatAt.yield {a:Act} {w:World} {I:Im} {ρ:Nat→Value} {C:Nat→Prop} (z:SatAt E S a w I ρ C) {j t:Nat} {b:Bool} (G:(ops[j]?).bind (·.dst)=some t) (O:S.get t= .d (.v (.bool b))) (H:t<E.n):
    yielded ops a.tmps j=some b:=by
  have h:=z.tmps t;rw[O] at h;have k:t<a.tmps.size:=by rw[z.size];exact H
  have e:a.tmps.getD t undef=a.tmps[t]:=by simp[Array.getD_eq_getD_getElem?,k]
  rw[e] at h;generalize T:a.tmps[t]=v at h;cases h;simp[yielded,G,k,T]
theorem SatAt.yield2 {a:Act} {w:World} {I:Im} {ρ:Nat→Value} {C:Nat→Prop} (G:SatAt E S a w I ρ C) {j t:Nat} {b c:Bool} (z:(ops[j]?).bind (·.dst)=some t) (T:S.get t= .cond c (.d (.v (.bool b)))) (O:t<E.n):
    yielded ops a.tmps j=if c then some b else none:=by
  have h:=G.tmps t;rw[T] at h;have k:t<a.tmps.size:=by rw[G.size];exact O
  have e:a.tmps.getD t undef=a.tmps[t]:=by simp[Array.getD_eq_getD_getElem?,k]
  rw[e] at h;generalize H:a.tmps[t]=v at h;cases c with
  | true=>
    have h:=h.1 rfl;cases h;simp[yielded,z,k,H]
  | false=>
    have h:=h.2 rfl;subst h;simp[yielded,z,k,H,undef]
theorem z0M {c:Code} {z:Exit→AState→Prop} (h:Avc P r E c K S) (H:∀e S,K e S→z e S):Avc P r E c z S:=fun a w O=>
 wpIn_mono (h a w O) fun e _ _ ⟨S',G,k⟩=>⟨S',H e S' G,k⟩
theorem zL {c:Code} (z:zE3 E S S') (h:Avc P r E c K S'):Avc P r E c K S:=fun a w k=>h a w (z a w k)
theorem yGI {x y:Code} (h:∀J:AState→Prop,(∀S,Avc P r E y K S→J S)→Avc P r E x (yBO J K) S):Avc P r E (.seq x y) K S:=fun a w H=>
 wpIn_seq (wpIn_mono (h _ (fun _ h=>h) a w H) fun e G w' ⟨S',z,k⟩=>by
  cases e with
  | normal=>exact z G w' k
  | _=>exact⟨S',z,k⟩)
theorem yBQ {c:Operand} {x y:Code} {b:Bool} (k:S.ev c= .d (.v (.bool b))) (H:b=true→Avc P r E x K S) (z:b=false→Avc P r E y K S):Avc P r E (.cond c x y) K S:=fun a w G=>by obtain⟨I,ρ,C,h⟩:=G;exact wpIn_cond_split (h.val k) (fun hb=>H hb a w ⟨I,ρ,C,h⟩) (fun hb=>z hb a w ⟨I,ρ,C,h⟩)
theorem z4 {id:Nat} {c:Code} (h:Avc P r E c (yBP id K) S):Avc P r E (.block id c) K S:=fun a w G=>
 wpIn_block (wpIn_mono (h a w G) fun e H w' ⟨S',z,k⟩=>by
  cases e with
  | exit i=>
   simp only[yBP,Nat.beq_eq] at z;simp only[Exit.inBlock];by_cases e:i=id;simp only[e,if_true] at z ⊢;exact⟨S',z,k⟩;simp only[e,if_false] at z ⊢;exact⟨S',z,k⟩
  | _=>exact⟨S',z,k⟩)
theorem zD {id:Nat} (h:K (.exit id) S):Avc P r E (.exit id) K S:=fun _ _ k=>wpIn_exit ⟨S,h,k⟩
theorem zQ (h:K .ret S):Avc P r E .ret K S:=fun _ _ k=>wpIn_ret ⟨S,h,k⟩
theorem zI (h:K .normal S):Avc P r E .skip K S:=fun _ _ k=>wpIn_skip ⟨S,h,k⟩
theorem z0N {c:Code} {ι:Type} (T: ι→AState) (k: ι→Prop) (H: ι→Nat) (G: ι) (h0:k G) (hS:zE3 E S (T G))
  (round:∀i,k i→Avc P r E c (yBO (fun S'=> ∃j,k j∧H j<H i∧zE3 E S' (T j)) K) (T i)):Avc P r E (.loop c) K S:=by
 intro a w O;have key:∀n i a w,k i→H i<n→Sat E (T i) a w→Code.roundsIn (fen r) 0 P c (yKZ E K) n a w:=by
  intro n
  induction n with
  | zero=>intro i a w _ h;omega
  | succ n ih=>
   intro i a w hp hn O;rw[roundsIn_succ];exact wpIn_mono (round i hp a w O) fun e Y w' ⟨S',Z,z⟩=>by
    cases e with
    | normal=>obtain⟨j,hj,ad,hw⟩:=Z;exact ih j Y w' hj (by omega) (hw Y w' z)
    | _=>exact⟨S',Z,z⟩
 exact wpIn_loop_rounds _ (key (H G+1) G a w h0 (by omega) (hS a w O))
theorem yGJ (Z:∀p∈S'.tmps,S.get p.1=p.2∨p.2= .top) (hb:∀p∈S'.blks,S.blk p.1=p.2) (O:∀C w,E.fr S.ghost C w→E.fr S'.ghost C w):zE3 E S S':=by
 have z:∀t,S'.get t= .top∨S.get t=S'.get t:=by
  intro t;unfold AState.get;generalize T:S'.tmps=l at Z;clear T
  induction l with
  | nil=>exact .inl rfl
  | cons p l ih=>
   obtain⟨i,x⟩:=p;rw[kU];by_cases e:i=t;simp only[e,if_true];have:=Z (i,x) (by simp);simp only[e] at this;exact this.symm;simp only[e,if_false];exact ih fun q Y=>Z q (by simp[Y])
 have k:∀t,S'.blk t= .none∨S.blk t=S'.blk t:=by
  intro t;unfold AState.blk;generalize T:S'.blks=l at hb;clear T
  induction l with
  | nil=>exact .inl rfl
  | cons p l ih=>
   obtain⟨i,x⟩:=p;rw[kU];by_cases e:i=t;simp only[e,if_true];have:=hb (i,x) (by simp);simp only[e] at this;exact .inr this;simp only[e,if_false];exact ih fun q Y=>hb q (by simp[Y])
 rintro a w ⟨I,ρ,C,h⟩
 refine⟨I,ρ,C,⟨fun t=>?_,fun i=>?_,fun i i' b hn hi G=>?_,O _ _ h.frame,h.sub,h.old,h.size,h.defers,h.cI,fun i b hi H=>?_,fun i v hv hi=>h.nm i v hv ?_⟩⟩;rcases z t with e | e
 rw[e];trivial;rw[←e];exact h.tmps t;rcases k i with e | e
 rw[e];trivial;rw[←e];exact h.blks i;refine h.dist i i' b hn ?_ ?_;rcases k i with e | e
 exact absurd e hi;rw[e];exact hi;rcases k i' with e | e
 exact absurd e G;rw[e];exact G;refine h.cB i b ?_ H;rcases k i with e | e
 exact absurd e hi;rw[e];exact hi;rcases k i with e | e
 exact absurd e hi;rw[e];exact hi
theorem jN {t:Nat} (id e size:Nat) (H:0<size) (G:t<E.n) (z:E.nm id=none) (O:S.get t= .d (.v (.slice none 0 0))):zE3 E S (((S.kill id).setBlk id (.row e size false [])).put t (.row id)):=by
 rintro a w ⟨I,ρ,C,h⟩
 have k:=h.update (World.grownBy.refl w none) (id:=id) (u:= .slice none 0 0) (x:= .row e size false []) (by simp) (kV I w) (by simp[blockOf])
  ⟨⟨H,by simp[upd,Value.ownBlock]⟩,0,[],by simp,by simp only[upd,if_true];exact World.ownsRow_nil w _ e size,by simp,Pw.nil,by simp[upd,Value.ownBlock]⟩ (.inl rfl) z
 refine⟨I,_,C,⟨fun u=>?_,k.blks,k.dist,by have:=k.frame;rw[zCW _ _ G];exact this,k.sub,k.old,k.size,k.defers,k.cI,k.cB,k.nm⟩⟩
 rw[vX];by_cases e:t=u;subst e;simp only[if_true];have:=h.tmps t;rw[O] at this;generalize a.tmps.getD t undef=v at this ⊢;cases this;simp[Holds,upd];simp only[e,if_false];exact k.tmps u
def zLV:List DV→Nat→List (Nat×AV)
 | [],_=>[]
 | x::r,k=>(k,.d x)::zLV r (k+1)
theorem zV9 (ds:List DV):∀(k t:Nat),(k≤t∧∃x,ds[t-k]? =some x∧look AV.top (zLV ds k) t= .d x)∨look AV.top (zLV ds k) t= .top:=by
 induction ds with
 | nil=>intro k t;exact .inr rfl
 | cons x ds H=>
  intro k t;simp only[zLV,kU];by_cases e:k=t;subst e;simp;simp only[e,if_false];rcases H (k+1) t with ⟨O,y,G,z⟩ | h
  refine .inl ⟨by omega,y,?_,z⟩;have:t-k=(t-(k+1))+1:=by omega
  rw[this];simpa using G;exact .inr h
def yNP (P:Program) (S:AState) (t:TypeId) (cells:List AV) (y:DV):Prop:=
 (OneTy P t∧∃av,cells= [av]∧S.dv av=some y)∨(∃ds,AggTy P t cells.length∧S.dvL cells=some ds∧y= .agg ds)
def RetS (P:Program) (S:AState):List ResultVar→List DV→Prop
 | [],ys=>ys= []
 | .tmp t::h,ys=> ∃y zs,ys=y::zs∧S.dv (S.get t).un=some y∧RetS P S h zs
 | .cell a t::h,ys=> ∃y zs id e cells,ys=y::zs∧(S.get a).un= .ptr id 0∧S.blk id= .box e cells∧yNP P S t cells y∧RetS P S h zs
def yPI (P:Program) (h:Func) (k:List DV):Exit→AState→Prop
 | .ret,S | .normal,S=>RetS P S h.results.toList k
 | _,_=>False
theorem zWA (S:AState) (x:AV) (t:Nat):(S.shareAV x).get t=S.get t:=by unfold AState.shareAV;split;split<;>rfl;rfl
theorem z8M {S:AState} {x:AV} {id e:Nat} {cells:List AV} (h:S.blk id= .box e cells):(S.shareAV x).blk id= .box e cells:=by unfold AState.shareAV;split;rename_i i;split;rename_i z size sh cs hb;rw[yA];by_cases k:i=id;subst k;rw[h] at hb;cases hb;simp[k,h];exact h;exact h
theorem RetS.share {S:AState} (x:AV):∀{l:List ResultVar} {ys:List DV},RetS P S l ys→RetS P (S.shareAV x) l ys
 | [],_,h=>h
 | .tmp t::rs,_,⟨y,zs,e,k,z⟩=>⟨y,zs,e,by rw[zS6,zWA];exact k,RetS.share x z⟩
 | .cell a t::rs,_,⟨y,zs,id,e,cells,H,k,z,O,T⟩=>⟨y,zs,id,e,cells,H,by rw[zWA];exact k,z8M z,by
   rcases O with ⟨ho,av,Z,G⟩ | ⟨ds,Y,G,hy⟩
   ·exact .inl ⟨ho,av,Z,by rw[zS6];exact G⟩
   ·exact .inr ⟨ds,Y,by rw[zV6];exact G,hy⟩,RetS.share x T⟩
theorem RetS.shareL (xs:List AV):∀{S:AState} {l:List ResultVar} {ys:List DV},RetS P S l ys→RetS P (S.shareL xs) l ys:=by
 induction xs with
 | nil=>exact fun h=>h
 | cons x xs k=>exact fun h=>k (h.share x)
def zS7 (tmps:Array Value):ResultVar→Sem Value
 | .tmp t=>pure (tmps.getD t undef)
 | .cell a t=>do loadVar t (←asAddr (tmps.getD a undef))
theorem RetS.holds {a:Act} {w:World} {ρ:Nat→Value} {C:Nat→Prop}:∀(l:List ResultVar) (rs:List DV) {S:AState} {I:Im} (_:SatAt E S a w I ρ C) (_:RetS P S l rs),
  ∃I':Im,(∀b j,I b j→I' b j)∧∃S2,SatAt E S2 a w I' ρ C∧∃xs:List Value,(l.mapM (zS7 a.tmps)).run P w= .ok xs w∧Reps w I' xs rs:=by
 intro l
 induction l with
 | nil=>
  intro rs S I h hr;cases hr;exact⟨I,fun _ _ h=>h,S,h,[],by simp,Pw.nil⟩
 | cons x l ih=>
  intro rs S I h hr;cases x with
  | tmp t=>
   obtain⟨y,ys,rfl,h1,h2⟩:=hr;obtain⟨I1,aa,O,G⟩:=h.dv (h.tmps t).un h1;obtain⟨I2,H,S2,z,xs,ab,k⟩:=ih ys O (h2.share _);exact⟨I2,fun b j hi=>H b j (aa b j hi),S2,z,_::xs,by simp[List.mapM_cons,zS7,ab],Pw.cons (G.mono (kV I1 w) H) k⟩
  | cell ad t=>
   obtain⟨y,ys,id,e,cells,rfl,h1,h2,h3,h4⟩:=hr;have hp:=(h.tmps ad).un;rw[h1] at hp;obtain⟨b,am,hv⟩:=hp;have ai:=h.blks id;rw[h2] at ai;obtain⟨b',arr,an,hB,hh,aw,Z,hI⟩:=ai;have ay:b'=b:=by rw[an] at am;simpa[blockOf] using am
   subst ay;have T:∀(j:Nat) v,arr.toList[j]? =some v→w.cell? ⟨b',0+j,none⟩=some v:=fun j v hj=>by
    rw[Nat.zero_add,cell_of_row w b' j arr e (0,0) hh];simpa using hj
   rcases h3 with ⟨ho,av,hc,hd⟩ | ⟨ds,ha,hd,rfl⟩
   ·subst hc
    have ak:=Z.1
    match ah:arr.toList,ak with
    | [v0],_=>
     rw[ah] at Z T;obtain⟨I1,aa,O,G⟩:=h.dv (Z.2 0 v0 av rfl rfl) hd;obtain⟨I2,H,S2,z,xs,ab,k⟩:=ih ys O (h4.share _);refine⟨I2,fun b j hi=>H b j (aa b j hi),S2,z,v0::xs,?_,Pw.cons (G.mono (kV I1 w) H) k⟩;have aj:=T 0 v0 rfl;simp only[Nat.add_zero] at aj;simp[List.mapM_cons,zS7,hv,asAddr,loadVar,ho.agg,run_load,aj,ab]
   ·obtain⟨I1,aa,O,G⟩:=SatAt.dvL cells h Z hd
    obtain⟨I2,H,S2,z,xs,ab,k⟩:=ih ys O (h4.shareL _);have al:=G.mono (kV I1 w) H;refine⟨I2,fun b j hi=>H b j (aa b j hi),S2,z,.agg arr.toList.toArray::xs,?_,Pw.cons (.agg _ _ al.1 aw al.2) k⟩;have Y:=zDF (P:=P) w ha b' 0 arr.toList Z.1 T;simp only[Instr.loadAt,Instr.sureAddr,Sem.run_bind,Sem.run_pure,Result.andThen_ok] at Y;simp only[List.mapM_cons,zS7,hv,asAddr,Sem.run_bind,Sem.run_pure,Result.andThen_ok,Y,ab]
theorem zLW {k:Func} {tmps:Array Value} {w:World} {xs:List Value} (h:(k.results.toList.mapM (zS7 tmps)).run P w= .ok xs w):
  (results k tmps).run P w= .ok (if h:xs.toArray.size=1 then xs.toArray[0] else .tuple xs.toArray) w:=by
 have e:results k tmps=(do let vs ←k.results.mapM (zS7 tmps);pure (if h:vs.size=1 then vs[0] else .tuple vs)):=by
  unfold results;congr 1
 rw[e,Array.mapM_eq_mapM_toList];simp only[Sem.run_bind,Sem.run_pure,h,Result.andThen_ok,Sem.run_map]
def Env.norm (gdt:Nat→Option (List Value)) (w0:World) (I0:Im) (T:∀b j,I0 b j→b<w0.heap.size) (hG:GlI gdt w0 I0) (n:Nat) (Y:n≤1000000):Env where
 B:=w0.heap.size
 I0:=I0
 n:=n
 fr:=fun _ C w=>Below w0.heap.size w0 w∧∀b,¬C b
 wrB:=true
 nle:=Y
 mine:=fun b=>w0.heap.size≤b
 mineB:=fun _ h=>h
 nm:=fun _=>none
 size:=fun _ _ _ h=>h.1.size
 csize:=fun _ _ _ h b hb=>absurd hb (h.2 b)
 grow:=fun _ _ _ _ h hb=>⟨h.1.trans (hb.mono h.1.size),h.2⟩
 wr:=fun _ _ _ _ _ _ h z Z _=>⟨h.1.trans ⟨z.os,z.tape,z.output,z.size,fun k O=>z.block k (Nat.lt_of_lt_of_le O h.1.size) (fun e=>by have:=(Z k e).1;omega)⟩,h.2⟩
 turn:=fun _ _ _ w w' l h hl G _=>⟨h.1.trans ⟨G.os,G.tape,G.output,by rw[G.size];exact Nat.le_refl _,fun k O=>G.blk k (by omega)⟩,h.2⟩
 gdt:=gdt
 gl:=fun _ _ w h g zs z j v H=>⟨(World.cell?_of_block (a:=⟨g,j,none⟩) (h.1.block g (T g j (hG g zs z j v H).2))).trans (hG g zs z j v H).1,(hG g zs z j v H).2⟩
theorem zOM {w:World} {D:Nat} (h:w.heap[D]? =some (.deferred (some []))):(Instr.takeDeferred D).run P w= .ok [] {w with heap:=w.heap.setIfInBounds D (.deferred none)}:=by simp[Instr.takeDeferred,getObj,setObj,Sem.run,h]
structure Taken (w w':World):Prop where
 blk:∀k:Nat,w'.heap[k]? =w.heap[k]?∨(w.heap[k]? =some (Obj.deferred (some []))∧w'.heap[k]? =some (Obj.deferred none))
 size:w'.heap.size=w.heap.size
theorem Taken.same {I:Im} {w w':World} (h:Taken w w'):Same I w w':=by
 intro b j _;rcases h.blk b with e | ⟨e,k⟩
 exact KeepB.of e;exact⟨by simp[World.cell?,e,k],fun _ _ q=>by rw[e] at q;cases q⟩
theorem zON {fn:Func} {tmps:Array Value} {R:Ending→World→Prop} {B:Nat} {ag:Bool} {C:Nat→Prop}:∀(ds:List Deferred) (w:World),DefOk B ag C w ds→
  (∀w',Below B w w'→Taken w w'→∃v,(results fn tmps).run P w'= .ok v w'∧R (.returned v) w')→
  LeavesInM (fen none) 0 P fn tmps R ds .returning w:=by
 intro ds
 induction ds with
 | nil=>intro w _ h;exact h w (Below.refl _ _) ⟨fun _=> .inl rfl,rfl⟩
 | cons d ds ih=>
  intro w O h;obtain⟨r,h1,h2,an,Z⟩:=O.each d (by simp);refine⟨by simp,.inl ⟨r,_,h1,zOM Z,ih _ ?_ ?_⟩⟩
  ·refine⟨fun e he=>?_,(List.pairwise_cons.1 O.dist).2,fun _=>O.wr (by simp)⟩
   obtain⟨r',G,Y,H,aa⟩:=O.each e (by simp[he]);have z:r≠r':=fun ad=>(List.pairwise_cons.1 O.dist).1 e he r h1 (ad▸G);exact⟨r',G,Y,H,by simp only[Array.getElem?_setIfInBounds_ne z];exact aa⟩
  ·intro w' hb hk
   refine h w' ?_ ⟨fun k=>?_,?_⟩
   ·refine⟨hb.os,hb.tape,hb.output,by have:=hb.size;simpa using this,fun k ac=>?_⟩
    rw[hb.block k ac];exact Array.getElem?_setIfInBounds_ne (by omega)
   ·have T:=(Array.getElem?_eq_some_iff.1 Z).1
    by_cases z:r=k
    ·subst z
     refine .inr ⟨Z,?_⟩;rcases hk.blk r with e | ⟨e,_⟩
     ·rw[e];simp[T]
     ·simp[T] at e
    ·have e1:(w.heap.setIfInBounds r (Obj.deferred none))[k]? =w.heap[k]?:=Array.getElem?_setIfInBounds_ne z
     rcases hk.blk k with e | ⟨e,e'⟩
     ·exact .inl (e.trans e1)
     ·exact .inr ⟨e1.symm.trans e,e'⟩
   ·rw[hk.size];simp
theorem SatAt.taken {S:AState} {a:Act} {w w':World} {I:Im} {ρ:Nat→Value} {C:Nat→Prop} (h:SatAt E S a w I ρ C) (k:Taken w w') (z:E.fr S.ghost C w'):SatAt E S {a with defers:=[]} w' I ρ C:=by
 refine⟨fun t=>(h.tmps t).mono k.same (fun _ _ h=>h),fun i=>?_,h.dist,z,h.sub,fun b j hi=>⟨by rw[k.size];exact(h.old b j hi).1,(h.old b j hi).2⟩,h.size,DefOk.nil,h.cI,h.cB,h.nm⟩
 cases G:S.blk i with
 | none=>trivial
 | _=>
  rw[←G];refine(h.blks i).mono k.same (fun b hb=>?_);obtain⟨o,H,O⟩:=h.cellBlk (by rw[G];simp) hb
  rcases k.blk b with e | ⟨e,_⟩;exact e;rw[H] at e;cases e;cases O
theorem RetS.run {S:AState} {a:Act} {w:World} {I:Im} {ρ:Nat→Value} {C:Nat→Prop} {fn:Func} {Z:List DV} (hs:SatAt E S a w I ρ C) (G:RetS P S fn.results.toList Z):
  ∃v O,(results fn a.tmps).run P w= .ok v w∧(∀b j,I b j→O b j)∧(∀b j,O b j→b<w.heap.size∧(E.I0 b j∨E.mine b))∧z0L w O v Z:=by
 obtain⟨I2,H,S2,T,xs,Y,h⟩:=RetS.holds _ _ hs G;refine⟨_,I2,zLW Y,H,T.old,?_⟩;have hl:=h.1
 match xs,Z,hl,h with
 | [],[],_,k=>exact⟨_,rfl,k⟩
 | [x],[y],_,k=>exact k.2 0 _ y rfl rfl
 | x::u::xs,y::z::ys,_,k=>exact⟨x::u::xs,by simp,k⟩
theorem z0O {f:FuncId} {k:Func} {c:Code} {ds rs:List DV} (hf:P.funcs[f]? =some k) (z:(k.name== "runtime.NumGoroutine")=false) (hb:k.body=some c) (hn:ds.length≤k.ntmps) (Z:k.ntmps≤1000000)
  (h:∀w0 I0 O hG,Avc P none (Env.norm (zBO P) w0 I0 O hG k.ntmps Z) c (yPI P k rs) ⟨zLV ds 0,[]⟩):zE P f ds rs:=by
 refine⟨⟨k,hf,z,by simp[hb]⟩,fun w I vs O hG ac=>?_⟩;refine callsIn_wide (n:=0) |>.1 (callsIn_of_wp_marks hf hb trivial ?_)
 have Y:vs.length=ds.length:=ac.1;have ab:Sat (Env.norm (zBO P) w I O hG k.ntmps Z) ⟨zLV ds 0,[]⟩ {tmps:=vs.toArray++Array.replicate (k.ntmps-vs.toArray.size) undef,defers:=[]} w:=by
  refine⟨I,fun _=>undef,fun _=>False,⟨fun t=>?_,fun _=>trivial,fun _ _ _ _ h=>absurd rfl h,⟨Below.refl _ _,fun _ h=>h⟩,fun _ _ h=>h,fun b j h=>⟨O b j h,.inl h⟩,by simp[Env.norm];omega,DefOk.nil,fun _ _ _ h=>h,fun _ _ h=>absurd rfl h,fun _ _ h=>by cases h⟩⟩
  rcases zV9 ds 0 t with ⟨_,x,hx,hl⟩ | hl
  ·show Holds _ _ _ _ (look AV.top (zLV ds 0) t)
   rw[hl];simp only[Nat.sub_zero] at hx;have ht:t<vs.length:=by rw[Y];exact(List.getElem?_eq_some_iff.1 hx).1
   refine ac.2 t _ x ?_ hx;simp[Array.getD_eq_getD_getElem?,Array.getElem?_append,ht]
  ·show Holds _ _ _ _ (look AV.top (zLV ds 0) t)
   rw[hl];trivial
 refine wpIn_mono (h w I O hG _ w ab) ?_
 rintro e a w' ⟨S,hK,I1,ρ,C,G⟩
 have H:RetS P S k.results.toList rs→LeavesInM (fen none) 0 P k a.tmps (fun e w'=> ∃v I',e= .returned v∧Below w.heap.size w w'∧(∀b j,I b j→I' b j)∧(∀b j,I' b j→b<w'.heap.size∧(I b j∨w.heap.size≤b))∧z0L w' I' v rs) a.defers .returning w':=by
  intro aa;refine zON (B:=w.heap.size) a.defers w' G.defers fun w2 T ai=>?_;have aj:=G.taken ai ⟨G.frame.1.trans T,G.frame.2⟩;obtain⟨v,I2,h1,h2,h3,h4⟩:=RetS.run aj aa;exact⟨v,h1,v,I2,rfl,G.frame.1.trans T,fun b j hi=>h2 b j (G.sub b j hi),h3,h4⟩
 cases e with
 | normal=>exact H hK
 | ret=>exact H hK
 | _=>exact hK.elim
end
end Go.AV
namespace Go.AV
open Go.RowKit
theorem zRA {w:World} {G e:Nat} {k:Array Value} (H:w.heap[G]? =some (.cells k e (0,0))) (z:Array Value) {j:Nat} (h:z[j]? =k[j]?):
  (w.setRow G z).cell? ⟨G,j,none⟩=w.cell? ⟨G,j,none⟩:=by
 rw[cell_of_row _ G j z e (0,0) (setRow_heap w G k z e _ H),cell_of_row w G j k e (0,0) H,h]
section
variable {P:Program} (w:World)
theorem z3Z {B t ty e size bytes:Nat} {z:Value} (hT:SlTy P t e size bytes z) {v:Value} {n:Nat} {xs:List Value} (h:w.ownsRow B e size v n xs)
  {A:Option Addr} {m c:Nat} {news:List Value} (hl:news.length=m*size) (aj:0<m→∃b off,A=some ⟨b,off,none⟩∧∀(j:Nat) u,news[j]? =some u→w.cell? ⟨b,off+j,none⟩=some u)
  (h1:∀u∈news,u.oneCell'=true) (al:n+m≤maxLen) (T:(n+m)*bytes≤140737488355328) (hB:B≤w.heap.size):
  ∃v' w',(Builtin.append_ #[t,t] ty #[v,.slice A m c]).run P w= .ok v' w'∧w'.ownsRow B e size v' (n+m) (xs++news)∧
   ((w.grownBy w' v.ownBlock∧v'.ownBlock=v.ownBlock∧∀gb,v.ownBlock=some gb→∀j,j<n*size→w'.cell? ⟨gb,j,none⟩=w.cell? ⟨gb,j,none⟩)∨(w.grownBy w' none∧v'.ownBlock=some w.heap.size)):=by
 obtain⟨i,hi,hz,rfl,rfl⟩:=hT.info;have ht:=hT.und;have bc:=hT.zs;have ar:n+m≤9223372036854775807:=by simp only[maxLen] at al;omega
 have Y:(xs++news).length=(n+m)*i.size:=by rw[List.length_append,h.1,hl,Nat.add_mul]
 by_cases hm:m=0
 ·subst hm
  have hn:news= []:=List.eq_nil_of_length_eq_zero (by simpa using hl);subst hn;refine⟨v,w,?_,by simpa using h,.inl ⟨World.grownBy.refl w _,rfl,fun _ _ _ _=>rfl⟩⟩;rcases h.2 with ⟨rfl,rfl⟩ | ⟨gb,Z,ac,rfl,_,_,ao,_⟩
  ·cases A<;>simp[Builtin.append_,run_underlying ht,sizeOf,typeInfo,hi,Builtin.lenOf,Builtin.firstCells,loadCells,loadCellsFrom]
  ·cases A<;>simp[Builtin.append_,run_underlying ht,sizeOf,typeInfo,hi,Builtin.lenOf,Builtin.firstCells,ao,storeCells,loadCells,loadCellsFrom]
 ·obtain⟨b,off,rfl,ag⟩:=aj (by omega)
  have G:∀(j:Nat) u,news[j]? =some u→w.cell? ((⟨b,off,none⟩:Addr).add j)=some u:=fun j u hu=>by rw[w9];exact ag j u hu
  have ad:∀(O:Nat),
    (w.drew.alloc (.cells (xs.toArray++news.toArray++Builtin.zeroCells z.cells (grownCap w (n+m) O e-(n+m))) e)).ownsRow B e i.size
     (.slice (some ⟨w.heap.size,0,none⟩) (n+m) (grownCap w (n+m) O e)) (n+m) (xs++news)∧
    w.grownBy (w.drew.alloc (.cells (xs.toArray++news.toArray++Builtin.zeroCells z.cells (grownCap w (n+m) O e-(n+m))) e)) none:=by
   intro O;have ba:=grownCap_ge w (n+m) O e;have ah:grownCap w (n+m) O e≤maxLen:=grownCap_le_maxLen w (n+m) O e al;refine⟨⟨Y,.inr ⟨w.heap.size,_,_,rfl,hB,heap_alloc_new w.drew _,ba,ah,?_,?_⟩⟩,⟨rfl,rfl,rfl,by simp,fun k hk _=>_root_.Go.heap_alloc_old w.drew _ hk⟩⟩
   ·simp only[Array.size_append,List.size_toArray,size_zeroCells,bc,h.1,hl,←Nat.add_mul]
    congr 1;omega
   ·simp only[Array.toList_append,List.append_assoc]
    rw[←List.append_assoc,←Y];exact List.take_left
  rcases h.2 with ⟨rfl,rfl⟩ | ⟨gb,Z,ac,rfl,ax,hg,ao,ah,ay,ak⟩
  ·have hx:xs= []:=List.eq_nil_of_length_eq_zero (by simpa using h.1)
   subst hx;have hr:=run_append_nil (P:=P) w t ty e i z ht hi hz ⟨b,off,none⟩ m c news hl G (by omega) (by omega) (by have hb:=T;simp only[Nat.zero_add] at hb;omega)
   have aa:=ad 0;simp only[Nat.zero_add,List.nil_append,Array.empty_append] at aa ⊢;exact⟨_,_,hr,aa.1,.inr ⟨aa.2,rfl⟩⟩
  ·by_cases H:n+m≤Z
   ·have am:n*i.size+news.length≤ac.size:=by rw[hl,ay,←Nat.add_mul];exact Nat.mul_le_mul_right _ H
    have hr:=run_append_room (P:=P) w t ty e i ht hi gb n Z ac hg ⟨b,off,none⟩ m c news hl G h1 H am;refine⟨_,_,hr,⟨Y,.inr ⟨gb,Z,_,rfl,ax,setRow_heap w gb ac _ e _ hg,H,ah,?_,?_⟩⟩,.inl ⟨⟨rfl,rfl,rfl,by simp,fun k _ hk=>setRow_other w gb k _ (fun e=>hk (by simp[Value.ownBlock,e]))⟩,rfl,?_⟩⟩
    ·simp only[List.size_toArray,List.length_append,List.length_take,List.length_drop,Array.length_toList]
     omega
    ·rw[ak,←Y]
     exact List.take_left
    ·intro g' an j hj
     simp[Value.ownBlock] at an;subst an;refine zRA hg _ ?_;have:j<ac.size:=by omega
     simp only[List.getElem?_toArray,List.append_assoc];rw[List.getElem?_append_left (by simp;omega),List.getElem?_take,if_pos hj]
     simp
   ·have holds:∀j u,xs[j]? =some u→w.cell? ((⟨gb,0,none⟩:Addr).add j)=some u:=h.cells (g:=gb) rfl
    have hr:=run_append_grow (P:=P) w t ty e i z ht hi hz ⟨gb,0,none⟩ n Z xs h.1 holds ⟨b,off,none⟩ m c news hl G (by omega) (by omega) (growslice_fits (by omega) T);have aa:=ad Z;exact⟨_,_,hr,aa.1,.inr ⟨aa.2,rfl⟩⟩
end
section
variable {P:Program} {r:Option Nat} {E:Env} {S:AState} {d:Nat} {ty:TypeId} {pos:String} {af:Array Edge} {g:Option (Nat×Bool)}
theorem zNJ {x:AV} {id e size:Nat} {sh:Bool} {cells:List DV} (hb:S.blk id= .row e size sh cells):∃k,(S.shareAV x).blk id= .row e size k cells:=by unfold AState.shareAV;split;rename_i i;split;rename_i O z H cs h;rw[yA];by_cases G:i=id;subst G;rw[hb] at h;cases h;exact⟨true,by simp⟩;exact⟨sh,by simp[G,hb]⟩;exact⟨sh,hb⟩;exact⟨sh,hb⟩
def Blk.appended (b:Blk) (cells:List DV):Blk:=match b with
 | .row e size sh cs=> .row e size sh (cs++cells)
 | b=>b
theorem zWB {t e size bytes:Nat} {z:Value} {s x:Operand} {id:Nat} {sh:Bool} {cells news:List DV} {n m:Nat} (hn:d<E.n) (hT:SlTy P t e size bytes z) (hb:S.blk id= .row e size sh cells)
  (hx:S.dv (S.ev x)=some (.sl size news)) (hl:cells.length=n*size) (bk:news.length=m*size) (ab:(n+m)*bytes≤140737488355328) (bi:n+m≤maxLen) (hE:E.wrB=true) (ay:E.nm id=none):
  ∀{A:Act} {w:World} {I:Im} {ρ:Nat→Value} {C:Nat→Prop},SatAt E S A w I ρ C→A.eval s= ρ id→∃v w',(execOp A.eval ⟨some d,.call {callee:= .builtin .append,args:= #[s,x],argTypes:= #[t,t]},ty,pos,af,g⟩).run P w= .ok (.value v) w'∧
   Sat E ((((S.shareAV (S.ev x)).kill id).setBlk id (((S.shareAV (S.ev x)).blk id).appended news)).put d (.row id)) (A.put (some d) v) w':=by
  intro A w I ρ C ah bm;obtain⟨I1,cb,G,ba⟩:=ah.dv (ah.ev x) hx;obtain⟨bb,aj⟩:=zNJ (x:=S.ev x) hb;have hk:=G.blks id;rw[aj] at hk;obtain⟨hp,n',xs,ar,ag,h1,bl,ao⟩:=hk;obtain rfl:=zFN ar hl hp.1;obtain⟨Ax,m',c,ys,hv,_,ak,az,an,bj⟩:=Rep.sl_inv ba;obtain rfl:=zFN ak bk hp.1;obtain⟨v',w',hr,aa,O⟩:=z3Z (ty:=ty) w hT ag (A:=Ax) (m:=m') (c:=c) (news:=ys) (by rw[az.1,ak]) (fun h0=>by
   obtain⟨b,off,hA,hc⟩:=bj h0;exact⟨b,off,hA,fun j u hu=>(hc j u hu).1⟩) an bi ab (Nat.zero_le _)
  refine⟨v',w',?_,?_⟩
  ·simp only[execOp,resolve,invoke,builtin,Sem.run_bind,Sem.run_pure,Result.andThen_ok,List.map_toArray,List.map_cons,List.map_nil,bm,hv,hr]
  ·have T:Same I1 w w':=by
    intro b j hi;have au:=(G.old b j hi).1;rcases O with ⟨Z,_,ac⟩ | ⟨Z,_⟩
    ·by_cases e':(ρ id).ownBlock=some b
     ·obtain⟨bn,bu,bv,aq⟩:=zVE ag e'
      exact KeepB.ofCell aq (ac b e' j (by have:=(ao b j e' hi).2;omega))
     ·exact KeepB.of (Z.block b au (fun e2=>e' e2.symm))
    ·exact KeepB.of (Z.block b au (by simp))
   have ad:∀b,blockOf v'=some b→v'.ownBlock=some b:=by
    intro b Y;rcases aa.2 with ⟨al,_⟩ | ⟨gb,bq,br,al,_⟩
    ·rw[al] at Y;cases Y
    ·rw[al] at Y ⊢;exact Y
   have ax:(S.shareAV (S.ev x)).blk id≠ .none:=by rw[aj];simp
   have ap:((S.shareAV (S.ev x)).blk id).appended news= .row e size bb (cells++news):=by rw[aj];rfl
   rw[ap];have aw:BlkOk w' I1 (upd ρ id v') E.mine id (.row e size bb (cells++news)):=by
    have eu:upd ρ id v' id=v':=by simp[upd]
    refine⟨⟨hp.1,fun gb Z=>?_⟩,n'+m',xs++ys,by rw[List.length_append,ar,ak,Nat.add_mul],by rw[eu];exact aa,?_,Pw.append (bl.mono T (fun _ _ h=>h)) (az.mono T (fun _ _ h=>h)),?_⟩
    ·rw[eu] at Z
     rcases O with ⟨_,H,_⟩ | ⟨_,H⟩
     ·exact hp.2 gb (by rw[←H];exact Z)
     ·rw[H] at Z;cases Z;exact E.mineB _ (E.size _ _ _ G.frame)
    ·intro u hu
     rcases List.mem_append.1 hu with hu | hu
     ·exact h1 u hu
     ·exact an u hu
    ·rw[eu]
     intro gb j Z hi;rcases O with ⟨_,H,_⟩ | ⟨_,H⟩
     ·rw[H] at Z
      have:=ao gb j Z hi;exact⟨this.1,by rw[List.length_append];omega⟩
     ·rw[H] at Z
      cases Z;have:=(G.old _ j hi).1;omega
   rcases O with ⟨Z,H,_⟩ | ⟨Z,H⟩
   ·have h2:=G.update Z (id:=id) (u:=v') (fun k hk=>⟨ax,zA1 hk⟩) T (fun b Y=> .inr ⟨ax,zA1 (by rw[←H];exact ad b Y)⟩) aw (.inr hE) ay
    exact⟨I1,_,C,h2.put hn (by simp[Holds,upd])⟩
   ·have h2:=G.update Z (id:=id) (u:=v') (fun k hk=>by cases hk) T (fun b Y=> .inl (by have:=ad b Y;rw[H] at this;cases this;exact Nat.le_refl _)) aw (.inl rfl) ay
    exact⟨I1,_,C,h2.put hn (by simp[Holds,upd])⟩
theorem z0P {t e size bytes:Nat} {z:Value} {s x:Operand} {id:Nat} {sh:Bool} {cells news:List DV} {n m:Nat} (hn:d<E.n) (Y:SlTy P t e size bytes z) (hs:S.ev s= .row id) (hb:S.blk id= .row e size sh cells)
  (hx:S.dv (S.ev x)=some (.sl size news)) (Z:cells.length=n*size) (H:news.length=m*size) (h:(n+m)*bytes≤140737488355328) (G:n+m≤maxLen) (T:E.wrB=true) (O:E.nm id=none):
  k4 P r E ⟨some d,.call {callee:= .builtin .append,args:= #[s,x],argTypes:= #[t,t]},ty,pos,af,g⟩ S
   ((((S.shareAV (S.ev x)).kill id).setBlk id (((S.shareAV (S.ev x)).blk id).appended news)).put d (.row id)):=
 wM (by simp) fun A w I ρ C k=>zWB hn Y hb hx Z H h G T O k (by have:=k.ev s;rw[hs] at this;exact this)
def vH:DV→List DV
 | .agg es=>es
 | x=>[x]
def okDV (size:Nat):DV→Bool
 | .agg es=>es.length==size
 | .v u=>u.oneCell'&&size==1
 | .sl _ _=>size==1
 | .pt _=>size==1
 | .fn _ _=>size==1
 | .mp _ _=>size==1
theorem Rep.flat {w:World} {I:Im} {v:Value} {x:DV} {size:Nat} (h:Rep w I v x) (k:okDV size x=true):
  Reps w I v.cells.toList (vH x)∧(∀u∈v.cells.toList,u.oneCell'=true)∧(vH x).length=size:=by
 cases h with
 | v=>
  simp[okDV] at k;rw[zJU k.1];exact⟨Pw.cons (.v v) Pw.nil,by simpa using k.1,by simp[vH,k.2]⟩
 | nil A c s=>
  simp[okDV] at k;exact⟨Pw.cons (.nil A c s) Pw.nil,by simp[Value.cells,Value.oneCell'],by simp[vH,k]⟩
 | sl b off n c s xs cells hn Y hl G Z T z=>
  simp[okDV] at k;exact⟨Pw.cons (.sl b off n c s xs cells hn Y hl G Z T z) Pw.nil,by simp[Value.cells,Value.oneCell'],by simp[vH,k]⟩
 | pt b off xs cells G Z T z=>
  simp[okDV] at k;exact⟨Pw.cons (.pt b off xs cells G Z T z) Pw.nil,by simp[Value.cells,Value.oneCell'],by simp[vH,k]⟩
 | fn f xs cells G z=>
  simp[okDV] at k;exact⟨Pw.cons (.fn f xs cells G z) Pw.nil,by simp[Value.cells,Value.oneCell'],by simp[vH,k]⟩
 | mp b H O vs hh hb G z=>
  simp[okDV] at k;exact⟨Pw.cons (.mp b H O vs hh hb G z) Pw.nil,by simp[Value.cells,Value.oneCell'],by simp[vH,k]⟩
 | agg xs cells G T z=>
  simp[okDV] at k;exact⟨⟨by simpa[Value.cells,vH] using G,by simpa[Value.cells,vH] using z⟩,by simpa[Value.cells] using T,by simp[vH,k]⟩
theorem z8N (vs:List Value) (off:Nat):∀(k:Nat) (arr:Array Value),off+k+vs.length≤arr.size→
  ((vs.zipIdx k).foldl (fun cs (p:Value×Nat)=>cs.setIfInBounds (off+p.2) p.1) arr).toList=arr.toList.take (off+k)++vs++arr.toList.drop (off+k+vs.length):=by
 induction vs with
 | nil=>intro k arr _;simp
 | cons v vs T=>
  intro k arr h;simp only[List.length_cons] at h;rw[List.zipIdx_cons,List.foldl_cons,T (k+1) _ (by simp;omega)]
  simp only[Array.toList_setIfInBounds,List.length_cons];have z:off+k<arr.toList.length:=by simp;omega
  rw[List.set_eq_take_append_cons_drop,if_pos z];have G:(arr.toList.take (off+k)).length=off+k:=by simp;omega
  have H:off+(k+1)=(arr.toList.take (off+k)).length+1:=by rw[G];omega
  have O:off+(k+1)+vs.length=(arr.toList.take (off+k)).length+(1+vs.length):=by rw[G];omega
  rw[O,H,List.take_length_add_append,List.drop_length_add_append];rw[Nat.add_comm 1 vs.length,List.drop_succ_cons,List.drop_drop,show off+k+1+vs.length=off+k+(vs.length+1) by omega];simp
theorem z0Q {k:Nat→Option (Nat×Nat)} {arr:Array Value} {i off size:Nat} {v:Value} {rest:List (Nat×Value)} (H:k i=some (off,size)) (O:v.cells.size=size) (z:off+size≤arr.size):
  Instr.fill k arr ((i,v)::rest)=Instr.fill k (arr.toList.take off++v.cells.toList++arr.toList.drop (off+size)).toArray rest:=by
 subst O;have h:=z8N v.cells.toList off 0 arr (by simpa using z);simp only[Nat.add_zero] at h;have e:v.cells.zipIdx.foldl (fun cs (x:Value×Nat)=>cs.setIfInBounds (off+x.2) x.1) arr=(arr.toList.take off++v.cells.toList++arr.toList.drop (off+v.cells.size)).toArray:=by
  apply Array.ext';rw[←Array.foldl_toList,Array.toList_zipIdx];simpa using h
 have G:¬(v.cells.size≠v.cells.size ||off+v.cells.size > arr.size)=true:=by simp;omega
 simp only[Instr.fill,H];rw[if_neg G];congr 1
def zA2 {h:Type}:Nat→List h→List (Nat×h)
 | _,[]=>[]
 | k,x::r=>(k,x)::zA2 (k+1) r
theorem zKI {h z:Type} (f: h→z):∀(l:List h) (k:Nat),(zA2 k l).map (fun p=>(p.1,f p.2))=zA2 k (l.map f)
 | [],_=>rfl
 | x::l,k=>by simp[zA2,zKI f l (k+1)]
theorem z0R (size:Nat):∀(vs:List Value) (k:Nat) (arr:Array Value),(∀v∈vs,v.cells.size=size)→(k+vs.length)*size≤arr.size→
  Instr.fill (fun i=>some (i*size,size)) arr (zA2 k vs)=some (arr.toList.take (k*size)++vs.flatMap (fun v=>v.cells.toList)++arr.toList.drop ((k+vs.length)*size)).toArray:=by
 intro vs
 induction vs with
 | nil=>intro k arr _ _;simp[zA2,Instr.fill]
 | cons v vs ih=>
  intro k arr O h;simp only[List.length_cons] at h;have Y:(k+(vs.length+1))*size=k*size+size+vs.length*size:=by
   rw[Nat.add_mul,Nat.add_mul,Nat.one_mul];omega
  have z:(k+1)*size=k*size+size:=by rw[Nat.add_mul,Nat.one_mul]
  have H:(k+1+vs.length)*size=k*size+size+vs.length*size:=by rw[Nat.add_mul,z]
  have G:v.cells.toList.length=size:=by rw[Array.length_toList];exact O v (by simp)
  rw[zA2,z0Q rfl (O v (by simp)) (by omega),ih (k+1) _ (fun u Z=>O u (by simp[Z])) (by simp[G];omega)]
  congr 2;rw[H,z];simp only[List.length_cons,List.flatMap_cons,Y];have T:(arr.toList.take (k*size)++v.cells.toList).length=k*size+size:=by simp[G];omega
  rw[←T,List.take_left,List.drop_length_add_append,List.drop_drop];simp only[List.append_assoc]
theorem zQA {w:World} {I:Im} {size:Nat}:∀{vs:List Value} {ds:List DV},Reps w I vs ds→ds.all (okDV size)=true→
  Reps w I (vs.flatMap fun v=>v.cells.toList) (ds.flatMap vH)∧(∀u∈vs.flatMap (fun v=>v.cells.toList),u.oneCell'=true)∧(∀v∈vs,v.cells.size=size)∧(ds.flatMap vH).length=ds.length*size
 | [],[],_,_=>⟨Pw.nil,by simp,by simp,by simp⟩
 | [],_::_,h,_=>by have:=h.1;simp at this
 | _::_,[],h,_=>by have:=h.1;simp at this
 | v::vs,x::ds,h,z=>by
  simp only[List.all_cons,Bool.and_eq_true] at z;have k:=(h.2 0 v x rfl rfl).flat z.1;have O:Reps w I vs ds:=⟨by have:=h.1;simpa using this,fun j u y hu T=>h.2 (j+1) u y (by simpa using hu) (by simpa using T)⟩
  obtain⟨a1,a2,G,H⟩:=zQA O z.2;refine⟨by simp only[List.flatMap_cons];exact Pw.append k.1 a1,?_,?_,?_⟩
  ·intro u hu
   simp only[List.flatMap_cons,List.mem_append] at hu;rcases hu with hu | hu
   ·exact k.2.1 u hu
   ·exact a2 u hu
  ·intro u hu
   rcases List.mem_cons.1 hu with rfl | hu
   ·have:=k.1.1;rw[k.2.2,Array.length_toList] at this;exact this
   ·exact G u hu
  ·simp only[List.flatMap_cons,List.length_append,List.length_cons,k.2.2,H,Nat.add_mul];omega
theorem zRR {t e size bytes:Nat} {z:Value} {len:Nat} {O:List (Nat×Operand)} {ds:List DV} (hn:d<E.n) (T:SlTy P t e size bytes z) (H:O=zA2 0 (O.map Prod.snd)) (aa:O.length=len)
    (Y:S.dvL ((O.map Prod.snd).map S.ev)=some ds) (aj:ds.all (okDV size)=true) (az:len*size≤16777216) (ai:E.nm d=none):
    k4 P r E ⟨some d,.buildSlice t len O.toArray,ty,pos,af,g⟩ S
      ((((S.shareL ((O.map Prod.snd).map S.ev)).kill d).setBlk d (.row e size false (ds.flatMap vH))).put d (.row d)):=
  wM (by simp) fun A w I ρ C hs=>by
    generalize al:O.map Prod.snd=xs at H Y ⊢;obtain⟨I1,h1,h2,h3⟩:=SatAt.dvL _ hs (zBC hs xs) Y;obtain⟨a1,a2,a3,a4⟩:=zQA h3 aj;have G:(xs.map A.eval).length=len:=by rw[←aa,←al];simp
    have ag:ds.length=len:=by rw[←h3.1];exact G
    have ah:len≤maxLen:=by
      have:=T.pos;have:len*1≤len*size:=Nat.mul_le_mul_left _ this;simp only[maxLen];omega
    have ad:=h2.newRow (id:=d) (e:=e) (size:=size) (n:=len) (c:=len) (rest:=[]) T.pos (by rw[a4,ag]) (Nat.le_refl _) ah (by simp) a1 a2 ai;refine⟨.slice (some ⟨w.heap.size,0,none⟩) len len,_,?_,I1,_,C,ad.put hn (by simp[Holds,upd])⟩;obtain⟨i,hi,hz,ay,aw⟩:=T.info;have k:=z0R size (xs.map A.eval) 0 ((Array.range (len*size)).map ((if len*size=0 then (#[]:Array Value) else z.cells)[· % (if len*size=0 then (#[]:Array Value) else z.cells).size]!)) a3 (by simp[←G]);have ab:O.toArray.map (fun p:Nat×Operand=>(p.1,A.eval p.2))=(zA2 0 (xs.map A.eval)).toArray:=by
      rw[H,List.map_toArray,zKI]
    have ac:¬(len*size > 2 ^ 24):=by omega
    simp only[Nat.zero_mul,List.take_zero,List.nil_append,Nat.zero_add,G] at k;rw[List.drop_of_length_le (by simp)] at k;simp only[List.append_nil] at k ⊢;simp only[execOp,Instr.buildSlice,Sem.run_bind,run_underlying T.und,Result.andThen_ok,T.size w,ac,if_false,Sem.run_pure];by_cases h0:len*size=0
    · have Z:len=0:=by
        rcases Nat.mul_eq_zero.1 h0 with h | h
        · exact h
        · have:=T.pos;omega
      have ak:xs= []:=List.eq_nil_of_length_eq_zero (by simpa[Z] using G);subst ak;subst Z;simp[ab,zA2,Instr.fill,newRow,Array.range_zero']
    · simp only[h0,if_false] at k ⊢
      simp[zeroValue,typeInfo,hi,hz,ab,k,newRow]
def zE5 (z:Value) (n:Nat):List DV:=(List.replicate n (z.cells.toList.map DV.v)).flatten
theorem zS8 (z:Array Value) (n:Nat):(madeCells z (n*z.size)).toList=(List.replicate n z.toList).flatten:=by
 apply List.ext_getElem?;intro j;simp only[madeCells,Array.toList_map,Array.toList_range,List.getElem?_map]
 induction n generalizing j with
 | zero=>simp
 | succ n H=>
  rw[List.replicate_succ,List.flatten_cons];by_cases G:j<z.size;rw[List.getElem?_append_left (by simpa using G)];have h:j<(n+1)*z.size:=by rw[Nat.add_mul,Nat.one_mul];omega
  rw[List.getElem?_range h];simp[Nat.mod_eq_of_lt G,G];rw[List.getElem?_append_right (by simp;omega),←H]
  simp only[Array.length_toList];by_cases h:j<(n+1)*z.size;have k:j-z.size<n*z.size:=by rw[Nat.add_mul,Nat.one_mul] at h;omega
  rw[List.getElem?_range h,List.getElem?_range k];simp only[Option.map_some];have:j%z.size=(j-z.size)%z.size:=by
   rw[Nat.mod_eq_sub_mod (by omega)]
  rw[this];have k:¬j-z.size<n*z.size:=by rw[Nat.add_mul,Nat.one_mul] at h;omega
  rw[List.getElem?_eq_none (by simpa using h),List.getElem?_eq_none (by simpa using k)]
theorem zQB (w:World) (I:Im) (vs:List Value):Reps w I vs (vs.map DV.v):=by refine⟨by simp,fun j x y k h=>?_⟩;simp[k] at h;subst h;exact .v x
theorem zQC {t e size bytes:Nat} {z:Value} {x:Operand} {n:Nat} {m:Int} (hn:d<E.n) (H:SlTy P t e size bytes z) (hx:S.ev x= .d (.v (.int .i64 m))) (hm:m=(n:Int)) (hb:n*bytes≤140737488355328) (Z:n≤maxLen) (ag:E.nm d=none):
  k4 P r E ⟨some d,.makeSlice t x x,ty,pos,af,g⟩ S (((S.kill d).setBlk d (.row e size false (zE5 z n))).put d (.row d)):=
 wM (by simp) fun A w I ρ C hs=>by
  subst hm;obtain⟨i,hi,hz,ah,ad⟩:=H.info;subst ah ad;have k:zE5 z n=((List.replicate n z.cells.toList).flatten).map DV.v:=by simp[zE5,List.map_flatten]
  have O:((List.replicate n z.cells.toList).flatten).length=n*i.size:=by simp[H.zs]
  have aa:=hs.newRow (id:=d) (e:=e) (size:=i.size) (n:=n) (c:=n) (xs:=(List.replicate n z.cells.toList).flatten) (cells:=zE5 z n) (rest:=[]) H.pos (by rw[k];simpa using O) (Nat.le_refl _) Z (by simp)
   (by rw[k];exact zQB _ _ _) (by
    intro u hu;obtain⟨l,hl,hu⟩:=List.mem_flatten.1 hu;rw[List.mem_replicate] at hl;rw[hl.2] at hu;exact H.one u hu) ag
  refine⟨.slice (some ⟨w.heap.size,0,none⟩) n n,_,?_,I,_,C,aa.put hn (by simp[Holds,upd])⟩;have T:=zS8 z.cells n;rw[H.zs] at T;have Y:madeCells z.cells (n*i.size)=((List.replicate n z.cells.toList).flatten).toArray:=by
   apply Array.ext';simpa using T
  have ac:(i.bytes:Int)*(n:Int)≤281474976710656:=by
   have h:((i.bytes*n:Nat):Int)≤281474976710656:=by rw[Nat.mul_comm];omega
   rwa [Int.natCast_mul] at h
  have G:=run_make (P:=P) w t e i z H.und hi hz .i64 .i64 n n (by omega) (by omega) ac (by simp only[maxLen] at Z;omega)
  simp only[Int.toNat_natCast] at G;simp only[execOp,hs.val hx,Sem.run_bind,List.append_nil];rw[G,Y];rfl
end
end Go.AV
namespace Go.AV
open Go.RowKit
structure Agree (S S':AState) (o:Oper):Prop where
 blks:S'.blks=S.blks
 get:∀t,Operand.tmp t∈o.op.operands→S'.get t=S.get t
theorem Agree.ev {S S':AState} {o:Oper} (h:Agree S S' o) {x:Operand} (k:x∈o.op.operands):S'.ev x=S.ev x:=by
 cases x with
 | tmp t=>simp only[AState.ev,h.get t k]
 | _=>rfl
theorem Agree.blk {S S':AState} {o:Oper} (h:Agree S S' o) (id:Nat):S'.blk id=S.blk id:=by unfold AState.blk;rw[h.blks]
def AOp (P:Program) (r:Option Nat) (E:Env) (S:AState) (o:Oper) (d:Nat) (x:AV):Prop:=
 o.dst=some d∧d<E.n∧∀S',Agree S S' o→k4 P r E o S' (S'.put d x)
theorem AOp.step {P:Program} {r:Option Nat} {E:Env} {S:AState} {o:Oper} {d:Nat} {x:AV} (h:AOp P r E S o d x):k4 P r E o S (S.put d x):=h.2.2 S ⟨rfl,fun _ _=>rfl⟩
section
variable {P:Program} {r:Option Nat} {E:Env} {S:AState} {d:Nat} {ty:TypeId} {pos:String} {af:Array Edge} {g:Option (Nat×Bool)}
theorem yK0 {x:Operand} (k:d<E.n):AOp P r E S ⟨some d,.move x,ty,pos,af,g⟩ d (S.ev x):=
 ⟨rfl,k,fun S' h=>by have:=z8H (P:=P) (r:=r) (S:=S') (x:=x) (ty:=ty) (pos:=pos) (af:=af) (g:=g) k;rwa [h.ev (by simp[Op.operands])] at this⟩
theorem yBR {x:Operand} (k:d<E.n):AOp P r E S ⟨some d,.assign x,ty,pos,af,g⟩ d (S.ev x):=
 ⟨rfl,k,fun S' h=>by have:=z0J (P:=P) (r:=r) (S:=S') (x:=x) (ty:=ty) (pos:=pos) (af:=af) (g:=g) k;rwa [h.ev (by simp[Op.operands])] at this⟩
section ints
variable {k:IntKind} {x y:Operand} {a b:Int} {tx tz:TypeId} (hn:d<E.n) (hx:S.ev x= .d (.v (.int k a))) (hy:S.ev y= .d (.v (.int k b)))
include hn hx hy
theorem zWC (z:k.wrap (a+b)=a+b):AOp P r E S ⟨some d,.binOp .add tx x y tz,ty,pos,af,g⟩ d (.d (.v (.int k (a+b)))):=
 ⟨rfl,hn,fun _ h=>yBD hn ((h.ev (by simp[Op.operands])).trans hx) ((h.ev (by simp[Op.operands])).trans hy) z⟩
theorem z0S (z:k.wrap (a*b)=a*b):AOp P r E S ⟨some d,.binOp .mul tx x y tz,ty,pos,af,g⟩ d (.d (.v (.int k (a*b)))):=
 ⟨rfl,hn,fun _ h=>yBE hn ((h.ev (by simp[Op.operands])).trans hx) ((h.ev (by simp[Op.operands])).trans hy) z⟩
theorem zLX:AOp P r E S ⟨some d,.binOp .lss tx x y tz,ty,pos,af,g⟩ d (.d (.v (.bool (decide (a<b))))):=
 ⟨rfl,hn,fun _ h=>yBF hn ((h.ev (by simp[Op.operands])).trans hx) ((h.ev (by simp[Op.operands])).trans hy)⟩
theorem zJV:AOp P r E S ⟨some d,.binOp .leq tx x y tz,ty,pos,af,g⟩ d (.d (.v (.bool (decide (a≤b))))):=
 ⟨rfl,hn,fun _ h=>yBG hn ((h.ev (by simp[Op.operands])).trans hx) ((h.ev (by simp[Op.operands])).trans hy)⟩
theorem zOO:AOp P r E S ⟨some d,.binOp .gtr tx x y tz,ty,pos,af,g⟩ d (.d (.v (.bool (decide (b<a))))):=
 ⟨rfl,hn,fun _ h=>yBH hn ((h.ev (by simp[Op.operands])).trans hx) ((h.ev (by simp[Op.operands])).trans hy)⟩
theorem zLY:AOp P r E S ⟨some d,.binOp .geq tx x y tz,ty,pos,af,g⟩ d (.d (.v (.bool (decide (b≤a))))):=
 ⟨rfl,hn,fun _ h=>yBI hn ((h.ev (by simp[Op.operands])).trans hx) ((h.ev (by simp[Op.operands])).trans hy)⟩
theorem zI1:AOp P r E S ⟨some d,.binOp .eql tx x y tz,ty,pos,af,g⟩ d (.d (.v (.bool (decide (a=b))))):=
 ⟨rfl,hn,fun _ h=>yBJ hn ((h.ev (by simp[Op.operands])).trans hx) ((h.ev (by simp[Op.operands])).trans hy)⟩
theorem zOP:AOp P r E S ⟨some d,.binOp .neq tx x y tz,ty,pos,af,g⟩ d (.d (.v (.bool (!decide (a=b))))):=
 ⟨rfl,hn,fun _ h=>yBK hn ((h.ev (by simp[Op.operands])).trans hx) ((h.ev (by simp[Op.operands])).trans hy)⟩
end ints
theorem zWD {k T:IntKind} {x y:Operand} {a:Int} {m:Nat} {tx tz:TypeId} (z:d<E.n) (H:S.ev x= .d (.v (.int k a))) (O:S.ev y= .d (.v (.int T (m:Int))))
  (G:m≤k.bits):AOp P r E S ⟨some d,.binOp .shr tx x y tz,ty,pos,af,g⟩ d (.d (.v (.int k (a/2 ^ m)))):=
 ⟨rfl,z,fun _ h=>yBL z ((h.ev (by simp[Op.operands])).trans H) ((h.ev (by simp[Op.operands])).trans O) G⟩
theorem zWE {x:Operand} {b:Bool} {tx:TypeId} (k:d<E.n) (z:S.ev x= .d (.v (.bool b))):AOp P r E S ⟨some d,.unOp .not tx x,ty,pos,af,g⟩ d (.d (.v (.bool (!b)))):=
 ⟨rfl,k,fun _ h=>yBM k ((h.ev (by simp[Op.operands])).trans z)⟩
theorem zFP {c:Operand} {t:Nat} {b k:Bool} (z:d<E.n) (G:S.ev c= .d (.v (.bool b))) (H:S.get t= .cond b (.d (.v (.bool k)))):
  AOp P r E S ⟨some d,.pick c (.tmp t) (.const (.bool false)),ty,pos,af,g⟩ d (.d (.v (.bool (b&&k)))):=
 ⟨rfl,z,fun _ h=>zU9 z ((h.ev (by simp[Op.operands])).trans G) ((h.get t (by simp[Op.operands])).trans H)⟩
theorem zQD {c:Operand} {t:Nat} {b k:Bool} (z:d<E.n) (G:S.ev c= .d (.v (.bool b))) (H:S.get t= .cond (!b) (.d (.v (.bool k)))):
  AOp P r E S ⟨some d,.pick c (.const (.bool true)) (.tmp t),ty,pos,af,g⟩ d (.d (.v (.bool (b ||k)))):=
 ⟨rfl,z,fun _ h=>zX0 z ((h.ev (by simp[Op.operands])).trans G) ((h.get t (by simp[Op.operands])).trans H)⟩
section strs
variable {x y:Operand} {a b:ByteArray} {tx tz:TypeId} (hn:d<E.n) (hx:S.ev x= .d (.v (.string a))) (hy:S.ev y= .d (.v (.string b)))
include hn hx hy
theorem yK1:AOp P r E S ⟨some d,.binOp .eql tx x y tz,ty,pos,af,g⟩ d (.d (.v (.bool (a.toList==b.toList)))):=
 ⟨rfl,hn,fun _ h=>z8I hn ((h.ev (by simp[Op.operands])).trans hx) ((h.ev (by simp[Op.operands])).trans hy)⟩
theorem yK2:AOp P r E S ⟨some d,.binOp .neq tx x y tz,ty,pos,af,g⟩ d (.d (.v (.bool (!(a.toList==b.toList))))):=
 ⟨rfl,hn,fun _ h=>z8J hn ((h.ev (by simp[Op.operands])).trans hx) ((h.ev (by simp[Op.operands])).trans hy)⟩
theorem yK3:AOp P r E S ⟨some d,.binOp .lss tx x y tz,ty,pos,af,g⟩ d (.d (.v (.bool (Op.bytesLess a.toList b.toList)))):=
 ⟨rfl,hn,fun _ h=>z8K hn ((h.ev (by simp[Op.operands])).trans hx) ((h.ev (by simp[Op.operands])).trans hy)⟩
end strs
theorem zS9 {k z:IntKind} {x:Operand} {a:Int} {H td:TypeId} {ds:TypeDesc} (G:d<E.n) (T:P.underlying H=some ds) (O:P.underlying td=some (.int z)) (Y:S.ev x= .d (.v (.int k a))):
  AOp P r E S ⟨some d,.convert H td x,ty,pos,af,g⟩ d (.d (.v (.int z (z.wrap a)))):=
 ⟨rfl,G,fun _ h=>zVA G T O ((h.ev (by simp[Op.operands])).trans Y)⟩
theorem zWF {x:Operand} {i:Nat} {ds:List DV} {e:DV} (k:d<E.n) (z:S.ev x= .tup ds) (hi:ds[i]? =some e):AOp P r E S ⟨some d,.extract x i,ty,pos,af,g⟩ d (.d e):=
 ⟨rfl,k,fun _ h=>zX1 k ((h.ev (by simp[Op.operands])).trans z) hi⟩
theorem z57 {t e size bytes:Nat} {z:Value} {x:Operand} {cells:List DV} {n:Nat} (k:d<E.n) (G:SlTy P t e size bytes z) (O:S.ev x= .d (.sl size cells)) (H:cells.length=n*size):
  AOp P r E S ⟨some d,.call {callee:= .builtin .len,args:= #[x],argTypes:= #[t]},ty,pos,af,g⟩ d (.d (.v (.int .i64 n))):=
 ⟨rfl,k,fun _ h=>z3Y k G ((h.ev (by simp[Op.operands,Call.operands])).trans O) H⟩
theorem zWG {t e size bytes:Nat} {z:Value} {x:Operand} {id:Nat} {sh:Bool} {cells:List DV} {n:Nat} (k:d<E.n) (G:SlTy P t e size bytes z) (O:S.ev x= .row id) (hb:S.blk id= .row e size sh cells) (H:cells.length=n*size):
  AOp P r E S ⟨some d,.call {callee:= .builtin .len,args:= #[x],argTypes:= #[t]},ty,pos,af,g⟩ d (.d (.v (.int .i64 n))):=
 ⟨rfl,k,fun _ h=>zX2 k G ((h.ev (by simp[Op.operands,Call.operands])).trans O) ((h.blk id).trans hb) H⟩
theorem z8O {t:TypeId} {x:Operand} {s:ByteArray} (k:d<E.n) (z:P.underlying t=some .string) (G:S.ev x= .d (.v (.string s))):
  AOp P r E S ⟨some d,.call {callee:= .builtin .len,args:= #[x],argTypes:= #[t]},ty,pos,af,g⟩ d (.d (.v (.int .i64 s.size))):=
 ⟨rfl,k,fun _ h=>zX3 k z ((h.ev (by simp[Op.operands,Call.operands])).trans G)⟩
theorem z8P {t e size bytes:Nat} {z:Value} {x O:Operand} {cells:List DV} {n k:Nat} {kk:IntKind} {i:Int} (H:d<E.n) (T:SlTy P t e size bytes z) (hx:S.ev x= .d (.sl size cells))
  (hi:S.ev O= .d (.v (.int kk i))) (Y:i=(k:Int)) (Z:cells.length=n*size) (G:k<n):
  AOp P r E S ⟨some d,.indexAddr t x O,ty,pos,af,g⟩ d (.ip cells (k*size)):=
 ⟨rfl,H,fun _ h=>zX4 H T ((h.ev (by simp[Op.operands])).trans hx) ((h.ev (by simp[Op.operands])).trans hi) Y Z G⟩
theorem z0T {t e size bytes:Nat} {z:Value} {x O:Operand} {id:Nat} {sh:Bool} {cells:List DV} {n k:Nat} {kk:IntKind} {i:Int} (H:d<E.n) (T:SlTy P t e size bytes z) (hx:S.ev x= .row id)
  (hb:S.blk id= .row e size sh cells) (hi:S.ev O= .d (.v (.int kk i))) (Y:i=(k:Int)) (Z:cells.length=n*size) (G:k<n):
  AOp P r E S ⟨some d,.indexAddr t x O,ty,pos,af,g⟩ d (.ptr id (k*size)):=
 ⟨rfl,H,fun _ h=>zSY H T ((h.ev (by simp[Op.operands])).trans hx) ((h.blk id).trans hb) ((h.ev (by simp[Op.operands])).trans hi) Y Z G⟩
theorem xT {t:TypeId} {x:Operand} {cells:List DV} {off:Nat} {e:DV} (k:d<E.n) (z:OneTy P t) (H:S.ev x= .ip cells off) (G:cells[off]? =some e):
  AOp P r E S ⟨some d,.load t x,ty,pos,af,g⟩ d (.d e):=
 ⟨rfl,k,fun _ h=>zX5 k z ((h.ev (by simp[Op.operands])).trans H) G⟩
theorem zKJ {t n:Nat} {x:Operand} {cells:List DV} {off:Nat} {es:List DV} (k:d<E.n) (z:AggTy P t n) (O:S.ev x= .ip cells off) (G:(cells.drop off).take n=es) (H:es.length=n):
  AOp P r E S ⟨some d,.load t x,ty,pos,af,g⟩ d (.d (.agg es)):=
 ⟨rfl,k,fun _ h=>zVB k z ((h.ev (by simp[Op.operands])).trans O) G H⟩
theorem zCD {t:TypeId} {x:Operand} {id off eb:Nat} {cells:List AV} {av:AV} (k:d<E.n) (z:OneTy P t) (H:S.ev x= .ptr id off) (hb:S.blk id= .box eb cells) (G:cells[off]? =some av):
  AOp P r E S ⟨some d,.load t x,ty,pos,af,g⟩ d av:=
 ⟨rfl,k,fun _ h=>zVC k z ((h.ev (by simp[Op.operands])).trans H) ((h.blk id).trans hb) G⟩
theorem z30 {t:TypeId} {x:Operand} {id off e size:Nat} {sh:Bool} {cells:List DV} {y:DV} (k:d<E.n) (z:OneTy P t) (H:S.ev x= .ptr id off) (hb:S.blk id= .row e size sh cells) (G:cells[off]? =some y):
  AOp P r E S ⟨some d,.load t x,ty,pos,af,g⟩ d (.d y):=
 ⟨rfl,k,fun _ h=>zVD k z ((h.ev (by simp[Op.operands])).trans H) ((h.blk id).trans hb) G⟩
theorem z0U {t n:Nat} {x:Operand} {id off e size:Nat} {sh:Bool} {cells es:List DV} (k:d<E.n) (z:AggTy P t n) (O:S.ev x= .ptr id off) (hb:S.blk id= .row e size sh cells)
  (G:(cells.drop off).take n=es) (H:es.length=n):AOp P r E S ⟨some d,.load t x,ty,pos,af,g⟩ d (.d (.agg es)):=
 ⟨rfl,k,fun _ h=>zSZ k z ((h.ev (by simp[Op.operands])).trans O) ((h.blk id).trans hb) G H⟩
def unD:List AV→Option (List DV)
 | []=>some []
 | .d x::r=>match unD r with
  | some ys=>some (x::ys)
  | none=>none
 | _::_=>none
theorem zH5 (S:AState):∀{l:List AV} {ds:List DV},unD l=some ds→S.dvL l=some ds∧S.shareL l=S
 | [],ds,h=>by simp[unD] at h;subst h;exact⟨rfl,rfl⟩
 | .d x::l,ds,h=>by
  simp only[unD] at h;cases k:unD l with
  | none=>simp[k] at h
  | some ys=>
   simp[k] at h;subst h;obtain⟨z,G⟩:=zH5 S k;exact⟨by simp[AState.dvL,AState.dv,z],by simpa[AState.shareL,AState.shareAV] using G⟩
 | .top::_,_,h=>by simp[unD] at h
 | .row _::_,_,h=>by simp[unD] at h
 | .ptr _ _::_,_,h=>by simp[unD] at h
 | .ip _ _::_,_,h=>by simp[unD] at h
 | .tup _::_,_,h=>by simp[unD] at h
 | .cond _ _::_,_,h=>by simp[unD] at h
 | .gh _::_,_,h=>by simp[unD] at h
 | .rs _ _ _::_,_,h=>by simp[unD] at h
theorem uG {f:FuncId} {xs:List Operand} {ats:Array TypeId} {ds H:List DV} (G:d<E.n) (k:unD (xs.map S.ev)=some ds) (Y:zE P f ds H) (hG:E.gdt=zBO P:=by rfl):
  AOp P r E S ⟨some d,.call {callee:= .value (.func f),args:=xs.toArray,argTypes:=ats},ty,pos,af,g⟩ d (zV7 H):=
 ⟨rfl,G,fun S' h=>by
  have z:xs.map S'.ev=xs.map S.ev:=List.map_congr_left fun x Z=>h.ev (by simp[Op.operands,Call.operands,Z]);obtain⟨O,T⟩:=zH5 S' k;have:=zV8 (P:=P) (r:=r) (S:=S') (ty:=ty) (pos:=pos) (af:=af) (g:=g) (ats:=ats) G (by rw[z];exact O) Y hG
  rwa [z,T] at this⟩
def zRB (P:Program) (r:Option Nat) (E:Env) (ops:Array Oper) (o:Oper) (S S':AState):Prop:=
 ∀a w (K:Act→World→Prop) (Q:Exit→Act→World→Prop),Sat E S a w→(∀h w',Sat E S' h w'→K h w')→
  if Region.wanted o (yielded ops a.tmps) then o.wpIn (fen r) 0 P a w K Q else (∀f,o.about P w a.eval=some f→(fen r).fn f)∧K (a.put o.dst undef) w
def zTA (P:Program) (r:Option Nat) (E:Env) (ops:Array Oper) (S:AState) (o:Oper) (d:Nat) (x:AV):Prop:=
 o.dst=some d∧d<E.n∧∀S',S'.blks=S.blks→(∀t∈o.looksAt ops,S'.get t=S.get t)→zRB P r E ops o S' (S'.put d x)
theorem zQE {ops:Array Oper} {o:Oper} {t:Nat} (h:Operand.tmp t∈o.op.operands):t∈o.looksAt ops:=
 List.mem_append_left _ (List.mem_filterMap.2 ⟨.tmp t,by simpa using h,rfl⟩)
theorem zOQ {ops:Array Oper} {o:Oper} {S':AState} (k:o.guard=none) (h:k4 P r E o S S'):zRB P r E ops o S S':=fun a w K Q G z=>by simp only[Region.wanted,k,if_true];exact h a w K Q G z
theorem zTB {ops:Array Oper} {o:Oper} {x:AV} (k:o.guard=none) (h:AOp P r E S o d x):zTA P r E ops S o d x:=
 ⟨h.1,h.2.1,fun S' hb z=>zOQ k (h.2.2 S' ⟨hb,fun t G=>z t (zQE G)⟩)⟩
theorem z0V {a:Act} {w:World} {c:Bool} {x:AV} (Y:d<E.n) (T:c=true) (h:Sat E (S.put d x) a w):Sat E (S.put d (.cond c x)) a w:=by
 obtain⟨O,z,H,k⟩:=h;refine⟨O,z,H,⟨fun u=>?_,k.blks,k.dist,by have:=k.frame;rw[zCW _ _ Y] at this ⊢;exact this,k.sub,k.old,k.size,k.defers,k.cI,k.cB,k.nm⟩⟩
 have:=k.tmps u;rw[vX] at this ⊢;by_cases e:d=u;simp only[e,if_true] at this ⊢;exact⟨fun _=>this,fun G=>by rw[T] at G;cases G⟩
 simp only[e,if_false] at this ⊢;exact this
theorem z0W {ops:Array Oper} {o:Oper} {j t:Nat} {k b:Bool} {x:AV} (hg:o.guard=some (j,k)) (hj:(ops[j]?).bind (·.dst)=some t) (hd:o.dst=some d) (O:d<E.n) (T:t<E.n)
    (Z:S.get t= .d (.v (.bool b))) (h:gd k b=true→AOp P r E S o d x):zTA P r E ops S o d (.cond (gd k b) x):=by
  refine⟨hd,O,fun S' hb hl a w Kn Q hs hk=>?_⟩;obtain⟨I,ρ,C,z⟩:=hs;have aa:t∈o.looksAt ops:=List.mem_append_right _ (by simp[hg,hj]);have hy:=z.yield (ops:=ops) hj ((hl t aa).trans Z) T;have H:Region.wanted o (yielded ops a.tmps)=gd k b:=by
    simp only[Region.wanted,hg,hy];cases k<;>cases b<;>rfl
  rw[H];cases G:gd k b with
  | true=>
    simp only[if_true];refine(h G).2.2 S' ⟨hb,fun t Z=>hl t (zQE Z)⟩ a w Kn Q ⟨I,ρ,C,z⟩ fun a' w' Y=>hk a' w' ?_;rw[G];exact z0V O rfl Y
  | false=>
    simp only[Bool.false_eq_true,if_false];refine⟨fun _ _=>trivial,hk _ _ ?_⟩;rw[hd,G];exact⟨I,ρ,C,z.put O ⟨fun hf=>(by cases hf),fun _=>rfl⟩⟩
theorem zWH {ops:Array Oper} {o:Oper} {j t:Nat} {k b c:Bool} {x:AV} (hg:o.guard=some (j,k)) (hj:(ops[j]?).bind (·.dst)=some t) (hd:o.dst=some d) (O:d<E.n) (T:t<E.n)
    (Z:S.get t= .cond c (.d (.v (.bool b)))) (h:(c&&gd k b)=true→AOp P r E S o d x):zTA P r E ops S o d (.cond (c&&gd k b) x):=by
  refine⟨hd,O,fun S' hb hl a w Kn Q hs hk=>?_⟩;obtain⟨I,ρ,C,z⟩:=hs;have aa:t∈o.looksAt ops:=List.mem_append_right _ (by simp[hg,hj]);have hy:=z.yield2 (ops:=ops) hj ((hl t aa).trans Z) T;have H:Region.wanted o (yielded ops a.tmps)=(c&&gd k b):=by
    simp only[Region.wanted,hg,hy];cases k<;>cases b<;>cases c<;>rfl
  rw[H];cases G:(c&&gd k b) with
  | true=>
    simp only[if_true];refine(h G).2.2 S' ⟨hb,fun t Z=>hl t (zQE Z)⟩ a w Kn Q ⟨I,ρ,C,z⟩ fun a' w' Y=>hk a' w' ?_;rw[G];exact z0V O rfl Y
  | false=>
    simp only[Bool.false_eq_true,if_false];refine⟨fun _ _=>trivial,hk _ _ ?_⟩;rw[hd,G];exact⟨I,ρ,C,z.put O ⟨fun hf=>(by cases hf),fun _=>rfl⟩⟩
def Sq (P:Program) (r:Option Nat) (E:Env) (ops:Array Oper):List Oper→AState→(AState→Prop)→Prop
 | [],S,J=>J S
 | o::rest,S,J=> ∃S',zRB P r E ops o S S'∧Sq P r E ops rest S' J
theorem zG {ops:Array Oper} {J:AState→Prop} (h:J S):Sq P r E ops [] S J:=h
theorem yK4 {ops:Array Oper} {o:Oper} {rest:List Oper} {J:AState→Prop} {x:AV} (h:zTA P r E ops S o d x) (k:Sq P r E ops rest (S.put d x) J):Sq P r E ops (o::rest) S J:=
 ⟨_,h.2.2 S rfl (fun _ _=>rfl),k⟩
theorem z2 {ops:Array Oper} {o:Oper} {rest:List Oper} {J:AState→Prop} {S':AState} (z:o.guard=none) (h:k4 P r E o S S') (k:Sq P r E ops rest S' J):Sq P r E ops (o::rest) S J:=
 ⟨_,zOQ z h,k⟩
theorem zGH {ops:Array Oper} {rest:List Oper} {J:AState→Prop} {S':AState} (O:zE3 E S S') (k:Sq P r E ops rest S' J) (z:rest≠[]):Sq P r E ops rest S J:=by
 cases rest with
 | nil=>exact absurd rfl z
 | cons o rest=>
  obtain⟨S2,h,k⟩:=k;exact⟨S2,fun a w K Q H G=>h a w K Q (O a w H) G,k⟩
theorem Sq.wp {ops:Array Oper} {Q:Exit→Act→World→Prop}:∀(l:List Oper) {S:AState} {J:AState→Prop} (_:Sq P r E ops l S J) (a:Act) (w:World),Sat E S a w→(∀S' z w',J S'→Sat E S' z w'→Q .normal z w')→wpListIn (fen r) 0 P ops Q l a w
 | [],_,_,h,a,w,H,G=>G _ a w h H
 | _::l,_,_,⟨_,h,k⟩,a,w,H,G=>wpListIn_step fun K T=>h a w K Q H fun z w' O=>T z w' (Sq.wp l k z w' O G)
theorem kZ {id:Nat} {l:List Oper} {K:Exit→AState→Prop} (h:Sq P r E l.toArray l S (K .normal)):Avc P r E (.region id l.toArray false) K S:=fun a w G=>
 wpIn_region_lit (Sq.wp l h a w G fun S' _ _ z k=>⟨S',z,k⟩)
end
end Go.AV
namespace Go.AV
open Go.RowKit
def aft (o:Oper):List Nat:=(o.after.toList.filter fun e=>Region.binds .any e).map (·.on)
def clo:List Oper→List (List Nat)→List (List Nat)
 | [],h=>h
 | o::l,h=>clo l (h++ [((aft o).flatMap fun j=>j::h.getD j []).eraseDups])
inductive Reach (l:List Oper):Nat→Nat→Prop
 | one {i j:Nat} {o:Oper} (h:l[i]? =some o) (hj:j∈aft o):Reach l i j
 | more {i k j:Nat} {o:Oper} (h:l[i]? =some o) (hk:k∈aft o) (hr:Reach l k j):Reach l i j
theorem zWI (O:List Oper):∀(l:List Oper) (z:List (List Nat)),(∀(k:Nat) o,l[k]? =some o→O[z.length+k]? =some o)→(∀i j,j∈z.getD i []→Reach O i j)→∀i j,j∈(clo l z).getD i []→Reach O i j:=by
 intro l
 induction l with
 | nil=>intro z _ h i j hj;exact h i j hj
 | cons o l ih=>
  intro z Z G;refine ih _ (fun k o' H=>?_) (fun i j hj=>?_)
  ·have:=Z (k+1) o' (by simpa using H)
   simp only[List.length_append,List.length_singleton]
   rwa [show z.length+1+k=z.length+(k+1) by omega]
  ·have Y:O[z.length]? =some o:=by simpa using Z 0 o rfl
   rcases Nat.lt_trichotomy i z.length with T | heq | hgt
   ·have:(z++ [((aft o).flatMap fun j=>j::z.getD j []).eraseDups]).getD i []=z.getD i []:=by
     simp[List.getD,List.getElem?_append_left T]
    rw[this] at hj;exact G i j hj
   ·subst heq
    have:(z++ [((aft o).flatMap fun j=>j::z.getD j []).eraseDups]).getD z.length []=((aft o).flatMap fun j=>j::z.getD j []).eraseDups:=by
     simp[List.getD]
    rw[this,List.mem_eraseDups,List.mem_flatMap] at hj;obtain⟨k,H,hj⟩:=hj;rcases List.mem_cons.1 hj with rfl | hj
    ·exact .one Y H
    ·exact .more Y H (G k j hj)
   ·have:(z++ [((aft o).flatMap fun j=>j::z.getD j []).eraseDups]).getD i []= []:=by
     simp only[List.getD];rw[List.getElem?_eq_none (by simp;omega)]
     rfl
    rw[this] at hj;cases hj
def dstAt (l:List Oper) (i:Nat):Option Nat:=(l[i]?).bind (·.dst)
def zX6 (l:List Oper) (N:Nat):Bool:=
 let c:=clo l []
 decide (N≤l.length)&&
 (List.range l.length).all fun i=>match l[i]? with
  | none=>true
  | some o=>
   ((aft o).all fun j=>decide (j<i))&&
   (if i<N then
    ((o.looksAt l.toArray).all fun t=>(List.range N).all fun j=>(Nat.beq j i ||(dstAt l j != some t)) ||(if j<i then (c.getD i []).contains j else (c.getD j []).contains i))&&
    ((List.range N).all fun j=>Nat.beq j i ||(dstAt l j != o.dst))
   else (List.range i).all fun j=>(c.getD i []).contains j)
structure DrawOk (l:List Oper) (N:Nat):Prop where
 le:N≤l.length
 aft:∀i o,l[i]? =some o→∀j∈aft o,j<i
 looks:∀i o,i<N→l[i]? =some o→∀t∈o.looksAt l.toArray,∀j,j<N→j≠i→dstAt l j=some t→if j<i then Reach l i j else Reach l j i
 dist:∀i o,i<N→l[i]? =some o→∀j,j<N→j≠i→dstAt l j≠o.dst
 tail:∀i o,N≤i→l[i]? =some o→∀j,j<i→Reach l i j
theorem z0X {l:List Oper} {N:Nat} (h:zX6 l N=true):DrawOk l N:=by
 have Y:∀i j,j∈(clo l []).getD i []→Reach l i j:=zWI l l [] (fun k o hk=>by simpa using hk) (fun i j G=>by simp at G);simp only[zX6,Bool.and_eq_true,decide_eq_true_eq,List.all_eq_true,List.mem_range] at h;obtain⟨Z,h⟩:=h;have hi:∀(i:Nat) o,l[i]? =some o→i<l.length:=fun i o z=>(List.getElem?_eq_some_iff.1 z).1;refine⟨Z,fun i o z j G=>?_,fun i o T z t ht j G H hd=>?_,fun i o T z j G H=>?_,fun i o T z j G=>?_⟩;have:=h i (hi i o z);simp only[z,Bool.and_eq_true,List.all_eq_true,decide_eq_true_eq] at this;exact this.1 j G;have:=h i (hi i o z);simp only[z,Bool.and_eq_true,List.all_eq_true,decide_eq_true_eq,T,if_true,List.mem_range,Bool.or_eq_true,Nat.beq_eq] at this;have h2:=this.2.1 t ht j G;rcases h2 with (h2 | h2) | h2
 exact absurd h2 H;rw[hd] at h2;simp at h2;by_cases O:j<i;simp only[O,if_true] at h2 ⊢;exact Y i j (by simpa using h2);simp only[O,if_false] at h2 ⊢;exact Y j i (by simpa using h2);have:=h i (hi i o z);simp only[z,Bool.and_eq_true,List.all_eq_true,decide_eq_true_eq,T,if_true,List.mem_range,Bool.or_eq_true,Nat.beq_eq] at this;rcases this.2.2 j G with h2 | h2
 exact absurd h2 H;simpa using h2;have:=h i (hi i o z);have hn:¬i<N:=by omega
 simp only[z,Bool.and_eq_true,List.all_eq_true,decide_eq_true_eq,hn,if_false,List.mem_range] at this;exact Y i j (by simpa using this.2 j G)
def DA (P:Program) (r:Option Nat) (E:Env) (ops:Array Oper):List Oper→AState→(AState→Prop)→Prop
 | [],S,J=>J S
 | o::rest,S,J=> ∃d x,zTA P r E ops S o d x∧DA P r E ops rest (S.put d x) J
section
variable {P:Program} {r:Option Nat} {E:Env} {S:AState} {d:Nat}
theorem xG {ops:Array Oper} {J:AState→Prop} (h:J S):DA P r E ops [] S J:=h
theorem yK5 {ops:Array Oper} {o:Oper} {rest:List Oper} {J:AState→Prop} {x:AV} (h:zTA P r E ops S o d x) (k:DA P r E ops rest (S.put d x) J):DA P r E ops (o::rest) S J:=⟨d,x,h,k⟩
def zH6 (S:AState):List (Nat×AV)→AState
 | []=>S
 | p::h=>zH6 (S.put p.1 p.2) h
theorem zFQ (S:AState) (h:List (Nat×AV)):(zH6 S h).blks=S.blks:=by
 induction h generalizing S with
 | nil=>rfl
 | cons q h k=>exact k _
theorem DA.list {ops:Array Oper}:∀(l:List Oper) {S:AState} {J:AState→Prop},DA P r E ops l S J→
  ∃z:List (Nat×AV),z.length=l.length∧J (zH6 S z)∧∀(i:Nat) o p,l[i]? =some o→z[i]? =some p→zTA P r E ops (zH6 S (z.take i)) o p.1 p.2
 | [],S,_,h=>⟨[],rfl,h,by simp⟩
 | o::l,S,_,⟨d,x,h,k⟩=>by
  obtain⟨z,O,T,Y⟩:=DA.list l k;refine⟨(d,x)::z,by simp[O],T,fun i Z p G H=>?_⟩;cases i with
  | zero=>simp at G H;subst G;subst H;exact h
  | succ i=>exact Y i Z p (by simpa using G) (by simpa using H)
theorem zOR (h:List (Nat×AV)):∀(S:AState),(∀(i j:Nat) p q,h[i]? =some p→h[j]? =some q→i≠j→p.1≠q.1)→
  (∀(i:Nat) p,h[i]? =some p→(zH6 S h).get p.1=p.2)∧∀t,(∀(i:Nat) p,h[i]? =some p→p.1≠t)→(zH6 S h).get t=S.get t:=by
 induction h with
 | nil=>intro S _;exact⟨by simp,fun t _=>rfl⟩
 | cons q h ih=>
  intro S H;have z:∀(i j:Nat) p q,h[i]? =some p→h[j]? =some q→i≠j→p.1≠q.1:=fun i j p q k Z Y=>H (i+1) (j+1) p q (by simpa using k) (by simpa using Z) (by omega);obtain⟨T,G⟩:=ih (S.put q.1 q.2) z;refine⟨fun i p k=>?_,fun t O=>?_⟩
  ·cases i with
   | zero=>
    simp at k;subst k;show (zH6 (S.put q.1 q.2) h).get q.1=q.2;rw[G q.1 (fun i p k=>H (i+1) 0 p q (by simpa using k) rfl (by omega)),vX];simp
   | succ i=>exact T i p (by simpa using k)
  ·show (zH6 (S.put q.1 q.2) h).get t=S.get t
   rw[G t (fun i p k=>O (i+1) p (by simpa using k)),vX,if_neg (O 0 q rfl)]
theorem zMR {S S':AState} (hb:S'.blks=S.blks) (H:∀t,S'.get t=S.get t) {a:Act} {w:World} (h:Sat E S a w):Sat E S' a w:=by
 obtain⟨I,ρ,C,h⟩:=h;have k:∀i,S'.blk i=S.blk i:=fun i=>by unfold AState.blk;rw[hb]
 exact⟨I,ρ,C,⟨fun t=>by rw[H];exact h.tmps t,fun i=>by rw[k];exact h.blks i,fun i Y b O hi G=>h.dist i Y b O (by rw[←k];exact hi) (by rw[←k];exact G),by have:=h.frame;unfold AState.ghost at this ⊢;rw[H];exact this,h.sub,h.old,h.size,h.defers,h.cI,fun i b hi z=>h.cB i b (by rw[←k];exact hi) z,fun i v T hi=>h.nm i v T (by rw[←k];exact hi)⟩⟩
theorem zTC {S:AState} {a:Act} {w:World} (h:Sat E S a w):Sat E S a {w with drawn:=w.drawn+1}:=by obtain⟨I,ρ,C,h⟩:=h;exact⟨I,ρ,C,h.grow (Below.drew (Below.refl _ _))⟩
structure Lst (S:AState) (ps:List (Nat×AV)) (L:Nat→Bool) (S':AState):Prop where
 blks:S'.blks=S.blks
 yes:∀(i:Nat) p,ps[i]? =some p→L i=true→S'.get p.1=p.2
 no:∀t,(∀(i:Nat) p,ps[i]? =some p→L i=true→p.1≠t)→S'.get t=S.get t
def unl (listed:Array Bool):Nat:=(listed.toList.filter (fun b=>!b)).length
theorem zMS {listed:Array Bool} {i:Nat} (h:listed[i]? =some false):unl (listed.setIfInBounds i true)+1=unl listed:=by
 obtain⟨G,T⟩:=Array.getElem?_eq_some_iff.1 h;unfold unl;rw[Array.toList_setIfInBounds];have z:i<listed.toList.length:=by simpa using G
 have k:listed.toList=listed.toList.take i++false::listed.toList.drop (i+1):=by
  have O:listed.toList[i]=false:=by simpa using T
  have H:listed.toList.drop i=listed.toList[i]::listed.toList.drop (i+1):=List.drop_eq_getElem_cons z;rw[O] at H;rw[←H,List.take_append_drop]
 rw[List.set_eq_take_append_cons_drop,if_pos z]
 conv=>rhs;rw[k]
 simp;omega
theorem zER {l:List Oper} {listed:Array Bool} {i:Nat} (h:i∈Region.ready .any l.toArray listed):
  i<l.length∧listed.getD i true=false∧∀o,l[i]? =some o→∀j∈aft o,listed.getD j false=true:=by
 simp only[Region.ready,List.mem_filter,List.mem_range,Bool.and_eq_true,Bool.not_eq_true',List.size_toArray] at h;obtain⟨z,G,h3⟩:=h;refine⟨z,G,fun o O j k=>?_⟩;simp only[List.getElem?_toArray,O,Option.map_some,Option.getD_some,Array.all_eq_true_iff_forall_mem,Bool.or_eq_true,Bool.not_eq_true'] at h3;simp only[aft,List.mem_map,List.mem_filter] at k;obtain⟨e,⟨H,hb⟩,rfl⟩:=k;rcases h3 e (by simpa using H) with h3 | h3
 ·rw[hb] at h3;cases h3
 ·exact h3
theorem zTD {l:List Oper} {listed:Array Bool} {i:Nat} {o:Oper} (h:l[i]? =some o) (k:listed.getD i true=false) (z:∀j∈aft o,listed.getD j false=true):
  i∈Region.ready .any l.toArray listed:=by
 simp only[Region.ready,List.mem_filter,List.mem_range,Bool.and_eq_true,Bool.not_eq_true',List.size_toArray];refine⟨(List.getElem?_eq_some_iff.1 h).1,k,?_⟩;simp only[List.getElem?_toArray,h,Option.map_some,Option.getD_some,Array.all_eq_true_iff_forall_mem,Bool.or_eq_true,Bool.not_eq_true'];intro e G;cases hb:Region.binds .any e with
 | false=>exact .inl rfl
 | true=>exact .inr (z e.on (by simp only[aft,List.mem_map,List.mem_filter];exact⟨e,⟨by simpa using G,hb⟩,rfl⟩))
structure Down (l:List Oper) (listed:Array Bool):Prop where
 size:listed.size=l.length
 down:∀(i:Nat) o,l[i]? =some o→listed.getD i false=true→∀j∈aft o,listed.getD j false=true
theorem Down.reach {l:List Oper} {listed:Array Bool} (h:Down l listed) {i j:Nat} (Y:Reach l i j) (hi:∀o,l[i]? =some o→∀k∈aft o,listed.getD k false=true):listed.getD j false=true:=by
 induction Y with
 | one G O=>exact hi _ G _ O
 | more G T _ Z=>exact Z fun o' H k' z=>h.down _ o' H (hi _ G _ T) k' z
theorem Down.set {l:List Oper} {listed:Array Bool} (h:Down l listed) {i:Nat} (hi:∀o,l[i]? =some o→∀k∈aft o,listed.getD k false=true):Down l (listed.setIfInBounds i true):=by
 have mono:∀k,listed.getD k false=true→(listed.setIfInBounds i true).getD k false=true:=by
  intro k z;simp only[Array.getD_eq_getD_getElem?] at z ⊢;by_cases e:i=k;subst e;by_cases H:i<listed.size;simp[H];simp[H] at z;rw[Array.getElem?_setIfInBounds_ne e];exact z
 refine⟨by simp[h.size],fun j o O G k z=>mono k ?_⟩;by_cases e:i=j;subst e;exact hi o O k z;refine h.down j o O ?_ k z;simp only[Array.getD_eq_getD_getElem?] at G ⊢
 rwa [Array.getElem?_setIfInBounds_ne e] at G
theorem zCN {listed:Array Bool} {i k:Nat} (hi:i<listed.size):(listed.setIfInBounds i true).getD k false=(if i=k then true else listed.getD k false):=by simp only[Array.getD_eq_getD_getElem?];by_cases e:i=k;subst e;simp[hi];rw[Array.getElem?_setIfInBounds_ne e,if_neg e]
theorem zWJ {l:List Oper} {N:Nat} (G:DrawOk l N) {listed:Array Bool} (T:listed.size=l.length) (h:Region.ready .any l.toArray listed= []):∀i,i<l.length→listed.getD i false=true:=by
 intro i
 induction i using Nat.strongRecOn with
 | _ i Y=>
  intro hi;cases hb:listed.getD i false with
  | true=>rfl
  | false=>
   exfalso;have z:i<listed.size:=by omega
   have H:listed.getD i true=false:=by simpa[Array.getD_eq_getD_getElem?,z] using hb
   have:=zTD (l:=l) (o:=l[i]) (List.getElem?_eq_getElem hi) H (fun j O=>by
    have k:=G.aft i _ (List.getElem?_eq_getElem hi) j O;exact Y j k (by omega))
   rw[h] at this;cases this
theorem zLZ {listed:Array Bool} (h:unl listed=0):∀i,i<listed.size→listed.getD i false=true:=by intro i hi;unfold unl at h;have:=List.eq_nil_of_length_eq_zero h;rw[List.filter_eq_nil_iff] at this;have k:=this listed[i] (by simp);simp[Array.getD_eq_getD_getElem?,hi];simpa using k
theorem zQF {l:List Oper} {listed:Array Bool} (h:∀i,i<l.length→listed.getD i false=true) (H:listed.size=l.length):Region.ready .any l.toArray listed= []:=by
 apply List.eq_nil_iff_forall_not_mem.2;intro i hi;obtain⟨G,k,_⟩:=zER hi;have:=h i G;have z:i<listed.size:=by omega
 simp[Array.getD_eq_getD_getElem?,z] at this k;rw[this] at k;cases k
variable {l:List Oper} {N:Nat} {Q:Exit→Act→World→Prop}
theorem yBS (ag:DrawOk l N) {J:AState→Prop} (hq:∀S' a' w',J S'→Sat E S' a' w'→Q .normal a' w'):
  ∀(fuel m:Nat) (listed:Array Bool) (S:AState) (a:Act) (w:World),N≤m→Down l listed→unl listed≤fuel→(∀i,i<l.length→(listed.getD i false=true↔i<m))→
   Sq P r E l.toArray (l.drop m) S J→Sat E S a w→wpAnyIn (fen r) 0 P .any l.toArray Q fuel listed a w:=by
 intro fuel
 induction fuel with
 | zero=>
  intro m listed S a w hm O hu Z z hs;have G:∀i,i<l.length→listed.getD i false=true:=fun i hi=>zLZ (by omega) i (by rw[O.size];exact hi)
  have T:l.length≤m:=by
   rcases Nat.lt_or_ge m l.length with h | h
   ·have:=(Z m h).1 (G m h);omega
   ·exact h
  rw[List.drop_of_length_le T] at z;exact⟨zQF G O.size,hq S a w z hs⟩
 | succ fuel ih=>
  intro m listed S a w hm O hu Z z hs;refine⟨fun ad=>?_,fun i hi=>?_⟩
  ·have G:=zWJ ag O.size ad
   have T:l.length≤m:=by
    rcases Nat.lt_or_ge m l.length with h | h
    ·have:=(Z m h).1 (G m h);omega
    ·exact h
   rw[List.drop_of_length_le T] at z;exact hq S a w z hs
  ·obtain⟨h1,h2,h3⟩:=zER hi
   have H:i<listed.size:=by rw[O.size];exact h1
   have ac:=List.getElem?_eq_getElem h1;have aa:listed.getD i false=false:=by simpa[Array.getD_eq_getD_getElem?,H] using h2
   have aq:m≤i:=by
    rcases Nat.lt_or_ge i m with h | h
    ·have:=(Z i h1).2 h;rw[aa] at this;cases this
    ·exact h
   have ab:i=m:=by
    rcases Nat.lt_or_ge m i with h | h
    ·have hr:=ag.tail i _ (by omega) ac m h
     have:=O.reach hr h3;have:=(Z m (by omega)).1 this;omega
    ·omega
   subst ab;rw[List.drop_eq_getElem_cons h1] at z;obtain⟨S',Y,ah⟩:=z;have al:listed[i]? =some false:=by
    have:listed[i]=false:=by simpa[Array.getD_eq_getD_getElem?,H] using aa
    rw[Array.getElem?_eq_getElem H,this]
   unfold wpOpIn;simp only[List.getElem?_toArray,ac];refine Y a w _ Q hs fun a' w' am=>?_;refine ih (i+1) _ S' a' w' (by omega) (O.set h3) (by have:=zMS al;omega) (fun k hk=>?_) ah am
   rw[zCN H];by_cases e:i=k
   ·subst e;simp
   ·simp only[e,if_false]
    rw[Z k hk];omega
theorem z8Q (al:DrawOk l N) {J:AState→Prop} (hq:∀S' a' w',J S'→Sat E S' a' w'→Q .normal a' w') (S:AState) (Y:List (Nat×AV)) (cc:Y.length=N)
  (hA:∀(i:Nat) o p,i<N→l[i]? =some o→Y[i]? =some p→zTA P r E l.toArray (zH6 S (Y.take i)) o p.1 p.2) (hB:Sq P r E l.toArray (l.drop N) (zH6 S Y) J):
  ∀(fuel:Nat) (listed:Array Bool) (S':AState) (a:Act) (w:World),Down l listed→unl listed≤fuel→(∀i,N≤i→i<l.length→listed.getD i false=false)→
   Lst S Y (fun i=>listed.getD i false) S'→Sat E S' a w→wpAnyIn (fen r) 0 P .any l.toArray Q fuel listed a w:=by
 have cp:=al.le;have ab:∀(i:Nat) p,Y[i]? =some p→∃o,l[i]? =some o∧i<N∧o.dst=some p.1:=by
  intro i p H;have hi:i<N:=by rw[←cc];exact(List.getElem?_eq_some_iff.1 H).1
  have ad:=List.getElem?_eq_getElem (l:=l) (i:=i) (by omega);exact⟨_,ad,hi,(hA i _ p hi ad H).1⟩
 have G:∀(i j:Nat) p q,Y[i]? =some p→Y[j]? =some q→i≠j→p.1≠q.1:=by
  intro i j p q H am ba he;obtain⟨o,ho,hi,hd⟩:=ab i p H;obtain⟨o',bb,hj,bq⟩:=ab j q am;refine al.dist i o hi ho j hj (fun e=>ba e.symm) ?_;simp only[dstAt,bb,Option.bind_some,bq,hd,he]
 have aw:∀S',Lst S Y (fun _=>true) S'→∀t,S'.get t=(zH6 S Y).get t:=by
  intro S' h t;obtain⟨g1,g2⟩:=zOR Y S G;by_cases an:∃(i:Nat) (p:Nat×AV),Y[i]? =some p∧p.1=t
  ·obtain⟨i,p,H,rfl⟩:=an
   rw[h.yes i p H rfl,g1 i p H]
  ·have ap:∀(i:Nat) p,Y[i]? =some p→p.1≠t:=fun i p H e=>an ⟨i,p,H,e⟩
   rw[h.no t (fun i p H _=>ap i p H),g2 t ap]
 intro fuel
 induction fuel with
 | zero=>
  intro listed S' a w hd hu hN hL hs;have T:∀i,i<l.length→listed.getD i false=true:=fun i hi=>zLZ (by omega) i (by rw[hd.size];exact hi)
  have ay:N=l.length:=by
   rcases Nat.lt_or_ge N l.length with h | h
   ·have:=hN N (Nat.le_refl _) h;rw[T N h] at this;cases this
   ·omega
  rw[ay,List.drop_of_length_le (Nat.le_refl _)] at hB;refine⟨zQF T hd.size,hq _ a w hB (zMR (by rw[zFQ,hL.blks]) (fun t=>(aw S' ⟨hL.blks,fun i p H _=>hL.yes i p H ?_,fun t ht=>hL.no t fun i p H _=>ht i p H rfl⟩ t).symm) hs)⟩;exact T i (by obtain⟨_,_,h,_⟩:=ab i p H;omega)
 | succ fuel ih=>
  intro listed S' a w hd hu hN hL hs;have aj:(∀i,i<N→listed.getD i false=true)→Sat E (zH6 S Y) a w:=fun h=>
   zMR (by rw[zFQ,hL.blks]) (fun t=>(aw S' ⟨hL.blks,fun i p H _=>hL.yes i p H (h i (ab i p H).choose_spec.2.1),fun t ht=>hL.no t fun i p H _=>ht i p H rfl⟩ t).symm) hs
  refine⟨fun bk=>?_,fun i hi=>?_⟩
  ·have T:=zWJ al hd.size bk
   have ay:N=l.length:=by
    rcases Nat.lt_or_ge N l.length with h | h
    ·have:=hN N (Nat.le_refl _) h;rw[T N h] at this;cases this
    ·omega
   have aq:=aj fun i hi=>T i (by omega);rw[ay,List.drop_of_length_le (Nat.le_refl _)] at hB;exact hq _ a w hB aq
  ·obtain⟨h1,h2,h3⟩:=zER hi
   have ah:i<listed.size:=by rw[hd.size];exact h1
   have ad:=List.getElem?_eq_getElem h1;have az:listed.getD i false=false:=by simpa[Array.getD_eq_getD_getElem?,ah] using h2
   have bw:listed[i]? =some false:=by
    have:listed[i]=false:=by simpa[Array.getD_eq_getD_getElem?,ah] using az
    rw[Array.getElem?_eq_getElem ah,this]
   by_cases bi:i<N
   ·have cb:i<Y.length:=by omega
    have H:=List.getElem?_eq_getElem cb;obtain⟨ck,cm,bc⟩:=hA i _ _ bi ad H;have bp:∀t∈(l[i]).looksAt l.toArray,S'.get t=(zH6 S (Y.take i)).get t:=by
     intro t ht;have ar:∀(a b:Nat) p q,(Y.take i)[a]? =some p→(Y.take i)[b]? =some q→a≠b→p.1≠q.1:=by
      intro a b p q H am ba;rw[List.getElem?_take] at H am;split at H
      ·split at am
       ·exact G a b p q H am ba
       ·cases am
      ·cases H
     obtain⟨g1,g2⟩:=zOR (Y.take i) S ar;have O:∀(k:Nat) p,(Y.take i)[k]? =some p→k<i∧Y[k]? =some p:=by
      intro k p z;rw[List.getElem?_take] at z;split at z
      ·exact⟨by assumption,z⟩
      ·cases z
     by_cases an:∃(j:Nat) (q:Nat×AV),Y[j]? =some q∧q.1=t
     ·obtain⟨j,q,ai,rfl⟩:=an
      obtain⟨o',bb,bt,br⟩:=ab j q ai;have bh:dstAt l j=some q.1:=by simp[dstAt,bb,br]
      by_cases bj:j=i
      ·subst bj
       rw[hL.no q.1 (fun k p z Z he=>by
         have:k=j:=by
          rcases Nat.decEq k j with h | h
          ·exact absurd he (G k j p q z ai h)
          ·exact h
         subst this;rw[az] at Z;cases Z),
        g2 q.1 (fun k p z he=>by
         obtain⟨bu,ag⟩:=O k p z;exact G k j p q ag ai (by omega) he)]
      ·have:=al.looks i _ bi ad q.1 ht j bt bj bh
       by_cases ao:j<i
       ·simp only[ao,if_true] at this
        have bx:=hd.reach this h3;rw[hL.yes j q ai bx];exact(g1 j q (by rw[List.getElem?_take,if_pos ao];exact ai)).symm
       ·simp only[ao,if_false] at this
        have bz:listed.getD j false=false:=by
         cases hb:listed.getD j false with
         | false=>rfl
         | true=>
          have:=hd.reach this (fun o ho k z=>hd.down j o ho hb k z);rw[az] at this;cases this
        rw[hL.no q.1 (fun k p z Z he=>by
          have:k=j:=by
           rcases Nat.decEq k j with h | h
           ·exact absurd he (G k j p q z ai h)
           ·exact h
          subst this;rw[bz] at Z;cases Z),
         g2 q.1 (fun k p z he=>by
          obtain⟨bu,ag⟩:=O k p z;exact G k j p q ag ai (by omega) he)]
     ·have ap:∀(k:Nat) p,Y[k]? =some p→p.1≠t:=fun k p z e=>an ⟨k,p,z,e⟩
      rw[hL.no t (fun k p z _=>ap k p z),g2 t (fun k p z=>ap k p (O k p z).2)]
    have aq:=bc S' (by rw[zFQ,hL.blks]) bp;unfold wpOpIn;simp only[List.getElem?_toArray,ad];refine aq a w _ Q hs fun a' w' ce=>?_;refine ih _ (S'.put Y[i].1 Y[i].2) a' w' (hd.set h3) (by have:=zMS bw;omega) (fun k z bv=>?_) ⟨hL.blks,fun k p z Z=>?_,fun t ht=>?_⟩ ce
    ·rw[zCN ah,if_neg (by omega)];exact hN k z bv
    ·rw[zCN ah] at Z
     rw[vX];by_cases e:i=k
     ·subst e
      rw[H] at z;cases z;simp
     ·simp only[e,if_false] at Z
      rw[if_neg (G i k _ p H z e)];exact hL.yes k p z Z
    ·rw[vX,if_neg (ht i _ H (by rw[zCN ah];simp))]
     exact hL.no t fun k p z Z=>ht k p z (by rw[zCN ah];split<;>simp_all)
   ·have ac:∀k,k<i→listed.getD k false=true:=fun k z=>hd.reach (al.tail i _ (by omega) ad k z) h3
    have ch:i=N:=by
     rcases Nat.lt_or_ge N i with h | h
     ·have:=ac N h;rw[hN N (Nat.le_refl _) (by omega)] at this;cases this
     ·omega
    have aq:=aj fun k z=>ac k (by omega);have bd:=yBS (P:=P) (r:=r) al hq (fuel+1) N listed (zH6 S Y) a w (Nat.le_refl _) hd hu (fun k z=>⟨fun ag=>(by
      rcases Nat.lt_or_ge k N with h | h
      ·exact h
      ·rw[hN k h z] at ag;cases ag),fun ag=>ac k (by omega)⟩) hB aq
    exact bd.2 i hi
theorem zDG {id:Nat} {K:Exit→AState→Prop} {S:AState} (N:Nat) (hm:P.follows .mixedOrders=true) (k:zX6 l N=true)
  (h:DA P r E l.toArray (l.take N) S (fun T=>Sq P r E l.toArray (l.drop N) T (K .normal))):Avc P r E (.region id l.toArray true) K S:=by
 intro a w hs;have H:=z0X k;obtain⟨O,Y,Z,h3⟩:=DA.list _ h;have z:O.length=N:=by rw[Y,List.length_take];have:=H.le;omega
 refine wpIn_region_any hm (z8Q H (J:=K .normal) (fun S' a' w' hj G=>⟨S',hj,G⟩) S O z (fun i o p hi ho hp=>h3 i o p (by rw[List.getElem?_take,if_pos hi];exact ho) hp) Z _ _ S a _ ⟨by simp,fun i o _ hi=>?_⟩ ?_ (fun i _ hi=>by simp[hi]) ⟨rfl,fun i p _ hi=>?_,fun t _=>rfl⟩ (zTC hs))
 ·simp[Array.getD_eq_getD_getElem?,Array.getElem?_replicate] at hi
  split at hi<;>simp at hi
 ·simp[unl]
 ·simp[Array.getD_eq_getD_getElem?,Array.getElem?_replicate] at hi
  split at hi<;>simp at hi
end
end Go.AV
namespace Go.AV
open Go.RowKit
def di (n:Int):DV:= .v (.int .i64 n)
def db (b:Bool):DV:= .v (.bool b)
def DV.ints (l:List Int):DV:= .sl 1 (l.map di)
theorem w64 {n:Int} (h: -9223372036854775808≤n) (k:n≤9223372036854775807):IntKind.i64.wrap n=n:=IntWalk.i64_in _ (by omega)
def Cov (S:AState):List (Nat×AV)→Prop
 | []=>True
 | p::r=>S.get p.1=p.2∧Cov S r
def zOS (S:AState):List (Nat×Blk)→Prop
 | []=>True
 | p::r=>S.blk p.1=p.2∧zOS S r
theorem zOT {E : Env} {S S' : AState} (ht : Cov S S'.tmps) (hb : zOS S S'.blks) (hgh : ∀ C w, E.fr S.ghost C w → E.fr S'.ghost C w := by exact fun _ _ h => h) : zE3 E S S' := by
  have h1 : ∀ l, Cov S l → ∀ p ∈ l, S.get p.1 = p.2 := by
    intro l
    induction l with
    | nil => intro _ p hp; cases hp
    | cons q l ih => intro h p hp; rcases List.mem_cons.1 hp with rfl | hp
                     · exact h.1
                     · exact ih h.2 p hp
  have h2 : ∀ l, zOS S l → ∀ p ∈ l, S.blk p.1 = p.2 := by
    intro l
    induction l with
    | nil => intro _ p hp; cases hp
    | cons q l ih => intro h p hp; rcases List.mem_cons.1 hp with rfl | hp
                     · exact h.1
                     · exact ih h.2 p hp
  exact yGJ (fun p hp => .inl (h1 _ ht p hp)) (h2 _ hb) hgh
section
variable {P:Program} {r:Option Nat} {E:Env} {S:AState} {d:Nat} {ty:TypeId} {pos:String} {af:Array Edge} {g:Option (Nat×Bool)}
theorem zES {x:Operand} {y:AV} (h:d<E.n) (k:S.ev x=y):AOp P r E S ⟨some d,.move x,ty,pos,af,g⟩ d y:=k▸yK0 h
theorem zI2 {x:Operand} {y:AV} (h:d<E.n) (k:S.ev x=y):AOp P r E S ⟨some d,.assign x,ty,pos,af,g⟩ d y:=k▸yBR h
theorem zS {x:Operand} {y:DV} (h:d<E.n) (k:S.ev x= .d y):AOp P r E S ⟨some d,.move x,ty,pos,af,g⟩ d (.d y):=zES h k
theorem zFR {x:Operand} {i:Nat} (h:d<E.n) (k:S.ev x= .row i):AOp P r E S ⟨some d,.move x,ty,pos,af,g⟩ d (.row i):=zES h k
theorem zNX {x:Operand} {i k:Nat} (h:d<E.n) (z:S.ev x= .ptr i k):AOp P r E S ⟨some d,.move x,ty,pos,af,g⟩ d (.ptr i k):=zES h z
theorem z8R {x:Operand} {c:List DV} {k:Nat} (h:d<E.n) (z:S.ev x= .ip c k):AOp P r E S ⟨some d,.move x,ty,pos,af,g⟩ d (.ip c k):=zES h z
theorem zH7 {x:Operand} {c:List DV} (h:d<E.n) (k:S.ev x= .tup c):AOp P r E S ⟨some d,.move x,ty,pos,af,g⟩ d (.tup c):=zES h k
theorem xH {x:Operand} {y:DV} (h:d<E.n) (k:S.ev x= .d y):AOp P r E S ⟨some d,.assign x,ty,pos,af,g⟩ d (.d y):=zI2 h k
theorem zX7 {x:Operand} {i:Nat} (h:d<E.n) (k:S.ev x= .row i):AOp P r E S ⟨some d,.assign x,ty,pos,af,g⟩ d (.row i):=zI2 h k
theorem zDS {x:Operand} {i k:Nat} (h:d<E.n) (z:S.ev x= .ptr i k):AOp P r E S ⟨some d,.assign x,ty,pos,af,g⟩ d (.ptr i k):=zI2 h z
section
variable {ops:Array Oper} {o:Oper} {rest:List Oper} {J:AState→Prop} {j t:Nat} {want b c:Bool} {x:AV}
theorem yGK (H:o.guard=some (j,want)) (O:(ops[j]?).bind (·.dst)=some t) (G:o.dst=some d) (T:d<E.n) (z:t<E.n) (Y:S.get t= .d (.v (.bool b)))
    (h:gd want b=true→AOp P r E S o d x) (k:Sq P r E ops rest (S.put d (.cond (gd want b) x)) J):Sq P r E ops (o::rest) S J:=yK4 (z0W H O G T z Y h) k
theorem jM (H:o.guard=some (j,want)) (O:(ops[j]?).bind (·.dst)=some t) (G:o.dst=some d) (T:d<E.n) (z:t<E.n) (Y:S.get t= .cond c (.d (.v (.bool b))))
    (h:(c&&gd want b)=true→AOp P r E S o d x) (k:Sq P r E ops rest (S.put d (.cond (c&&gd want b) x)) J):Sq P r E ops (o::rest) S J:=yK4 (zWH H O G T z Y h) k
theorem yNQ (H:o.guard=some (j,want)) (O:(ops[j]?).bind (·.dst)=some t) (G:o.dst=some d) (T:d<E.n) (z:t<E.n) (Y:S.get t= .d (.v (.bool b)))
    (h:gd want b=true→AOp P r E S o d x) (k:DA P r E ops rest (S.put d (.cond (gd want b) x)) J):DA P r E ops (o::rest) S J:=yK5 (z0W H O G T z Y h) k
theorem zD2 (H:o.guard=some (j,want)) (O:(ops[j]?).bind (·.dst)=some t) (G:o.dst=some d) (T:d<E.n) (z:t<E.n) (Y:S.get t= .cond c (.d (.v (.bool b))))
    (h:(c&&gd want b)=true→AOp P r E S o d x) (k:DA P r E ops rest (S.put d (.cond (c&&gd want b) x)) J):DA P r E ops (o::rest) S J:=yK5 (zWH H O G T z Y h) k
end
def yNR (P:Program) (r:Option Nat) (E:Env) (y:Code) (K:Exit→AState→Prop):Exit→AState→Prop
 | .normal,S=>Avc P r E y K S
 | e,S=>K e S
theorem z8 {x y:Code} {K:Exit→AState→Prop} (h:Avc P r E x (yNR P r E y K) S):Avc P r E (.seq x y) K S:=
 yGI fun J z=>z0M h fun e S' k=>by
  cases e with
  | normal=>exact z S' k
  | _=>exact k
theorem zX {id:Nat} {l:List Oper} {K:Exit→AState→Prop} (z:P.follows .mixedOrders=true) (k:zX6 l l.length=true) (h:DA P r E l.toArray l S (K .normal)):Avc P r E (.region id l.toArray true) K S:=
 zDG l.length z k (by rw[List.take_length,List.drop_length];exact h)
theorem zHE {c:Operand} {x y:Code} {K:Exit→AState→Prop} {b:Bool} (k:S.ev c= .d (.v (.bool b))) (h:(b=true→Avc P r E x K S)∧(b=false→Avc P r E y K S)):Avc P r E (.cond c x y) K S:=
 yBQ k h.1 h.2
end
def AState.app (S:AState) (id:Nat) (news:List DV):AState:=S.setBlk id ((S.blk id).appended news)
section
variable {P:Program} {r:Option Nat} {E:Env} {S:AState} {d:Nat} {ty:TypeId} {pos:String} {af:Array Edge} {g:Option (Nat×Bool)}
theorem yBT (S:AState) (id:Nat) (news:List DV):(S.kill id).app id news=(S.kill id).setBlk id (zSE id (S.blk id) |>.appended news):=by unfold AState.app;rw[zH2]
theorem yBU {t e size bytes:Nat} {z:Value} {s x:Operand} {id:Nat} {sh:Bool} {cells news:List DV} {n m:Nat} (hn:d<E.n) (Z:SlTy P t e size bytes z) (hs:S.ev s= .row id) (hb:S.blk id= .row e size sh cells)
  (hx:S.dv (S.ev x)=some (.sl size news)) (hl:cells.length=n*size) (O:news.length=m*size) (H:0<bytes) (h:(n+m)*bytes≤140737488355328) (Y:E.wrB=true) (T:E.nm id=none):
  k4 P r E ⟨some d,.call {callee:= .builtin .append,args:= #[s,x],argTypes:= #[t,t]},ty,pos,af,g⟩ S ((((S.shareAV (S.ev x)).kill id).app id news).put d (.row id)):=by
 have k:n+m≤maxLen:=by
  have:(n+m)*1≤(n+m)*bytes:=Nat.mul_le_mul_left _ H;simp only[maxLen];omega
 have:=z0P (P:=P) (r:=r) (ty:=ty) (pos:=pos) (af:=af) (g:=g) hn Z hs hb hx hl O h k Y T;rw[yBT];obtain⟨ag,G⟩:=zNJ (x:=S.ev x) hb;rw[G] at this ⊢;exact this
theorem z31 {t e size bytes:Nat} {z:Value} {s x:Operand} {id:Nat} {sh:Bool} {cells news:List DV} {n m:Nat} (hn:d<E.n) (Y:SlTy P t e size bytes z) (hs:S.ev s= .row id) (hb:S.blk id= .row e size sh cells)
  (O:S.ev x= .d (.sl size news)) (Z:cells.length=n*size) (G:news.length=m*size) (k:0<bytes) (h:(n+m)*bytes≤140737488355328) (T:E.wrB=true) (H:E.nm id=none):
  k4 P r E ⟨some d,.call {callee:= .builtin .append,args:= #[s,x],argTypes:= #[t,t]},ty,pos,af,g⟩ S (((S.kill id).app id news).put d (.row id)):=by
 have:=yBU (P:=P) (r:=r) (ty:=ty) (pos:=pos) (af:=af) (g:=g) hn Y hs hb (by rw[O];rfl) Z G k h T H
 rw[O] at this;exact this
theorem zNK {t:TypeId} {x y:Operand} {id off eb:Nat} {cells:List AV} {u:DV} (H:OneTy P t) (O:S.ev x= .ptr id off) (hb:S.blk id= .box eb cells) (h:off<cells.length)
  (k:S.ev y= .d u) (z:(AV.d u).one=true) (G:E.wrB=true):k4 P r E ⟨none,.store t x y,ty,pos,af,g⟩ S (S.setBlk id (.box eb (cells.set off (.d u)))):=by
 have:=zH3 (P:=P) (r:=r) (E:=E) (ty:=ty) (pos:=pos) (af:=af) (g:=g) (y:=y) H O hb h (by rw[k];exact z) (by rw[k];rfl) G
 rwa [k] at this
theorem zRS {t:TypeId} {x y:Operand} {id off eb i:Nat} {cells:List AV} (H:OneTy P t) (O:S.ev x= .ptr id off) (hb:S.blk id= .box eb cells) (h:off<cells.length)
  (k:S.ev y= .row i) (z:zV5 S (.row i)=true) (G:E.wrB=true):k4 P r E ⟨none,.store t x y,ty,pos,af,g⟩ S (S.setBlk id (.box eb (cells.set off (.row i)))):=by
 have:=zH3 (P:=P) (r:=r) (E:=E) (ty:=ty) (pos:=pos) (af:=af) (g:=g) (y:=y) H O hb h (by rw[k];rfl) (by rw[k];exact z) G
 rwa [k] at this
theorem z32 {f:FuncId} {xs:List Operand} {ats:Array TypeId} {h:List AV} {ds G:List DV} (O:d<E.n) (z:xs.map S.ev=h) (k:S.dvL h=some ds) (H:zE P f ds G) (hG:E.gdt=zBO P:=by rfl):
  k4 P r E ⟨some d,.call {callee:= .value (.func f),args:=xs.toArray,argTypes:=ats},ty,pos,af,g⟩ S ((S.shareL h).put d (zV7 G)):=by
 subst z;exact zV8 O k H hG
theorem SatAt.newImm {A:Act} {w:World} {I:Im} {ρ:Nat→Value} {C:Nat→Prop} (H:SatAt E S A w I ρ C) {e size n:Nat} {xs:List Value} {cells:List DV} (T:cells.length=n*size) (G:Reps w I xs cells) (Z:∀x∈xs,x.oneCell'=true):
  ∃z:Im,SatAt E S A (w.alloc (.cells xs.toArray e)) z ρ C∧Rep (w.alloc (.cells xs.toArray e)) z (.slice (some ⟨w.heap.size,0,none⟩) n n) (.sl size cells):=by
 have O:∀b j,I b j→b<w.heap.size:=fun b j h=>(H.old b j h).1;have hg:=H.grow (w':=w.alloc (.cells xs.toArray e)) ((Below.refl _ _).alloc (Nat.le_refl _) _)
 let z:Im:=fun b j=>I b j∨b=w.heap.size
 have k:∀b j,I b j→z b j:=fun _ _ h=> .inl h;refine⟨z,hg.widen (B:=w.heap.size) k (fun b j hi=>?_) (fun i b hi hb=>(H.blt i b hi hb).2) (E.size _ _ _ H.frame) (fun b hc=>E.csize _ _ _ H.frame b hc),?_⟩
 ·rcases hi with hi | hi
  ·exact⟨by simp;have:=O b j hi;omega,.inl hi⟩
  ·exact⟨by simp;omega,.inr (by omega)⟩
 ·by_cases Y:n=0
  ·subst Y
   have:cells= []:=List.eq_nil_of_length_eq_zero (by simpa using T);subst this;exact .nil _ _ _
  ·refine .sl _ 0 n n size xs cells (by omega) (Nat.le_refl _) T G.1 (fun j x hj=>⟨?_,.inr rfl⟩) Z (G.mono (zEQ _ O) k).2
   rw[Nat.zero_add,World.cell?_alloc_new];simpa using hj
theorem yBV {t e size bytes:Nat} {z:Value} {len:Nat} {O:List (Nat×Operand)} {ds:List DV} (hn:d<E.n) (hT:SlTy P t e size bytes z) (H:O=zA2 0 (O.map Prod.snd)) (Z:O.length=len)
    (T:unD ((O.map Prod.snd).map S.ev)=some ds) (ak:ds.all (okDV size)=true) (ba:len*size≤16777216):
    k4 P r E ⟨some d,.buildSlice t len O.toArray,ty,pos,af,g⟩ S (S.put d (.d (.sl size (ds.flatMap vH)))):=
  wM (by simp) fun A w I ρ C hs=>by
    generalize am:O.map Prod.snd=xs at H T;obtain⟨ah,ai⟩:=zH5 S T;obtain⟨I1,h1,h2,h3⟩:=SatAt.dvL _ hs (zBC hs xs) ah;rw[ai] at h2;obtain⟨a1,a2,a3,a4⟩:=zQA h3 ak;have G:(xs.map A.eval).length=len:=by rw[←Z,←am];simp
    have aj:ds.length=len:=by rw[←h3.1];exact G
    obtain⟨I2,ad,ac⟩:=h2.newImm (e:=e) (size:=size) (n:=len) (by rw[a4,aj]) a1 a2;refine⟨.slice (some ⟨w.heap.size,0,none⟩) len len,_,?_,I2,_,C,ad.put hn ac⟩;obtain⟨i,hi,hz,az,ax⟩:=hT.info;have k:=z0R size (xs.map A.eval) 0 ((Array.range (len*size)).map ((if len*size=0 then (#[]:Array Value) else z.cells)[· % (if len*size=0 then (#[]:Array Value) else z.cells).size]!)) a3 (by simp[←G]);have aa:O.toArray.map (fun p:Nat×Operand=>(p.1,A.eval p.2))=(zA2 0 (xs.map A.eval)).toArray:=by
      rw[H,List.map_toArray,zKI]
    have ab:¬(len*size > 2 ^ 24):=by omega
    simp only[Nat.zero_mul,List.take_zero,List.nil_append,Nat.zero_add,G] at k;rw[List.drop_of_length_le (by simp)] at k;simp only[List.append_nil] at k ⊢;simp only[execOp,Instr.buildSlice,Sem.run_bind,run_underlying hT.und,Result.andThen_ok,hT.size w,ab,if_false,Sem.run_pure];by_cases h0:len*size=0
    · have Y:len=0:=by
        rcases Nat.mul_eq_zero.1 h0 with h | h
        · exact h
        · have:=hT.pos;omega
      have al:xs= []:=List.eq_nil_of_length_eq_zero (by simpa[Y] using G);subst al;subst Y;simp[aa,zA2,Instr.fill,newRow,Array.range_zero']
    · simp only[h0,if_false] at k ⊢
      simp[zeroValue,typeInfo,hi,hz,aa,k,newRow]
theorem z0Y {t e size bytes:Nat} {z:Value} {len:Nat} {k:List (Nat×Operand)} {ds cells:List DV} (Z:d<E.n) (hT:SlTy P t e size bytes z) (H:k=zA2 0 (k.map Prod.snd)) (G:k.length=len)
  (O:unD ((k.map Prod.snd).map S.ev)=some ds) (T:ds.all (okDV size)=true) (Y:len*size≤16777216) (hc:ds.flatMap vH=cells):
  AOp P r E S ⟨some d,.buildSlice t len k.toArray,ty,pos,af,g⟩ d (.d (.sl size cells)):=
 ⟨rfl,Z,fun S' h=>by
  subst hc;have he:(k.map Prod.snd).map S'.ev=(k.map Prod.snd).map S.ev:=List.map_congr_left fun x hx=>h.ev (by simp[Op.operands];simpa using hx)
  exact yBV Z hT H G (by rw[he];exact O) T Y⟩
theorem yGL {t id e size:Nat} {sh:Bool} {cells k:List DV} (h:(S.get t).un= .row id) (hb:S.blk id= .row e size sh cells) (z:cells=k):RetS P S [.tmp t] [.sl size k]:=
 ⟨_,[],rfl,by rw[h,←z];simp[AState.dv,hb],rfl⟩
theorem zX8 {k:IntKind} {n m:Int} (h:n=m):AV.d (.v (.int k n))=AV.d (.v (.int k m)):=by rw[h]
theorem zX9 {e size:Nat} {sh:Bool} {c k:List DV} (h:c=k):Blk.row e size sh c=Blk.row e size sh k:=by rw[h]
theorem z0Z {ι:Type} {T: ι→AState} {h: ι→Prop} {k: ι→Nat} {i j: ι} {K:Exit→AState→Prop} (G:h j) (z: k j<k i) (H:zE3 E S (T j)):
  yBO (fun S'=> ∃j,h j∧k j<k i∧zE3 E S' (T j)) K .normal S:=⟨j,G,z,H⟩
end
end Go.AV
namespace Go.AV
open Go.RowKit
def dby (n:Int):DV:= .v (.int .u8 n)
def DV.bytes (l:List Int):DV:= .sl 1 (l.map dby)
section
variable {P:Program} {r:Option Nat} {E:Env} {S:AState} {d:Nat} {ty:TypeId} {pos:String} {af:Array Edge} {g:Option (Nat×Bool)}
theorem yNS {k:IntKind} {x y:Operand} {a b:Int} {ats:Array TypeId} (H:d<E.n) (T:S.ev x= .d (.v (.int k a))) (Y:S.ev y= .d (.v (.int k b))):
  AOp P r E S ⟨some d,.call {callee:= .builtin .min,args:= #[x,y],argTypes:=ats},ty,pos,af,g⟩ d (.d (.v (.int k (min a b)))):=
 ⟨rfl,H,fun S' h=>kR rfl H (by simp) fun A w I ρ C O=>by
  have z:=(h.ev (x:=x) (by simp[Op.operands,Call.operands])).trans T;have G:=(h.ev (x:=y) (by simp[Op.operands,Call.operands])).trans Y;simp only[execOp,resolve,List.map_toArray,List.map_cons,List.map_nil,O.val z,O.val G];simp[invoke,builtin,Builtin.min_,Builtin.min2];split<;>omega⟩
theorem z58 {k:IntKind} {x y:Operand} {a b:Int} {ats:Array TypeId} (H:d<E.n) (T:S.ev x= .d (.v (.int k a))) (Y:S.ev y= .d (.v (.int k b))):
  AOp P r E S ⟨some d,.call {callee:= .builtin .max,args:= #[x,y],argTypes:=ats},ty,pos,af,g⟩ d (.d (.v (.int k (max a b)))):=
 ⟨rfl,H,fun S' h=>kR rfl H (by simp) fun A w I ρ C O=>by
  have z:=(h.ev (x:=x) (by simp[Op.operands,Call.operands])).trans T;have G:=(h.ev (x:=y) (by simp[Op.operands,Call.operands])).trans Y;simp only[execOp,resolve,List.map_toArray,List.map_cons,List.map_nil,O.val z,O.val G];simp[invoke,builtin,Builtin.max_,Builtin.max2];split<;>omega⟩
theorem z8S {x y:Operand} {a b c:Int} {tx tz:TypeId} (G:d<E.n) (T:S.ev x= .d (.v (.int .u64 a))) (Y:S.ev y= .d (.v (.int .u64 b))) (O:∀w,(Op.intBits .and .u64 a b).run P w= .ok (.int .u64 c) w):
  AOp P r E S ⟨some d,.binOp .and tx x y tz,ty,pos,af,g⟩ d (.d (.v (.int .u64 c))):=
 ⟨rfl,G,fun S' h=>kR rfl G (by simp) fun A w I ρ C H=>by
  have k:=(h.ev (x:=x) (by simp[Op.operands])).trans T;have z:=(h.ev (x:=y) (by simp[Op.operands])).trans Y;simp only[execOp,H.val k,H.val z];simp[binOp,eqGuard,O]⟩
theorem yBW {t:TypeId} {x O:Operand} {s:ByteArray} {k:Nat} {kk:IntKind} {i:Int} (T:d<E.n) (hu:P.underlying t=some .string) (hx:S.ev x= .d (.v (.string s))) (hi:S.ev O= .d (.v (.int kk i))) (hk:i=(k:Int)) (z:k<s.size):
  AOp P r E S ⟨some d,.index t x O,ty,pos,af,g⟩ d (.d (.v (.int .u8 (s.data.toList.getD k 0).toNat))):=
 ⟨rfl,T,fun S' h=>kR rfl T (by simp) fun A w I ρ C Y=>by
  subst hk;have H:=(h.ev (x:=x) (by simp[Op.operands])).trans hx;have G:=(h.ev (x:=O) (by simp[Op.operands])).trans hi;have Z:s[k]? =some (s.data.toList.getD k 0):=by
   have h2:k<s.data.size:=z;have:s[k]? =some s[k]:=by simp[getElem?_pos,z]
   rw[this];simp only[List.getD,Array.getElem?_toList,Array.getElem?_eq_getElem h2];rfl
  simp only[execOp,Y.val H,Y.val G];simp[Instr.index,asIntOf,run_underlying hu,Z]⟩
theorem yBX {w:World} {I:Im} {v:Value} {l:List Int} {z k e:TypeId} (hs:P.underlying z=some (.slice e)) (Z:P.underlying e=some (.int .u8)) (Y:P.underlying k=some .string) (h:Rep w I v (.sl 1 (l.map dby))):
  (convert z k v).run P w= .ok (.string (strOfNums l)) w:=by
 obtain⟨A,n,c,xs,rfl,_,hl,H,h1,hc⟩:=Rep.sl_inv h;have ac:xs=l.map (Value.int .u8):=by
  apply List.ext_getElem?;intro j;by_cases hj:j<xs.length
  ·have G:j<(l.map dby).length:=by rw[←H.1];exact hj
   have:=H.2 j _ _ (List.getElem?_eq_getElem hj) (List.getElem?_eq_getElem G);simp only[List.getElem_map] at this;rw[List.getElem?_eq_getElem hj];generalize xs[j]=u at this;unfold dby at this;cases this;simp only[List.length_map] at G;simp[G]
  ·rw[List.getElem?_eq_none (by omega),List.getElem?_eq_none]
   have:=H.1;simp at this ⊢;omega
 have O:l.length=n:=by simpa using hl
 by_cases h0:n=0
 ·subst h0
  have:l= []:=List.eq_nil_of_length_eq_zero O;subst this;cases A with
  | none=>rw[run_convert_bytes_nil w z e hs Z 0 c k Y];rfl
  | some a=>
   rw[run_convert_bytes_string w z k e _ 0 c hs Z Y];simp[Conv.bytesToString,loadCells,loadCellsFrom];rfl
 ·obtain⟨b,off,rfl,T⟩:=hc (by omega)
  refine run_convert_bytes_arg w z e hs Z b off n c l O (fun i hi=>?_) k Y;refine(T i _ ?_).1;rw[ac];have:i<l.length:=by omega
  simp[List.getD,this]
theorem zTE {H z e:TypeId} {x:Operand} {id eb:Nat} {sh:Bool} {l:List Int} (T:d<E.n) (hs:P.underlying H=some (.slice e)) (Y:P.underlying z=some .string) (Z:P.underlying e=some (.int .u8)) (hx:S.ev x= .row id)
  (hb:S.blk id= .row eb 1 sh (l.map dby)):AOp P r E S ⟨some d,.convert H z x,ty,pos,af,g⟩ d (.d (.v (.string (strOfNums l)))):=
 ⟨rfl,T,fun S' h=>kR rfl T (by simp) fun A w I ρ C k=>by
  have O:=k.ev x;rw[(h.ev (x:=x) (by simp[Op.operands])).trans hx] at O;obtain⟨I',_,_,G⟩:=k.shareRow ((h.blk id).trans hb);have hv:A.eval x= ρ id:=O;simp only[execOp,Sem.run_bind,hv,yBX hs Z Y G];rfl⟩
theorem xC (w:World) (k:IntKind) (i y:Nat) (z:BoundsCode) (h:i≤y):(Instr.sliceBound (.int k i) y z).run P w= .ok i w:=by simp[Instr.sliceBound,asIntOf,h]
structure Bd (S:AState) (n:Nat) (lo hi:Option Operand) (l h:Nat):Prop where
 lo:match lo with
  | none=>l=0
  | some x=> ∃k i,S.ev x= .d (.v (.int k i))∧i=(l:Int)
 hi:match hi with
  | none=>h=n
  | some x=> ∃k i,S.ev x= .d (.v (.int k i))∧i=(h:Int)
 le:l≤h
 len:h≤n
theorem zMT (w:World) {t e size:Nat} (Y:P.underlying t=some (.slice e)) (O:(sizeOf e).run P w= .ok size w) (A:Option Addr) (n c l h:Nat) (lo hi:Option Value) (H:lo=none∧l=0∨∃k,lo=some (.int k l)) (G:hi=none∧h=n∨∃k,hi=some (.int k h))
    (z:l≤h) (hn:h≤n) (Z:n≤c):(Instr.sliceAt t (.slice A n c) lo hi none).run P w= .ok (.slice (if c=l then A else A.map (·.add (l*size))) (h-l) (c-l)) w:=by
  have hb:(Instr.sliceBounds true n c lo hi none).run P w= .ok (l,h,c) w:=by
    rcases H with ⟨rfl,rfl⟩ | ⟨k,rfl⟩<;>rcases G with ⟨rfl,rfl⟩ | ⟨T,rfl⟩
    · simp[Instr.sliceBounds]
    · simp[Instr.sliceBounds,xC (P:=P) w T h c _ (by omega)]
    · simp[Instr.sliceBounds,xC (P:=P) w k l h _ z]
    · simp[Instr.sliceBounds,xC (P:=P) w T h c _ (by omega),xC (P:=P) w k l h _ z]
  simp[Instr.sliceAt,Instr.slice,run_underlying Y,hb,O]
theorem Bd.vals {n l h:Nat} {lo hi:Option Operand} (hb:Bd S n lo hi l h) {A:Act} {w:World} {I:Im} {ρ:Nat→Value} {C:Nat→Prop} (G:SatAt E S A w I ρ C):
  (lo.map A.eval=none∧l=0∨∃k,lo.map A.eval=some (.int k l))∧(hi.map A.eval=none∧h=n∨∃k,hi.map A.eval=some (.int k h)):=by
 constructor
 ·cases lo with
  | none=>exact .inl ⟨rfl,hb.lo⟩
  | some x=>obtain⟨k,i,z,rfl⟩:=hb.lo;exact .inr ⟨k,by simp[G.val z]⟩
 ·cases hi with
  | none=>exact .inl ⟨rfl,hb.hi⟩
  | some x=>obtain⟨k,i,z,rfl⟩:=hb.hi;exact .inr ⟨k,by simp[G.val z]⟩
theorem Bd.agree {n l h:Nat} {lo hi:Option Operand} {t:TypeId} {x:Operand} {O:Option Operand} {S':AState} (hb:Bd S n lo hi l h) (H:Agree S S' ⟨some d,.slice t x lo hi O,ty,pos,af,g⟩):Bd S' n lo hi l h:=by
 refine⟨?_,?_,hb.le,hb.len⟩;cases lo with
 | none=>exact hb.lo
 | some y=>obtain⟨k,i,z,G⟩:=hb.lo;exact⟨k,i,(H.ev (by simp[Op.operands])).trans z,G⟩
 cases hi with
 | none=>exact hb.hi
 | some y=>obtain⟨k,i,z,G⟩:=hb.hi;exact⟨k,i,(H.ev (by simp[Op.operands])).trans z,G⟩
theorem zWK {w:World} {I:Im} {A:Option Addr} {n c l h size:Nat} {cells:List DV} (hr:Rep w I (.slice A n c) (.sl size cells)) (hl:cells.length=n*size) (hp:0<size) (ag:l≤h) (hn:h≤n):
    Rep w I (.slice (if c=l then A else A.map (·.add (l*size))) (h-l) (c-l)) (.sl size ((cells.take (h*size)).drop (l*size))):=by
  by_cases Z:h-l=0
  · have:(cells.take (h*size)).drop (l*size)= []:=by
      apply List.drop_of_length_le;rw[List.length_take];have:h*size≤l*size:=Nat.mul_le_mul_right _ (by omega);omega
    rw[this,Z];exact .nil _ _ _
  · obtain⟨A',n',c',xs,hv,Y,ad,T,h1,O⟩:=Rep.sl_inv hr
    cases hv;obtain⟨b,off,rfl,H⟩:=O (by omega);rw[if_neg (by omega)];simp only[Option.map_some,w9];have ab:h*size≤n*size:=Nat.mul_le_mul_right _ hn;have z:((cells.take (h*size)).drop (l*size)).length=(h-l)*size:=by
      rw[List.length_drop,List.length_take,hl,Nat.sub_mul];omega
    have k:=(T.take (h*size)).drop (l*size);refine .sl b (off+l*size) (h-l) (c-l) size ((xs.take (h*size)).drop (l*size)) _ (by omega) (by omega) z k.1 (fun j x G=>?_) (fun x hx=>h1 x (List.mem_of_mem_take (List.mem_of_mem_drop hx))) k.2;rw[List.getElem?_drop,List.getElem?_take] at G;split at G
    · rw[Nat.add_assoc];exact H _ x G
    · cases G
theorem zWL {t e size bytes:Nat} {z:Value} {x:Operand} {lo hi:Option Operand} {cells k:List DV} {n l h:Nat} (hn:d<E.n) (O:SlTy P t e size bytes z) (hx:S.ev x= .d (.sl size cells)) (hl:cells.length=n*size)
  (hb:Bd S n lo hi l h) (hc:(cells.take (h*size)).drop (l*size)=k):AOp P r E S ⟨some d,.slice t x lo hi none,ty,pos,af,g⟩ d (.d (.sl size k)):=
 ⟨rfl,hn,fun S' ha=>zW rfl hn (by simp) fun A w I ρ C hs=>by
  have h1:=hs.ev x;rw[(ha.ev (x:=x) (by simp[Op.operands])).trans hx] at h1;have G:Rep w I (A.eval x) (.sl size cells):=h1;obtain⟨A',n',c,xs,hv,H,Y,_⟩:=Rep.sl_inv G;obtain rfl:=zFN Y hl O.pos;obtain⟨Z,T⟩:=(hb.agree ha).vals hs;subst hc;rw[hv] at G;refine⟨_,?_,zWK G hl O.pos hb.le hb.len⟩;simp only[execOp,hv,Sem.run_bind,Option.map_none,zMT w O.und (O.size w) A' n' c l h _ _ Z T hb.le hb.len H];rfl⟩
theorem z59 {w:World} {I:Im} {ρ:Nat→Value} {M:Nat→Prop} {id e size:Nat} {sh:Bool} {cells:List DV} {n:Nat} (h:BlkOk w I ρ M id (.row e size sh cells)) (hl:cells.length=n*size):
  ∃A c,ρ id= .slice A n c∧n≤c∧(0<n→∃b,blockOf (ρ id)=some b∧A=some ⟨b,0,none⟩):=by
 obtain⟨Z,n',xs,G,k,_⟩:=h;obtain rfl:=zFN G hl Z.1;rcases k.2 with ⟨z,rfl⟩ | ⟨Y,O,T,z,_,_,H,_⟩
 ·exact⟨_,_,z,by omega,fun h=>absurd h (by omega)⟩
 ·exact⟨_,_,z,H,fun _=>⟨Y,by rw[z];rfl,rfl⟩⟩
theorem zL0 {t e size bytes:Nat} {z:Value} {x:Operand} {lo hi:Option Operand} {id:Nat} {sh:Bool} {cells:List DV} {n l h:Nat} (hn:d<E.n) (hT:SlTy P t e size bytes z) (hx:S.ev x= .row id) (Z:S.blk id= .row e size sh cells) (hl:cells.length=n*size)
    (hb:Bd S n lo hi l h):AOp P r E S ⟨some d,.slice t x lo hi none,ty,pos,af,g⟩ d (.rs id (l*size) (h-l)):=
  ⟨rfl,hn,fun S' O=>zW rfl hn (by simp) fun A w I ρ C hs=>by
    have h1:=hs.ev x;rw[(O.ev (x:=x) (by simp[Op.operands])).trans hx] at h1;have hv:A.eval x= ρ id:=h1;have hk:=hs.blks id;rw[(O.blk id).trans Z] at hk;obtain⟨H,c,ad,G,k⟩:=z59 hk hl;obtain⟨ab,aa⟩:=(hb.agree O).vals hs;have aj:=hb.len;have am:=hb.le;refine⟨_,?_,(if c=l then H else H.map (·.add (l*size))),c-l,rfl,by omega,fun h0=>?_⟩
    · simp only[execOp,hv,ad,Sem.run_bind,Option.map_none,zMT w hT.und (hT.size w) H n c l h _ _ ab aa hb.le hb.len G]
      rfl
    · obtain⟨b,T,Y⟩:=k (by omega)
      refine⟨b,T,?_⟩;rw[if_neg (by omega),Y];simp[w9]⟩
theorem SatAt.congr' {S':AState} {A:Act} {w:World} {I:Im} {ρ:Nat→Value} {C:Nat→Prop} (h:SatAt E S A w I ρ C) (H:∀t,S'.get t=S.get t) (k:∀i,S'.blk i=S.blk i):SatAt E S' A w I ρ C:=
 ⟨fun t=>by rw[H];exact h.tmps t,fun i=>by rw[k];exact h.blks i,fun i Y b O hi G=>h.dist i Y b O (by rw[←k];exact hi) (by rw[←k];exact G),by have:=h.frame;unfold AState.ghost at this ⊢;rw[H];exact this,h.sub,h.old,h.size,h.defers,h.cI,fun i b hi z=>h.cB i b (by rw[←k];exact hi) z,fun i v T hi=>h.nm i v T (by rw[←k];exact hi)⟩
def spl (cells:List DV) (off:Nat) (news:List DV):List DV:=cells.take off++news++cells.drop (off+news.length)
theorem SatAt.splice {A:Act} {w:World} {I:Im} {ρ:Nat→Value} {C:Nat→Prop} (hs:SatAt E S A w I ρ C) {id e size off b:Nat} {cells news:List DV} {ys:List Value} (hb:S.blk id= .row e size false cells) (z:blockOf (ρ id)=some b)
  (ar:off+news.length≤cells.length) (ag:Reps w I ys news) (ab:∀u∈ys,u.oneCell'=true) (hE:E.wrB=true):
  ∃w',(storeCells ⟨b,off,none⟩ ys).run P w= .ok () w'∧SatAt E (S.setBlk id (.row e size false (spl cells off news))) A w' I ρ C:=by
 have ac:=hs.blks id;rw[hb] at ac;obtain⟨h0,n,xs,hl,O,aa,ao,hI⟩:=ac;rcases O.2 with ⟨Z,_⟩ | ⟨G,ak,k,Z,hB,hh,ad,am,an,ap⟩
 ·rw[Z] at z;cases z
 ·have al:G=b:=by rw[Z] at z;simpa[blockOf] using z
  subst al;have H:∀j,¬I G j:=fun j hj=>by have:=(hI G j (by rw[Z];rfl) hj).1;cases this
  have be:xs.length=n*size:=O.1;have bb:n*size≤k.size:=by rw[an];exact Nat.mul_le_mul_right _ ad
  have aq:ys.length=news.length:=ag.1;have aj:=run_storeCells_at P G off e ys 0 k w hh (by omega) ab;simp only[Nat.add_zero] at aj;have ai:(spl cells off news).length=cells.length:=by simp[spl];omega
  refine⟨_,aj,hs.modify (zAC w G _) (by rw[hb];simp) z (xB H) ⟨h0,n,xs.take off++ys++xs.drop (off+ys.length),by rw[ai,hl],⟨by simp;omega,.inr ⟨G,ak,_,Z,hB,setRow_heap w G k _ e _ hh,ad,am,?_,?_⟩⟩,?_,?_,?_⟩ hE⟩
  ·simp;omega
  ·simp only[←ap]
   rw[List.take_append,List.take_append];simp only[List.length_take,List.length_append,Array.length_toList,List.take_take,List.drop_take];rw[show min (n*size) off=off by omega,show min off k.size=off by omega,show min off (n*size)=off by omega,List.take_of_length_le (l:=ys) (by omega)]
  ·intro v hv'
   rw[List.mem_append,List.mem_append] at hv';rcases hv' with (hv' | hv') | hv'
   ·exact aa v (List.mem_of_mem_take hv')
   ·exact ab v hv'
   ·exact aa v (List.mem_of_mem_drop hv')
  ·have T:=ao.imp fun _ _ h=>Rep.mono h (xB (w:=w) (I:=I) (b:=G) (arr:=(k.toList.take off++ys++k.toList.drop (off+ys.length)).toArray) H) (fun _ _ h=>h)
   have ah:=ag.imp fun _ _ h=>Rep.mono h (xB (w:=w) (I:=I) (b:=G) (arr:=(k.toList.take off++ys++k.toList.drop (off+ys.length)).toArray) H) (fun _ _ h=>h);unfold spl;rw[←aq];exact Pw.append (Pw.append (T.take off) ah) (T.drop (off+ys.length))
  ·intro g' j Y hi
   rw[Z] at Y;simp[Value.ownBlock] at Y;subst Y;exact absurd hi (H j)
theorem zE6 {t e size:Nat} (G:P.underlying t=some (.slice e)) (w w':World) (z:(sizeOf e).run P w= .ok size w) (D B:Option Addr) (n1 c1 m c2:Nat) (ys:List Value)
  (h:(Builtin.firstCells size (Nat.min m n1) (.slice B m c2)).run P w= .ok ys.toArray w) (k:match D with | some a=>(storeCells a ys).run P w= .ok () w' | none=>w'=w):
  (Builtin.copy_ #[t,t] ty #[.slice D n1 c1,.slice B m c2]).run P w= .ok (.int .i64 (Nat.min m n1)) w':=by
 cases D with
 | none=>simp only at k;subst k;simp[Builtin.copy_,run_underlying G,Builtin.lenOf,z,h,goInt]
 | some a=>simp only at k;simp[Builtin.copy_,run_underlying G,Builtin.lenOf,z,h,k,goInt]
theorem zWM {A:Act} {w:World} {I:Im} {ρ:Nat→Value} {C:Nat→Prop} (hs:SatAt E S A w I ρ C) {t e size bytes:Nat} {z:Value} (O:SlTy P t e size bytes z) {id off n1 n m:Nat} {cells news:List DV} (hb:S.blk id= .row e size false cells) (hl:cells.length=n*size)
  {D B:Option Addr} {c1 c2:Nat} (hD:0<n1→∃b,blockOf (ρ id)=some b∧D=some ⟨b,off*size,none⟩) (ag:off+n1≤n) {ys:List Value} (G:Reps w I ys news) (Y:∀u∈ys,u.oneCell'=true) (k:news.length=m*size)
  (hB:0<m→∃b o,B=some ⟨b,o,none⟩∧∀(j:Nat) x,ys[j]? =some x→w.cell? ⟨b,o+j,none⟩=some x) (hE:E.wrB=true):
  ∃w',(Builtin.copy_ #[t,t] ty #[.slice D n1 c1,.slice B m c2]).run P w= .ok (.int .i64 (min m n1:Nat)) w'∧SatAt E (S.setBlk id (.row e size false (spl cells (off*size) (news.take (min m n1*size))))) A w' I ρ C:=by
 have h:Nat.min m n1=min m n1:=rfl;by_cases h0:min m n1=0
 ·refine⟨w,?_,?_⟩
  ·rw[←h]
   refine zE6 O.und w w (O.size w) D B n1 c1 m c2 [] ?_ ?_
   ·rw[h,h0];cases B<;>simp[Builtin.firstCells,loadCells,loadCellsFrom]
   ·cases D<;>simp[storeCells]
  ·rw[h0]
   simp only[Nat.zero_mul,List.take_zero,spl,List.append_nil,List.length_nil,Nat.add_zero,List.take_append_drop];rw[←hb];exact hs.congr' (fun _=>rfl) (fun i=>by rw[yA];split<;>simp_all)
 ·obtain⟨b,ac,rfl⟩:=hD (by omega)
  obtain⟨b2,o2,rfl,Z⟩:=hB (by omega);have al:min m n1*size≤m*size:=Nat.mul_le_mul_right _ (by omega);have am:off*size+min m n1*size≤n*size:=by rw[←Nat.add_mul];exact Nat.mul_le_mul_right _ (by omega)
  have ab:ys.length=m*size:=by rw[G.1,k]
  obtain⟨w',aa,H⟩:=hs.splice (P:=P) (off:=off*size) (news:=news.take (min m n1*size)) (ys:=ys.take (min m n1*size)) hb ac (by rw[List.length_take,k,hl];omega) (G.take _) (fun u hu=>Y u (List.mem_of_mem_take hu)) hE
  refine⟨w',?_,H⟩;rw[←h];refine zE6 O.und w w' (O.size w) _ _ n1 c1 m c2 (ys.take (min m n1*size)) ?_ aa;rw[h];have:=run_firstCells_some (P:=P) w size (min m n1) ⟨b2,o2,none⟩ m c2 (ys.take (min m n1*size)) (by rw[List.length_take,ab];omega) (fun j v T=>by
   rw[w9];rw[List.getElem?_take] at T;split at T
   ·exact Z j v T
   ·cases T)
  exact this
theorem zYA {t e size bytes:Nat} {z:Value} {x y:Operand} {id n m:Nat} {cells news:List DV} (hn:d<E.n) (hT:SlTy P t e size bytes z) (hx:S.ev x= .row id) (hb:S.blk id= .row e size false cells) (hl:cells.length=n*size)
  (hy:S.ev y= .d (.sl size news)) (Y:news.length=m*size) (hE:E.wrB=true):
  k4 P r E ⟨some d,.call {callee:= .builtin .copy,args:= #[x,y],argTypes:= #[t,t]},ty,pos,af,g⟩ S ((S.setBlk id (.row e size false (spl cells 0 (news.take (min m n*size))))).put d (.d (.v (.int .i64 (min m n:Nat))))):=
 wM (by simp) fun A w I ρ C H=>by
  have h1:=H.ev x;rw[hx] at h1;have hv:A.eval x= ρ id:=h1;have h2:=H.ev y;rw[hy] at h2;obtain⟨B,m',c2,ys,aa,_,h,Z,O,T⟩:=Rep.sl_inv h2;obtain rfl:=zFN h Y hT.pos;have hk:=H.blks id;rw[hb] at hk;obtain⟨D,c1,ab,_,G⟩:=z59 hk hl;obtain⟨w',hr,k⟩:=zWM (P:=P) (ty:=ty) (D:=D) (B:=B) (c1:=c1) (c2:=c2) (off:=0) (n1:=n) (m:=m') H hT hb hl (by simpa using G) (by omega) Z O h (fun h0=>by obtain⟨b,o,e1,e2⟩:=T h0;exact⟨b,o,e1,fun j x hj=>(e2 j x hj).1⟩) hE
  simp only[Nat.zero_mul] at k;refine⟨_,w',?_,I,ρ,C,k.put hn (.v _)⟩;simp only[execOp,resolve,invoke,builtin,Sem.run_bind,Sem.run_pure,Result.andThen_ok,List.map_toArray,List.map_cons,List.map_nil,hv,ab,aa,hr]
theorem zOU {t e size bytes:Nat} {z:Value} {x y:Operand} {id n n1 m off o2:Nat} {cells:List DV} (hn:d<E.n) (hT:SlTy P t e size bytes z) (hx:S.ev x= .rs id (off*size) n1) (hb:S.blk id= .row e size false cells) (hl:cells.length=n*size)
  (hy:S.ev y= .rs id (o2*size) m) (ah:off+n1≤n) (ai:o2+m≤n) (hE:E.wrB=true):
  k4 P r E ⟨some d,.call {callee:= .builtin .copy,args:= #[x,y],argTypes:= #[t,t]},ty,pos,af,g⟩ S
   ((S.setBlk id (.row e size false (spl cells (off*size) (((cells.drop (o2*size)).take (m*size)).take (min m n1*size))))).put d (.d (.v (.int .i64 (min m n1:Nat))))):=
 wM (by simp) fun A w I ρ C Y=>by
  have h1:=Y.ev x;rw[hx] at h1;obtain⟨D,c1,hv,_,H⟩:=h1;have h2:=Y.ev y;rw[hy] at h2;obtain⟨B,c2,ak,_,k⟩:=h2;have hk:=Y.blks id;rw[hb] at hk;have az:o2*size+m*size≤n*size:=by rw[←Nat.add_mul];exact Nat.mul_le_mul_right _ ai
  have al:∃xs,Reps w I xs cells∧(∀x∈xs,x.oneCell'=true)∧∀b,blockOf (ρ id)=some b→∀(j:Nat) x,xs[j]? =some x→w.cell? ⟨b,j,none⟩=some x:=by
   cases ad:blockOf (ρ id) with
   | none=>
    obtain⟨h0,n',xs,ay,aq,h,G,_⟩:=hk;exact⟨xs,G,h,fun b hb=>by cases hb⟩
   | some b=>
    obtain⟨xs,h,aa,ab⟩:=zP9 hk ad;exact⟨xs,h,aa,fun b' ac=>by cases ac;exact ab⟩
  obtain⟨xs,G,Z,ag⟩:=al;obtain⟨w',hr,T⟩:=zWM (P:=P) (ty:=ty) (D:=D) (B:=B) (c1:=c1) (c2:=c2) (off:=off) (n1:=n1) (m:=m) (ys:=(xs.drop (o2*size)).take (m*size)) (news:=(cells.drop (o2*size)).take (m*size)) Y hT hb hl H ah
   ((G.drop _).take _) (fun u hu=>Z u (List.mem_of_mem_drop (List.mem_of_mem_take hu))) (by rw[List.length_take,List.length_drop,hl];omega) (fun h0=>by
    obtain⟨b,e1,e2⟩:=k h0;refine⟨b,o2*size,e2,fun j x O=>?_⟩;rw[List.getElem?_take] at O;split at O
    ·rw[List.getElem?_drop] at O;exact ag b e1 _ x O
    ·cases O) hE
  refine⟨_,w',?_,I,ρ,C,T.put hn (.v _)⟩;simp only[execOp,resolve,invoke,builtin,Sem.run_bind,Sem.run_pure,Result.andThen_ok,List.map_toArray,List.map_cons,List.map_nil,hv,ak,hr]
theorem z6A {k:TypeId} {x:Operand} {u:DV} (T:d<E.n) (Y:S.ev x= .d u) (O:(AV.d u).one=true) (G:E.nm d=none):
  k4 P r E ⟨some d,.box k x,ty,pos,af,g⟩ S (((S.kill d).setBlk d (.box k [.d u])).put d (.ptr d 0)):=
 wM (by simp) fun A w I ρ C H=>by
  have h:=H.ev x;rw[Y] at h;have z:=zS2 H.blks h O (by intro _ e;cases e)
  have hb:=H.newBox (id:=d) (e:=k) (arr:= #[A.eval x]) (cells:=[.d u]) (Pw.cons h Pw.nil) (by simpa using z) G;refine⟨.pointer (some ⟨w.heap.size,0,none⟩),w.alloc (.cells #[A.eval x] k),?_,I,_,C,hb.put T ⟨w.heap.size,by simp[upd,blockOf],rfl⟩⟩;simp only[execOp,Instr.box,newVar,zJU z];simp[newRow]
theorem z0 {t id e:Nat} {cells:List AV} {ds:List DV} (hn:t<E.n) (ht:S.get t= .ptr id 0) (hb:S.blk id= .box e cells) (Z:unD cells=some ds):zE3 E S ((S.setBlk id .none).put t (.d (.pt ds))):=by
 rintro a w ⟨I,ρ,C,h⟩
 have hk:=h.blks id;rw[hb] at hk;obtain⟨b,arr,Y,hM,hh,h1,G,hI⟩:=hk;have aa:S.blk id≠ .none:=by rw[hb];simp
 have ab:=h.blt id b aa (by rw[Y];rfl)
 have T:Reps w I arr.toList ds:=by
  clear hb hh h1;generalize arr.toList=xs at G
  induction cells generalizing xs ds with
  | nil=>simp[unD] at Z;subst Z;have:xs= []:=List.eq_nil_of_length_eq_zero G.1;subst this;exact Pw.nil
  | cons c cells ih=>
   cases xs with
   | nil=>have:=G.1;simp at this
   | cons x xs=>
    cases c with
    | d y=>
     simp only[unD] at Z;cases hu:unD cells with
     | none=>simp[hu] at Z
     | some ys=>
      simp[hu] at Z;subst Z;exact Pw.cons (G.2 0 x (.d y) rfl rfl) (ih hu xs ⟨by have:=G.1;simpa using this,fun j u z hu hz=>G.2 (j+1) u z (by simpa using hu) (by simpa using hz)⟩)
    | _=>simp[unD] at Z
 let I':Im:=fun H j=>I H j∨H=b
 have k:∀b j,I b j→I' b j:=fun _ _ h=> .inl h;have key:∀i,(S.setBlk id .none).blk i≠ .none→S.blk i≠ .none∧i≠id:=by
  intro i hi;rw[yA] at hi;by_cases e:id=i;subst e;simp at hi;simp only[e,if_false] at hi;exact⟨hi,fun e'=>e e'.symm⟩
 refine⟨I',ρ,C,⟨fun u=>?_,fun i=>?_,fun i i' H ai hi ah=>h.dist i i' H ai (key i hi).1 (key i' ah).1,by rw[zCW _ _ hn];exact h.frame,fun b j hi=>k b j (h.sub b j hi),fun H j hi=>?_,h.size,h.defers,fun H j hi=>?_,fun i H hi O=>h.cB i H (key i hi).1 O,fun i v hv hi=>h.nm i v hv (key i hi).1⟩⟩
 rw[vX];by_cases e:t=u;subst e;simp only[if_true];have:=h.tmps t;rw[ht] at this;obtain⟨H,O,hv⟩:=this;rw[Y] at O;simp[blockOf] at O;subst O;rw[hv];have aj:=T.mono (kV I w) k;exact Rep.pt b 0 arr.toList ds T.1 (fun j x hj=>⟨by rw[Nat.zero_add,cell_of_row w b j arr e (0,0) hh];simpa using hj,.inr rfl⟩) h1 aj.2
 simp only[e,if_false];exact(h.tmps u).mono (kV I w) k;show BlkOk w I' ρ E.mine i ((S.setBlk id .none).blk i);by_cases e:id=i;subst e;rw[yA];simp only[if_true];trivial;rw[yA,if_neg e];refine(h.blks i).widenI k fun b2 j hx ag hi=>?_;rcases hi with hi | hi
 exact hi;subst hi;exact absurd ag (h.dist id i b2 e aa hx (by rw[Y];rfl))
 rcases hi with hi | hi;exact h.old H j hi;subst hi;exact⟨ab.2,.inr ab.1⟩;rcases hi with hi | hi;exact h.cI H j hi;subst hi;exact h.cB id H aa (by rw[Y];rfl)
theorem z8T {t:TypeId} {x:Operand} {cells:List DV} {e:DV} (Y:d<E.n) (Z:OneTy P t) (hx:S.ev x= .d (.pt cells)) (T:cells[0]? =some e):
  AOp P r E S ⟨some d,.load t x,ty,pos,af,g⟩ d (.d e):=
 ⟨rfl,Y,fun S' ha=>zW rfl Y (by simp) fun A w I ρ C hs=>by
  have h:=hs.ev x;rw[(ha.ev (x:=x) (by simp[Op.operands])).trans hx] at h;have O:Rep w I (A.eval x) (.pt cells):=h;generalize hv:A.eval x=v at O;cases O with
  | pt b o xs cells H z h1 hr=>
   have G:0<xs.length:=by rw[H];exact(List.getElem?_eq_some_iff.1 T).1
   have k:=List.getElem?_eq_getElem G;refine⟨xs[0],?_,hr 0 _ e k T⟩;have:=(z 0 _ k).1;simp only[Nat.add_zero] at this;simp only[execOp,hv,Sem.run_bind,zGR w Z b o _ this];rfl⟩
theorem z33 {f:FuncId} {h:List Operand} {ds:List DV} (Y:d<E.n) (G:unD (h.map S.ev)=some ds):
  AOp P r E S ⟨some d,.makeFunc (.func f) #[] h.toArray,ty,pos,af,g⟩ d (.d (.fn f ds)):=
 ⟨rfl,Y,fun S' ha=>zW rfl Y (by simp) fun A w I ρ C hs=>by
  have T:h.map S'.ev=h.map S.ev:=List.map_congr_left fun x hx=>ha.ev (by simp[Op.operands];simpa using hx)
  rw[←T] at G;obtain⟨Z,h2⟩:=zH5 S' G;have k:Reps w I (h.map A.eval) ds:=by
   have:=zBC hs h;generalize h.map A.eval=vs at this ⊢;generalize h.map S'.ev=O at this G;clear Z h2 T
   induction O generalizing vs ds with
   | nil=>simp[unD] at G;subst G;have:vs= []:=List.eq_nil_of_length_eq_zero this.1;subst this;exact Pw.nil
   | cons c cells ih=>
    cases vs with
    | nil=>have:=this.1;simp at this
    | cons x xs=>
     cases c with
     | d y=>
      simp only[unD] at G;cases H:unD cells with
      | none=>simp[H] at G
      | some ys=>
       simp[H] at G;subst G;exact Pw.cons (this.2 0 x (.d y) rfl rfl) (ih xs ⟨by have:=this.1;simpa using this,fun j u z H hz=>this.2 (j+1) u z (by simpa using H) (by simpa using hz)⟩ H)
     | _=>simp[unD] at G
  refine⟨.func (.func f) #[] (h.map A.eval).toArray,?_,.fn f _ ds k.1 k.2⟩;simp[execOp,Instr.makeFunc]⟩
theorem yGM {f:FuncId} {x:Operand} {xs:List Operand} {ats:Array TypeId} {h ds rs:List DV} (hn:d<E.n) (hx:S.ev x= .d (.fn f h)) (aa:unD (xs.map S.ev)=some ds) (hc:zE P f (ds++h) rs) (hG:E.gdt=zBO P:=by rfl):
  AOp P r E S ⟨some d,.call {callee:= .value x,args:=xs.toArray,argTypes:=ats},ty,pos,af,g⟩ d (zV7 rs):=
 ⟨rfl,hn,fun S' ha=>by
  have he:xs.map S'.ev=xs.map S.ev:=List.map_congr_left fun x hx=>ha.ev (by simp[Op.operands,Call.operands,hx]);rw[←he] at aa;obtain⟨an,ao⟩:=zH5 S' aa
  rintro A w K Q ⟨I,ρ,C,hs⟩ hk
  obtain⟨⟨fn,hf,Y,O⟩,T⟩:=hc;obtain⟨I1,h1,H,h3⟩:=SatAt.dvL _ hs (zBC hs xs) an;rw[ao] at H;have ah:=hs.ev x;rw[(ha.ev (x:=x) (by simp[Op.operands,Call.operands])).trans hx] at ah;have k:Rep w I (A.eval x) (.fn f h):=ah;generalize au:A.eval x=vx at k;cases k with
  | fn f G h am al=>
   have Z:Reps w I1 G h:=⟨am,fun j u z hu hz=>(al j u z hu hz).mono (kV I w) h1⟩;have ak:=T w I1 (xs.map A.eval++G) (fun b j hi=>(H.old b j hi).1) (hG▸H.gl) (Pw.append h3 Z);refine⟨fun f _=>trivial,?_⟩;rw[Oper.semAt_eq _ _ _ (by simp)];have ad:(execOp A.eval ⟨some d,.call {callee:= .value x,args:=xs.toArray,argTypes:=ats},ty,pos,af,g⟩).run P w= .ok (.enter f (xs.map A.eval++G).toArray) w:=by
    simp only[execOp,resolve,au,Deferred.ofValue];have ap:¬fn.name= "runtime.NumGoroutine" :=by simpa using Y
    have aq:¬fn.body=none:=by intro e;simp[e] at O
    simp[invoke,callFunc,hf,ap,aq,List.map_toArray]
   rw[ad];refine⟨by simp[fen,Fence.wide],?_⟩;show CallsIn Fence.wide 0 P f _ w _;refine callsIn_wide.2 (ak.mono ?_)
   rintro e w' ⟨v,I',rfl,hb,ag,ab,ac⟩
   refine hk _ _ ⟨I',ρ,C,SatAt.put ?_ hn (zLU ac)⟩;have h4:=H.grow hb;exact h4.widen ag ab (fun i b hi ai=>(H.blt i b hi ai).2) (E.size _ _ _ H.frame) (fun b hc=>E.csize _ _ _ H.frame b hc)⟩
end
end Go.AV
namespace Go.AV
open Go.RowKit
section
variable {P:Program} {r:Option Nat} {E:Env} {S:AState} {d:Nat} {ty:TypeId} {pos:String} {af:Array Edge} {g:Option (Nat×Bool)}
def DV.isV:DV→Bool
 | .v _=>true
 | _=>false
theorem yBY {w w':World} {I z:Im} {xs:List Value} {ds:List DV} (h:Reps w I xs ds) (H:ds.all DV.isV=true):Reps w' z xs ds:=by
 refine⟨h.1,fun j x d O k=>?_⟩;have:=List.all_eq_true.1 H d (List.mem_of_getElem? k);have G:=h.2 j x d O k;cases d with
 | v u=>cases G;exact .v _
 | _=>simp[DV.isV] at this
def Env.own (w0:World) (I0:Im) (v:Value) (n:Nat) (Y:n≤1000000):Env where
 B:=w0.heap.size
 I0:=I0
 n:=n
 fr:=fun _ C w=>(w0.grownBy w v.ownBlock∧Same I0 w0 w)∧(∀b j,I0 b j→b<w0.heap.size)∧∀b,¬C b
 wrB:=true
 nle:=Y
 mine:=fun b=>w0.heap.size≤b∨v.ownBlock=some b
 mineB:=fun _ h=> .inl h
 nm:=fun _=>none
 size:=fun _ _ _ h=>h.1.1.size
 csize:=fun _ _ _ h b hb=>absurd hb (h.2.2 b)
 grow:=fun _ _ w w' h hb=>⟨⟨⟨hb.os.trans h.1.1.os,hb.tape.trans h.1.1.tape,hb.output.trans h.1.1.output,Nat.le_trans h.1.1.size hb.size,fun k G z=>(hb.block k (Nat.lt_of_lt_of_le G h.1.1.size)).trans (h.1.1.block k G z)⟩,
  fun b j hi=>(KeepB.of (hb.block b (Nat.lt_of_lt_of_le (h.2.1 b j hi) h.1.1.size))).trans (h.1.2 b j hi)⟩,h.2⟩
 wr:=fun _ _ _ w w' row h H Z T=>⟨⟨⟨H.os.trans h.1.1.os,H.tape.trans h.1.1.tape,H.output.trans h.1.1.output,Nat.le_trans h.1.1.size H.size,fun k G z=>(H.block k (Nat.lt_of_lt_of_le G h.1.1.size) (fun e=>by
   rcases (Z k e).1 with h1 | h1
   ·omega
   ·exact z h1.symm)).trans (h.1.1.block k G z)⟩,fun b j hi=>(T b j hi).trans (h.1.2 b j hi)⟩,h.2⟩
 turn:=fun _ _ _ w w' l h hl O T=>⟨⟨⟨O.os.trans h.1.1.os,O.tape.trans h.1.1.tape,O.output.trans h.1.1.output,by rw[O.size];exact h.1.1.size,fun k G z=>(O.blk k (by omega)).trans (h.1.1.block k G z)⟩,fun b j hi=>(T b j hi).trans (h.1.2 b j hi)⟩,h.2⟩
 gdt:=fun _=>none
 gl:=fun _ _ _ _=>GlI.none
end
end Go.AV


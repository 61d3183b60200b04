/- The layer of abstract values: what a temporary holds, said once; every rule of it is proved from the model. Conditions: none. -/
import Derived.WalkKit
import Derived.TacticsIn
import Derived.OrdersIn
import Derived.RangeFuncLeaves
import Derived.Deep.AppendLies
import Derived.Below
import Derived.LoopNIn
import Derived.IntWalk
import Derived.Laws.BytesArg
import Derived.RangeFuncIn
set_option linter.unusedSimpArgs false
set_option linter.unusedVariables false
set_option linter.unnecessarySimpa false
namespace Go.AV
open Go.RowKit
inductive DV where
 | v (u:Value)
 | sl (size:Nat) (cells:List DV)
 | agg (cells:List DV)
 | pt (cells:List DV)
 | fn (f:FuncId) (caps:List DV)
 | bm (f:FuncId) (fs:List DV)
 | mp (ks:List Value) (vs:List DV)
structure Born (ents:Array MapEntry) (clock:Nat):Prop where
 nd:(ents.toList.map (·.born)).Nodup
 lt:∀x∈ents.toList,x.born<clock
theorem Born.nil:Born #[] 0:=⟨List.nodup_nil,fun x h=>by simp at h⟩
theorem Born.push {ents:Array MapEntry} {c:Nat} {k v:Value} (h:Born ents c):Born (ents.push {key:=k,val:=v,born:=c}) (c+1):=by
 refine⟨?_,fun x hx=>?_⟩;simp only[Array.toList_push,List.map_append,List.map_cons,List.map_nil];refine List.nodup_append.2 ⟨h.nd,by simp,fun a ha b hb e=>?_⟩;simp at hb;subst hb;subst e;obtain⟨x,hx,e⟩:=List.mem_map.1 ha;have:=h.lt x hx;omega;rw[Array.toList_push,List.mem_append] at hx;rcases hx with hx | hx
 have:=h.lt x hx;omega;simp at hx;subst hx;exact Nat.lt_succ_self _
theorem Born.modify {ents:Array MapEntry} {c i:Nat} {f:MapEntry→MapEntry} (h:Born ents c) (hf:∀y,(f y).born=y.born):Born (ents.modify i f) c:=by
 have e:(ents.modify i f).toList.map (·.born)=ents.toList.map (·.born):=by
  rw[Array.toList_modify];apply List.ext_getElem?;intro j;simp only[List.getElem?_map,List.getElem?_modify];split;cases ents.toList[j]? <;> simp[hf];cases ents.toList[j]? <;> simp
 refine⟨by rw[e];exact h.nd,fun x hx=>?_⟩
 have:x.born∈(ents.modify i f).toList.map (·.born):=List.mem_map.2 ⟨x,hx,rfl⟩;rw[e] at this;obtain⟨y,hy,e2⟩:=List.mem_map.1 this;rw[←e2];exact h.lt y hy
abbrev Im:=Nat→Nat→Prop
inductive Rep (w:World) (I:Im):Value→DV→Prop
  | v (u:Value):Rep w I u (.v u)
  | nil (A:Option Addr) (c size:Nat):Rep w I (.slice A 0 c) (.sl size [])
  | sl (b off n c size:Nat) (xs:List Value) (cells:List DV) (hn:0<n) (hcap:n≤c) (hl:cells.length=n*size) (hx:xs.length=cells.length)
      (hc:∀(j:Nat) x,xs[j]? =some x→w.cell? ⟨b,off+j,none⟩=some x∧I b (off+j)) (h1:∀x∈xs,x.oneCell'=true)
      (hr:∀(j:Nat) x d,xs[j]? =some x→cells[j]? =some d→Rep w I x d):Rep w I (.slice (some ⟨b,off,none⟩) n c) (.sl size cells)
  | agg (xs:List Value) (cells:List DV) (hx:xs.length=cells.length) (h1:∀x∈xs,x.oneCell'=true)
      (hr:∀(j:Nat) x d,xs[j]? =some x→cells[j]? =some d→Rep w I x d):Rep w I (.agg xs.toArray) (.agg cells)
  | pt (b off:Nat) (xs:List Value) (cells:List DV) (hx:xs.length=cells.length)
      (hc:∀(j:Nat) x,xs[j]? =some x→w.cell? ⟨b,off+j,none⟩=some x∧I b (off+j)) (h1:∀x∈xs,x.oneCell'=true)
      (hr:∀(j:Nat) x d,xs[j]? =some x→cells[j]? =some d→Rep w I x d):Rep w I (.pointer (some ⟨b,off,none⟩)) (.pt cells)
  | fn (f:FuncId) (xs:List Value) (caps:List DV) (hx:xs.length=caps.length)
      (hr:∀(j:Nat) x d,xs[j]? =some x→caps[j]? =some d→Rep w I x d):Rep w I (.func (.func f) #[] xs.toArray) (.fn f caps)
  | bm (f:FuncId) (xs:List Value) (fs:List DV) (hx:xs.length=fs.length)
      (hr:∀(j:Nat) x d,xs[j]? =some x→fs[j]? =some d→Rep w I x d):Rep w I (.func (.func f) xs.toArray #[]) (.bm f fs)
  | mp (b clock:Nat) (ents:Array MapEntry) (vs:List DV) (hh:w.heap[b]? =some (.map ents clock)) (hI:I b 0) (hx:ents.size=vs.length)
      (hr:∀(j:Nat) x d,ents.toList[j]? =some x→vs[j]? =some d→Rep w I x.val d) (hN:Born ents clock):Rep w I (.map (some b)) (.mp (ents.toList.map (·.key)) vs)
structure KeepB (w w':World) (b j:Nat):Prop where
 cell:w'.cell? ⟨b,j,none⟩=w.cell? ⟨b,j,none⟩
 map:∀ents c,w.heap[b]? =some (.map ents c)→w'.heap[b]? =some (.map ents c)
theorem KeepB.refl {w:World} {b j:Nat}:KeepB w w b j:=⟨rfl,fun _ _ h=>h⟩
theorem KeepB.trans {w w1 w2:World} {b j:Nat} (h:KeepB w1 w2 b j) (k:KeepB w w1 b j):KeepB w w2 b j:=⟨h.cell.trans k.cell,fun e c q=>h.map e c (k.map e c q)⟩
theorem KeepB.of {w w':World} {b j:Nat} (h:w'.heap[b]? =w.heap[b]?):KeepB w w' b j:=⟨World.cell?_of_block (a:=⟨b,j,none⟩) h,fun _ _ q=>h.trans q⟩
theorem KeepB.ofCell {w w':World} {b j:Nat} {arr:Array Value} {e:Nat} {fr:Nat×Nat} (hb:w.heap[b]? =some (.cells arr e fr)) (h:w'.cell? ⟨b,j,none⟩=w.cell? ⟨b,j,none⟩):KeepB w w' b j:=⟨h,fun _ _ q=>by rw[hb] at q;cases q⟩
def Same (I:Im) (w w':World):Prop:= ∀b j,I b j→KeepB w w' b j
theorem Rep.mono {w w':World} {I I':Im} {v:Value} {d:DV} (h:Rep w I v d) (hs:Same I w w') (hI:∀b j,I b j→I' b j):Rep w' I' v d:=by
 induction h with
 | v u=>exact .v u
 | nil A c size=>exact .nil A c size
 | sl b off n c size xs cells hn hcap hl hx hc h1 hr ih=>
  exact .sl b off n c size xs cells hn hcap hl hx (fun j x hj=>⟨(hs _ _ (hc j x hj).2).cell.trans (hc j x hj).1,hI _ _ (hc j x hj).2⟩) h1 ih
 | agg xs cells hx h1 hr ih=>exact .agg xs cells hx h1 ih
 | pt b off xs cells hx hc h1 hr ih=>
  exact .pt b off xs cells hx (fun j x hj=>⟨(hs _ _ (hc j x hj).2).cell.trans (hc j x hj).1,hI _ _ (hc j x hj).2⟩) h1 ih
 | fn f xs caps hx hr ih=>exact .fn f xs caps hx ih
 | bm f xs fs hx hr ih=>exact .bm f xs fs hx ih
 | mp b clock ents vs hh hb hx hr hN ih=>exact .mp b clock ents vs ((hs _ _ hb).map _ _ hh) (hI _ _ hb) hx ih hN
def Pw {α β:Type} (R: α→β→Prop) (xs:List α) (ys:List β):Prop:=
 xs.length=ys.length∧∀(j:Nat) x y,xs[j]? =some x→ys[j]? =some y→R x y
section
variable {α β:Type} {R R': α→β→Prop} {xs xs':List α} {ys ys':List β}
theorem Pw.imp (h:Pw R xs ys) (hr:∀x y,R x y→R' x y):Pw R' xs ys:=⟨h.1,fun j x d hx hd=>hr _ _ (h.2 j x d hx hd)⟩
theorem Pw.nil:Pw R [] []:=⟨rfl,fun j x d h=>by simp at h⟩
theorem Pw.cons {x: α} {y: β} (h:R x y) (hs:Pw R xs ys):Pw R (x::xs) (y::ys):=by
 refine⟨by simp[hs.1],fun j y e hy he=>?_⟩;cases j with
 | zero=>simp at hy he;subst hy;subst he;exact h
 | succ j=>simp at hy he;exact hs.2 j y e hy he
theorem Pw.append (h:Pw R xs ys) (k:Pw R xs' ys'):Pw R (xs++xs') (ys++ys'):=by
 refine⟨by simp[h.1,k.1],fun j x d hx hd=>?_⟩;by_cases hj:j<xs.length;rw[List.getElem?_append_left hj] at hx;rw[List.getElem?_append_left (h.1▸hj)] at hd;exact h.2 j x d hx hd;rw[List.getElem?_append_right (by omega)] at hx;rw[List.getElem?_append_right (by rw[←h.1];omega)] at hd
 rw[←h.1] at hd;exact k.2 _ x d hx hd
theorem Pw.take (h:Pw R xs ys) (n:Nat):Pw R (xs.take n) (ys.take n):=by refine⟨by simp[h.1],fun j x y hx hy=>?_⟩;rw[List.getElem?_take] at hx hy;split at hx;rename_i hlt;rw[if_pos hlt] at hy;exact h.2 j x y hx hy;cases hx
theorem Pw.drop (h:Pw R xs ys) (n:Nat):Pw R (xs.drop n) (ys.drop n):=by refine⟨by simp[h.1],fun j x y hx hy=>?_⟩;rw[List.getElem?_drop] at hx hy;exact h.2 _ x y hx hy
theorem Pw.set (h:Pw R xs ys) {x: α} {y: β} (hxy:R x y) (n:Nat):Pw R (xs.set n x) (ys.set n y):=by refine⟨by simp[h.1],fun j u v hu hv=>?_⟩;rw[List.getElem?_set] at hu hv;by_cases e:n=j;subst e;by_cases hl:n<xs.length;simp[hl] at hu;rw[h.1] at hl;simp[hl] at hv;subst hu;subst hv;exact hxy;simp[hl] at hu;simp[e] at hu hv;exact h.2 j u v hu hv
end
abbrev Reps (w:World) (I:Im) (xs:List Value) (ds:List DV):Prop:=Pw (Rep w I) xs ds
theorem Reps.mono {w w':World} {I I':Im} {xs:List Value} {ds:List DV} (h:Reps w I xs ds) (hs:Same I w w') (hI:∀b j,I b j→I' b j):Reps w' I' xs ds:=
 h.imp fun _ _ hr=>hr.mono hs hI
inductive Cap where
 | top
 | d (x:DV)
 | ptr (id off:Nat)
 | row (id:Nat)
inductive AV where
 | top
 | d (x:DV)
 | row (id:Nat)
 | ptr (id off:Nat)
 | ip (cells:List DV) (off:Nat)
 | tup (ds:List DV)
 | cond (g:Bool) (x:AV)
 | gh (k:Nat)
 | rs (id off n:Nat)
 | clo (f:FuncId) (caps:List Cap)
 | tupc (xs:List Cap)
 | wp (id off:Nat)
 | ws (id off n:Nat) (tight:Bool)
 | aggc (xs:List Cap)
inductive Blk where
 | none
 | row (e size:Nat) (sh:Bool) (cells:List DV)
 | box (e:Nat) (cells:List AV)
 | map (es:List (Value×DV))
 | it (es:List (Value×DV)) (q:List Nat)
 | win (e size k:Nat) (cells:List DV)
structure AState where
 tmps:List (Nat×AV)
 blks:List (Nat×Blk)
def look {α:Type} (dflt: α):List (Nat×α)→Nat→α
 | [],_=>dflt
 | (i,x)::r,k=>if Nat.beq i k then x else look dflt r k
theorem k8 {α:Type} (dflt: α) (i:Nat) (x: α) (r:List (Nat×α)) (k:Nat):look dflt ((i,x)::r) k=if i=k then x else look dflt r k:=by simp only[look];by_cases h:i=k<;>simp[h,Nat.beq_eq]
def AState.get (S:AState) (t:Nat):AV:=look .top S.tmps t
def AState.blk (S:AState) (id:Nat):Blk:=look .none S.blks id
def AState.put (S:AState) (t:Nat) (x:AV):AState:={S with tmps:=(t,x)::S.tmps}
def AState.setBlk (S:AState) (id:Nat) (b:Blk):AState:={S with blks:=(id,b)::S.blks}
theorem zBD (S:AState) (t u:Nat) (x:AV):(S.put t x).get u=if t=u then x else S.get u:=k8 _ _ _ _ _
theorem z4Y (S:AState) (t u:Nat) (x:AV):(S.put t x).blk u=S.blk u:=rfl
theorem jB (S:AState) (t u:Nat) (x:Blk):(S.setBlk t x).blk u=if t=u then x else S.blk u:=k8 _ _ _ _ _
theorem zOE (S:AState) (t u:Nat) (x:Blk):(S.setBlk t x).get u=S.get u:=rfl
def GT:Nat:=1000000
def AState.ghost (S:AState):Nat:=match S.get GT with
 | .gh k=>k
 | _=>0
def isData:Obj→Bool
 | .cells _ _ _=>true
 | .map _ _=>true
 | .mapIter _ _ _ _=>true
 | _=>false
structure Turned (l:Nat) (w w':World):Prop where
 os:w'.os=w.os
 tape:w'.tape=w.tape
 output:w'.output=w.output
 size:w'.heap.size=w.heap.size
 blk:∀k,k≠l→w'.heap[k]? =w.heap[k]?
 no:∀o,w.heap[l]? =some o→isData o=false
 no':∀o,w'.heap[l]? =some o→isData o=false
structure Chg (w w':World) (O:Nat→Prop):Prop where
 os:w'.os=w.os
 tape:w'.tape=w.tape
 output:w'.output=w.output
 size:w.heap.size≤w'.heap.size
 block:∀k,k<w.heap.size→¬O k→w'.heap[k]? =w.heap[k]?
theorem Chg.of {w w':World} {row:Option Nat} (h:w.grownBy w' row):Chg w w' (fun b=>row=some b):=
 ⟨h.os,h.tape,h.output,h.size,fun k hk hn=>h.block k hk (fun e=>hn e.symm)⟩
def GlI (gdt:Nat→Option (List Value)) (w:World) (I:Im):Prop:= ∀g zs,gdt g=some zs→∀j,w.cell? ⟨g,j,none⟩=zs[j]?∧I g j
theorem GlI.sub {gdt:Nat→Option (List Value)} {w:World} {I I':Im} (h:GlI gdt w I) (hs:∀b j,I b j→I' b j):GlI gdt w I':=fun g zs hg j=>⟨(h g zs hg j).1,hs _ _ (h g zs hg j).2⟩
theorem GlI.none {w:World} {I:Im}:GlI (fun _=>none) w I:=fun _ _ h=>by cases h
structure Env where
 B:Nat
 I0:Im
 n:Nat
 fr:Nat→(Nat→Prop)→World→Prop
 wrB:Bool
 nle:n≤1000000
 mine:Nat→Prop
 mineB:∀b,B≤b→mine b
 nm:Nat→Option Value
 size:∀k C w,fr k C w→B≤w.heap.size
 csize:∀k C w,fr k C w→∀b,C b→b<w.heap.size
 grow:∀k C w w',fr k C w→Below w.heap.size w w'→fr k C w'
 wr:wrB=true→∀k C w w' O,fr k C w→Chg w w' O→(∀b,O b→mine b∧¬C b∧∃o,w.heap[b]? =some o∧isData o=true)→Same I0 w w'→fr k C w'
 turn:wrB=true→∀k C w w' l,fr k C w→B≤l→Turned l w w'→Same I0 w w'→fr k C w'
 gdt:Nat→Option (List Value)
 gl:∀k C w,fr k C w→GlI gdt w I0
def blockOf:Value→Option Nat
 | .slice (some a) _ _=>some a.block
 | .pointer (some a)=>some a.block
 | .map (some b)=>some b
 | _=>none
section
variable (w:World) (I:Im) (ρ:Nat→Value)
def HoldsC:Value→Cap→Prop
 | _,.top=>True
 | v,.d x=>Rep w I v x
 | v,.row id=>v= ρ id
 | v,.ptr id off=> ∃b,blockOf (ρ id)=some b∧v= .pointer (some ⟨b,off,none⟩)
def Holds:Value→AV→Prop
 | _,.top=>True
 | v,.d x=>Rep w I v x
 | v,.row id=>v= ρ id
 | v,.ptr id off=> ∃b,blockOf (ρ id)=some b∧v= .pointer (some ⟨b,off,none⟩)
 | v,.ip cells k=> ∃b off xs,v= .pointer (some ⟨b,off+k,none⟩)∧Reps w I xs cells∧(∀x∈xs,x.oneCell'=true)∧(∀(j:Nat) x,xs[j]? =some x→w.cell? ⟨b,off+j,none⟩=some x∧I b (off+j))
 | v,.tup ds=> ∃xs,v= .tuple xs.toArray∧Reps w I xs ds
 | v,.cond g x=>(g=true→Holds v x)∧(g=false→v=undef)
 | _,.gh _=>True
 | v,.rs id off n=> ∃A c,v= .slice A n c∧n≤c∧(0<n→∃b,blockOf (ρ id)=some b∧A=some ⟨b,off,none⟩)
 | v,.clo f caps=> ∃xs,v= .func (.func f) #[] xs.toArray∧Pw (HoldsC w I ρ) xs caps
 | v,.tupc cs=> ∃xs,v= .tuple xs.toArray∧Pw (HoldsC w I ρ) xs cs
 | v,.aggc cs=> ∃xs,v= .agg xs.toArray∧Pw (HoldsC w I ρ) xs cs∧∀x∈xs,x.oneCell'=true
 | v,.wp id off=> ∃b o n c,ρ id= .slice (some ⟨b,o,none⟩) n c∧v= .pointer (some ⟨b,o+off,none⟩)
 | v,.ws id off n tt=> ∃A c,v= .slice A n c∧n≤c∧(tt=true→c=n)∧(0<n→∃b o n0 c0,ρ id= .slice (some ⟨b,o,none⟩) n0 c0∧A=some ⟨b,o+off,none⟩)
def BlkOk (M:Nat→Prop) (id:Nat):Blk→Prop
  | .none=>True
  | .row e size sh cells=>(0<size∧∀g,(ρ id).ownBlock=some g→M g)∧∃n xs,cells.length=n*size∧w.ownsRow 0 e size (ρ id) n xs∧(∀x∈xs,x.oneCell'=true)∧Reps w I xs cells∧
      (∀g j,(ρ id).ownBlock=some g→I g j→sh=true∧j<cells.length)
  | .box e cells=> ∃b arr,ρ id= .pointer (some ⟨b,0,none⟩)∧M b∧w.heap[b]? =some (.cells arr e (0,0))∧(∀x∈arr.toList,x.oneCell'=true)∧
      Pw (Holds w I ρ) arr.toList cells∧(∀j,¬I b j)
  | .map es=> ∃b ents clock,ρ id= .map (some b)∧M b∧w.heap[b]? =some (.map ents clock)∧Pw (fun (x:MapEntry) (y:Value×DV)=>x.key=y.1∧Rep w I x.val y.2) ents.toList es∧(∀j,¬I b j)∧Born ents clock
  | .it es q=> ∃b bm ents clock seen,ρ id= .pointer (some ⟨b,0,none⟩)∧M b∧w.heap[b]? =some (.mapIter (some bm) clock seen clock)∧(∀j,¬I b j)∧w.heap[bm]? =some (.map ents clock)∧I bm 0∧
      Pw (fun (x:MapEntry) (y:Value×DV)=>x.key=y.1∧Rep w I x.val y.2) ents.toList es∧Born ents clock∧seen.toList.map some=q.map fun i=>(ents[i]?).map (·.born)
  | .win e size k cells=> ∃A n c xs,ρ id= .slice A n c∧n≤c∧0<size∧cells.length=n*size∧Reps w I xs cells∧(∀x∈xs,x.oneCell'=true)∧
      ((A=none∧n=0)∨∃b off arr,A=some ⟨b,off,none⟩∧M b∧w.heap[b]? =some (.cells arr e (0,0))∧off+n*size≤arr.size∧(∀(j:Nat) x,xs[j]? =some x→arr[off+j]? =some x)∧(∀j,off≤j→j<off+n*size→I b j→j<off+k*size))
end
structure DefOk (B:Nat) (wrB:Bool) (C:Nat→Prop) (w:World) (ds:List Deferred):Prop where
 each:∀d∈ds,∃r,d.target= .collected r∧B≤r∧¬C r∧w.heap[r]? =some (.deferred (some []))
 dist:ds.Pairwise fun d e=> ∀r,d.target= .collected r→e.target≠ .collected r
 wr:ds≠[]→wrB=true
theorem DefOk.nil {B:Nat} {wrB:Bool} {C:Nat→Prop} {w:World}:DefOk B wrB C w []:=⟨by simp,.nil,fun h=>absurd rfl h⟩
theorem DefOk.keep {B:Nat} {wrB:Bool} {C:Nat→Prop} {w w':World} {ds:List Deferred} (h:DefOk B wrB C w ds) (hk:∀r:Nat,w.heap[r]? =some (Obj.deferred (some []))→w'.heap[r]? =some (Obj.deferred (some []))):DefOk B wrB C w' ds:=
 ⟨fun d hd=>let ⟨r,h1,h2,h2',h3⟩:=h.each d hd;⟨r,h1,h2,h2',hk r h3⟩,h.dist,h.wr⟩
structure SatAt (E:Env) (S:AState) (a:Act) (w:World) (I:Im) (ρ:Nat→Value) (C:Nat→Prop):Prop where
 tmps:∀t,Holds w I ρ (a.tmps.getD t undef) (S.get t)
 blks:∀id,BlkOk w I ρ E.mine id (S.blk id)
 dist:∀id id' b,id≠id'→S.blk id≠ .none→S.blk id'≠ .none→blockOf (ρ id)=some b→blockOf (ρ id')≠some b
 frame:E.fr S.ghost C w
 sub:∀b j,E.I0 b j→I b j
 old:∀b j,I b j→b<w.heap.size∧(E.I0 b j∨E.mine b)
 size:a.tmps.size=E.n
 defers:DefOk E.B E.wrB C w a.defers
 cI:∀b j,I b j→¬C b
 cB:∀id b,S.blk id≠ .none→blockOf (ρ id)=some b→¬C b
 nm:∀id v,E.nm id=some v→S.blk id≠ .none→ρ id=v
def Sat (E:Env) (S:AState) (a:Act) (w:World):Prop:= ∃I ρ C,SatAt E S a w I ρ C
theorem SatAt.gl {E:Env} {S:AState} {a:Act} {w:World} {I:Im} {ρ:Nat→Value} {C:Nat→Prop} (h:SatAt E S a w I ρ C):GlI E.gdt w I:=(E.gl _ _ _ h.frame).sub h.sub
theorem zDA (S:AState) {t:Nat} (x:AV) {E:Env} (h:t<E.n):(S.put t x).ghost=S.ghost:=by
 have hne:t≠GT:=by have:=E.nle;unfold GT;omega
 unfold AState.ghost;rw[zBD,if_neg hne]
def AV.un:AV→AV
 | .cond true x=>x.un
 | y=>y
def AState.ev (S:AState):Operand→AV
 | .tmp t=>(S.get t).un
 | .const v=> .d (.v v)
 | .func f=> .d (.v (.func (.func f) #[] #[]))
 | .global _=> .top
theorem Holds.un {w:World} {I:Im} {ρ:Nat→Value} {v:Value}:∀{x:AV},Holds w I ρ v x→Holds w I ρ v x.un:=by
 intro x
 induction x with
 | cond g x ih=>
  intro h;cases g with
  | false=>exact h
  | true=>exact ih (h.1 rfl)
 | _=>exact id
theorem SatAt.ev {E:Env} {S:AState} {a:Act} {w:World} {I:Im} {ρ:Nat→Value} {C:Nat→Prop} (h:SatAt E S a w I ρ C) (x:Operand):Holds w I ρ (a.eval x) (S.ev x):=by
 cases x with
 | tmp t=>exact(h.tmps t).un
 | const v=>exact .v v
 | func f=>exact .v _
 | global g=>trivial
theorem SatAt.val {E:Env} {S:AState} {a:Act} {w:World} {I:Im} {ρ:Nat→Value} {C:Nat→Prop} (h:SatAt E S a w I ρ C) {x:Operand} {v:Value} (hx:S.ev x= .d (.v v)):a.eval x=v:=by have:=h.ev x;rw[hx] at this;generalize a.eval x=u at this ⊢;cases this;rfl
theorem SatAt.put {E:Env} {S:AState} {a:Act} {w:World} {I:Im} {ρ:Nat→Value} {C:Nat→Prop} (h:SatAt E S a w I ρ C) {d:Nat} {v:Value} {x:AV} (hd:d<E.n) (hv:Holds w I ρ v x):
  SatAt E (S.put d x) (a.put (some d) v) w I ρ C:=by
 refine⟨fun t=>?_,h.blks,h.dist,by rw[zDA S x hd];exact h.frame,h.sub,h.old,by simp[Act.put,h.size],h.defers,h.cI,h.cB,h.nm⟩
 rw[zBD];by_cases ht:d=t
 ·subst ht
  simp only[if_true,Act.put];rw[Array.getD_eq_getD_getElem?,Array.getElem?_setIfInBounds_self_of_lt (by rw[h.size];exact hd)]
  exact hv
 ·simp only[ht,if_false,Act.put]
  have:=h.tmps t;rw[Array.getD_eq_getD_getElem?] at this ⊢;rw[Array.getElem?_setIfInBounds_ne ht];exact this
def fen (r:Option Nat):Fence:={Fence.wide with round:=r}
def j9 (P:Program) (r:Option Nat) (E:Env) (o:Oper) (S S':AState):Prop:=
 ∀a w (K:Act→World→Prop) (Q:Exit→Act→World→Prop),Sat E S a w→(∀a' w',Sat E S' a' w'→K a' w')→o.wpIn (fen r) 0 P a w K Q
section
variable {P:Program} {r:Option Nat} {E:Env} {S:AState}
theorem zDL {o:Oper} {S':AState} (hnd:∀c,o.op≠ .defer c)
  (h:∀a w I ρ C,SatAt E S a w I ρ C→∃v w',(execOp a.eval o).run P w= .ok (.value v) w'∧Sat E S' (a.put o.dst v) w'):j9 P r E o S S':=by
 rintro a w K Q ⟨I,ρ,C,hs⟩ hk
 obtain⟨v,w',hr,hv⟩:=h a w I ρ C hs;refine⟨fun f _=>trivial,?_⟩;rw[Oper.semAt_eq _ _ _ hnd,hr];exact hk _ _ hv
theorem kC {o:Oper} {d:Nat} {x:AV} (hd:o.dst=some d) (hn:d<E.n) (hnd:∀c,o.op≠ .defer c)
  (h:∀a w I ρ C,SatAt E S a w I ρ C→∃v,(execOp a.eval o).run P w= .ok (.value v) w∧Holds w I ρ v x):j9 P r E o S (S.put d x):=
 zDL hnd fun a w I ρ C hs=>by
  obtain⟨v,hr,hv⟩:=h a w I ρ C hs;exact⟨v,w,hr,I,ρ,C,by rw[hd];exact hs.put hn hv⟩
variable {d:Nat} {ty:TypeId} {pos:String} {af:Array Edge} {g:Option (Nat×Bool)}
theorem zZG {x:Operand} (hn:d<E.n):j9 P r E ⟨some d,.move x,ty,pos,af,g⟩ S (S.put d (S.ev x)):=
 kC rfl hn (by simp) fun a w I ρ C hs=>⟨a.eval x,by simp[execOp],hs.ev x⟩
theorem zT6 {x:Operand} (hn:d<E.n):j9 P r E ⟨some d,.assign x,ty,pos,af,g⟩ S (S.put d (S.ev x)):=
 kC rfl hn (by simp) fun a w I ρ C hs=>⟨a.eval x,by simp[execOp],hs.ev x⟩
theorem jQ {o:Oper} {v:Value} (hd:o.dst=some d) (hn:d<E.n) (hnd:∀c,o.op≠ .defer c)
  (h:∀a w I ρ C,SatAt E S a w I ρ C→(execOp a.eval o).run P w= .ok (.value v) w):j9 P r E o S (S.put d (.d (.v v))):=
 kC hd hn hnd fun a w I ρ C hs=>⟨v,h a w I ρ C hs,.v v⟩
section ints
variable {k:IntKind} {x y:Operand} {a b:Int} {tx tz:TypeId} (hn:d<E.n) (hx:S.ev x= .d (.v (.int k a))) (hy:S.ev y= .d (.v (.int k b)))
include hn hx hy
theorem z1C:j9 P r E ⟨some d,.binOp .lss tx x y tz,ty,pos,af,g⟩ S (S.put d (.d (.v (.bool (decide (a<b)))))):=
 jQ rfl hn (by simp) fun A w I ρ C hs=>by
  simp only[execOp,hs.val hx,hs.val hy];simp[binOp,eqGuard,Op.intCmp]
theorem z1D:j9 P r E ⟨some d,.binOp .leq tx x y tz,ty,pos,af,g⟩ S (S.put d (.d (.v (.bool (decide (a≤b)))))):=
 jQ rfl hn (by simp) fun A w I ρ C hs=>by
  simp only[execOp,hs.val hx,hs.val hy];simp[binOp,eqGuard,Op.intCmp]
theorem z1E:j9 P r E ⟨some d,.binOp .gtr tx x y tz,ty,pos,af,g⟩ S (S.put d (.d (.v (.bool (decide (b<a)))))):=
 jQ rfl hn (by simp) fun A w I ρ C hs=>by
  simp only[execOp,hs.val hx,hs.val hy];simp[binOp,eqGuard,Op.intCmp]
theorem z1F:j9 P r E ⟨some d,.binOp .geq tx x y tz,ty,pos,af,g⟩ S (S.put d (.d (.v (.bool (decide (b≤a)))))):=
 jQ rfl hn (by simp) fun A w I ρ C hs=>by
  simp only[execOp,hs.val hx,hs.val hy];simp[binOp,eqGuard,Op.intCmp]
theorem z1G:j9 P r E ⟨some d,.binOp .eql tx x y tz,ty,pos,af,g⟩ S (S.put d (.d (.v (.bool (decide (a=b)))))):=
 jQ rfl hn (by simp) fun A w I ρ C hs=>by
  simp only[execOp,hs.val hx,hs.val hy];have:(a==b)=decide (a=b):=rfl;simp[binOp,eqGuard,Op.intCmp,this]
theorem z1H:j9 P r E ⟨some d,.binOp .neq tx x y tz,ty,pos,af,g⟩ S (S.put d (.d (.v (.bool (!decide (a=b)))))):=
 jQ rfl hn (by simp) fun A w I ρ C hs=>by
  simp only[execOp,hs.val hx,hs.val hy];have:(a != b)= !decide (a=b):=rfl;simp[binOp,eqGuard,Op.intCmp,this]
end ints
theorem z1I {k k':IntKind} {x y:Operand} {a:Int} {m:Nat} {tx tz:TypeId} (hn:d<E.n) (hx:S.ev x= .d (.v (.int k a))) (hy:S.ev y= .d (.v (.int k' (m:Int))))
  (hm:m≤k.bits):j9 P r E ⟨some d,.binOp .shr tx x y tz,ty,pos,af,g⟩ S (S.put d (.d (.v (.int k (a/2 ^ m))))):=
 jQ rfl hn (by simp) fun A w I ρ C hs=>by
  simp only[execOp,hs.val hx,hs.val hy];have h1:¬((m:Int)<0):=by omega
  have h2:min m k.bits=m:=Nat.min_eq_left hm;have h3:a.fdiv (2 ^ m)=a/2 ^ m:=Int.fdiv_eq_ediv_of_nonneg a (Int.le_of_lt (Int.pow_pos (by decide)));simp[binOp,eqGuard,Op.shift,h1,h2,h3]
theorem z1J {x:Operand} {b:Bool} {tx:TypeId} (hn:d<E.n) (hx:S.ev x= .d (.v (.bool b))):j9 P r E ⟨some d,.unOp .not tx x,ty,pos,af,g⟩ S (S.put d (.d (.v (.bool (!b))))):=
 jQ rfl hn (by simp) fun A w I ρ C hs=>by
  simp only[execOp,hs.val hx];simp[Op.unary]
theorem zP0 {c:Operand} {t:Nat} {b b':Bool} (hn:d<E.n) (hc:S.ev c= .d (.v (.bool b))) (ht:S.get t= .cond b (.d (.v (.bool b')))):
  j9 P r E ⟨some d,.pick c (.tmp t) (.const (.bool false)),ty,pos,af,g⟩ S (S.put d (.d (.v (.bool (b&&b'))))):=
 jQ rfl hn (by simp) fun A w I ρ C hs=>by
  have hh:=hs.tmps t;rw[ht] at hh;simp only[execOp,hs.val hc];cases b with
  | false=>simp[asBool,Act.eval]
  | true=>
   have h2:=hh.1 rfl;generalize hv:A.tmps.getD t undef=v at h2;cases h2;simp only[Act.eval,hv];simp[asBool]
theorem zR8 {c:Operand} {t:Nat} {b b':Bool} (hn:d<E.n) (hc:S.ev c= .d (.v (.bool b))) (ht:S.get t= .cond (!b) (.d (.v (.bool b')))):
  j9 P r E ⟨some d,.pick c (.const (.bool true)) (.tmp t),ty,pos,af,g⟩ S (S.put d (.d (.v (.bool (b ||b'))))):=
 jQ rfl hn (by simp) fun A w I ρ C hs=>by
  have hh:=hs.tmps t;rw[ht] at hh;simp only[execOp,hs.val hc];cases b with
  | true=>simp[asBool,Act.eval]
  | false=>
   have h2:=hh.1 rfl;generalize hv:A.tmps.getD t undef=v at h2;cases h2;simp only[Act.eval,hv];simp[asBool]
section strs
variable {x y:Operand} {a b:ByteArray} {tx tz:TypeId} (hn:d<E.n) (hx:S.ev x= .d (.v (.string a))) (hy:S.ev y= .d (.v (.string b)))
include hn hx hy
theorem zOG {op:BinOp} {v:Value} (hop:op≠ .shl∧op≠ .shr) (h:∀w,(Op.stringOp op a b).run P w= .ok v w):j9 P r E ⟨some d,.binOp op tx x y tz,ty,pos,af,g⟩ S (S.put d (.d (.v v))):=
 jQ rfl hn (by simp) fun A w I ρ C hs=>by
  simp only[execOp,hs.val hx,hs.val hy];have e1:(eqGuard op tx x y (.string a) (.string b)).run P w= .ok () w:=by cases op<;>simp[eqGuard]
  have e2:binOp op tx (.string a) (.string b)=Op.stringOp op a b:=by cases op<;>simp_all [binOp]
  simp[e1,e2,h]
theorem zZH:j9 P r E ⟨some d,.binOp .eql tx x y tz,ty,pos,af,g⟩ S (S.put d (.d (.v (.bool (a.toList==b.toList))))):=zOG hn hx hy (by simp) (fun _=>by simp[Op.stringOp])
theorem zZI:j9 P r E ⟨some d,.binOp .neq tx x y tz,ty,pos,af,g⟩ S (S.put d (.d (.v (.bool (!(a.toList==b.toList)))))):=zOG hn hx hy (by simp) (fun _=>by simp[Op.stringOp])
theorem zZJ:j9 P r E ⟨some d,.binOp .lss tx x y tz,ty,pos,af,g⟩ S (S.put d (.d (.v (.bool (Op.bytesLess a.toList b.toList))))):=zOG hn hx hy (by simp) (fun _=>by simp[Op.stringOp])
end strs
theorem zP1 {k k':IntKind} {x:Operand} {a:Int} {ts td:TypeId} {ds:TypeDesc} (hn:d<E.n) (hs:P.underlying ts=some ds) (hd:P.underlying td=some (.int k')) (hx:S.ev x= .d (.v (.int k a))):
  j9 P r E ⟨some d,.convert ts td x,ty,pos,af,g⟩ S (S.put d (.d (.v (.int k' (k'.wrap a))))):=
 jQ rfl hn (by simp) fun A w I ρ C h=>by
  simp only[execOp,h.val hx];simp[convert,run_underlying hs,run_underlying hd,Conv.intToInt]
theorem zR9 {x:Operand} {i:Nat} {ds:List DV} {e:DV} (hn:d<E.n) (hx:S.ev x= .tup ds) (hi:ds[i]? =some e):j9 P r E ⟨some d,.extract x i,ty,pos,af,g⟩ S (S.put d (.d e)):=
 kC rfl hn (by simp) fun A w I ρ C hs=>by
  have h:=hs.ev x;rw[hx] at h;obtain⟨xs,hv,hr⟩:=h;have hlt:i<xs.length:=by rw[hr.1];exact(List.getElem?_eq_some_iff.1 hi).1
  refine⟨xs[i],?_,hr.2 i _ e (List.getElem?_eq_getElem hlt) hi⟩;simp only[execOp,hv];simp[Instr.extract,List.getElem?_eq_getElem hlt]
end
def Cap.mentions (id:Nat):Cap→Bool
 | .row i=>Nat.beq i id
 | .ptr i _=>Nat.beq i id
 | _=>false
def AV.mentions (id:Nat):AV→Bool
 | .row i=>Nat.beq i id
 | .ptr i _=>Nat.beq i id
 | .rs i _ _=>Nat.beq i id
 | .wp i _=>Nat.beq i id
 | .ws i _ _ _=>Nat.beq i id
 | .clo _ caps=>caps.any (Cap.mentions id)
 | .tupc caps=>caps.any (Cap.mentions id)
 | .aggc caps=>caps.any (Cap.mentions id)
 | .cond _ x=>x.mentions id
 | _=>false
def zEA (id:Nat) (x:AV):AV:=if x.mentions id then .top else x
def zNZ (id:Nat):Blk→Blk
 | .box e cells=> .box e (cells.map (zEA id))
 | b=>b
def AState.kill (S:AState) (id:Nat):AState:=
 {tmps:=S.tmps.map fun p=>(p.1,zEA id p.2),blks:=S.blks.map fun p=>(p.1,zNZ id p.2)}
theorem zK6 {α:Type} (dflt: α) (f: α→α) (hf:f dflt=dflt) (l:List (Nat×α)) (k:Nat):look dflt (l.map fun p=>(p.1,f p.2)) k=f (look dflt l k):=by
 induction l with
 | nil=>simp[look,hf]
 | cons p l ih=>obtain⟨i,x⟩:=p;simp only[List.map_cons,k8,ih];split<;>rfl
theorem zT7 (S:AState) (id t:Nat):(S.kill id).get t=zEA id (S.get t):=zK6 _ _ rfl _ _
theorem zGD (S:AState) (id i:Nat):(S.kill id).blk i=zNZ id (S.blk i):=zK6 _ _ rfl _ _
theorem z4Z (id:Nat) (x:AV):(match zEA id x with | .gh k=>k | _=>0)=(match x with | .gh k=>k | _=>0):=by
 unfold zEA;by_cases h:x.mentions id=true;simp only[h,if_true];cases x<;>first | rfl | (simp[AV.mentions] at h)
 simp only[h];rfl
def upd (ρ:Nat→Value) (id:Nat) (v:Value):Nat→Value:=fun i=>if i=id then v else ρ i
theorem HoldsC.upd {w w':World} {I I':Im} {ρ:Nat→Value} {v:Value} {x:Cap} (h:HoldsC w I ρ v x) (hs:Same I w w') (hI:∀b j,I b j→I' b j) (id:Nat) (u:Value) (hm:x.mentions id=false):
  HoldsC w' I' (upd ρ id u) v x:=by
 cases x with
 | top=>trivial
 | d y=>exact Rep.mono h hs hI
 | row i=>
  have:i≠id:=by intro e;subst e;simp[Cap.mentions] at hm
  simpa[HoldsC,Go.AV.upd,this] using h
 | ptr i off=>
  have:i≠id:=by intro e;subst e;simp[Cap.mentions] at hm
  simpa[HoldsC,Go.AV.upd,this] using h
theorem HoldsC.updL {w w':World} {I I':Im} {ρ:Nat→Value} {xs:List Value} {cs:List Cap} (h:Pw (HoldsC w I ρ) xs cs) (hs:Same I w w') (hI:∀b j,I b j→I' b j) (id:Nat) (u:Value) (hm:cs.any (Cap.mentions id)=false):
  Pw (HoldsC w' I' (Go.AV.upd ρ id u)) xs cs:=⟨h.1,fun j x c hx hc=>(h.2 j x c hx hc).upd hs hI id u (by
   have:=List.any_eq_false.1 hm c (List.mem_of_getElem? hc);simpa using this)⟩
theorem HoldsC.mono {w w':World} {I I':Im} {ρ:Nat→Value} {v:Value} {x:Cap} (h:HoldsC w I ρ v x) (hs:Same I w w') (hI:∀b j,I b j→I' b j):HoldsC w' I' ρ v x:=by
 cases x with
 | top=>trivial
 | d y=>exact Rep.mono h hs hI
 | row i=>exact h
 | ptr i off=>exact h
theorem Holds.upd {w w':World} {I I':Im} {ρ:Nat→Value} {v:Value} {x:AV} (h:Holds w I ρ v x) (hs:Same I w w') (hI:∀b j,I b j→I' b j) (id:Nat) (u:Value):
  Holds w' I' (upd ρ id u) v (zEA id x):=by
 unfold zEA;by_cases hm:x.mentions id=true
 ·simp[hm,Holds]
 ·simp only[hm]
  show Holds w' I' (Go.AV.upd ρ id u) v x
  induction x with
  | top=>trivial
  | d y=>exact Rep.mono h hs hI
  | row i=>
   have:i≠id:=by intro e;subst e;simp[AV.mentions] at hm
   simpa[Holds,Go.AV.upd,this] using h
  | ptr i off=>
   have:i≠id:=by intro e;subst e;simp[AV.mentions] at hm
   simpa[Holds,Go.AV.upd,this] using h
  | ip cells k=>
   obtain⟨b,off,xs,hv,hr,h1,hc⟩:=h;exact⟨b,off,xs,hv,hr.mono hs hI,h1,fun j y hj=>⟨(hs _ _ (hc j y hj).2).cell.trans (hc j y hj).1,hI _ _ (hc j y hj).2⟩⟩
  | tup ds=>obtain⟨xs,hv,hr⟩:=h;exact⟨xs,hv,hr.mono hs hI⟩
  | cond g y ih=>exact⟨fun hg=>ih (h.1 hg) (by simpa[AV.mentions] using hm),h.2⟩
  | gh k=>trivial
  | rs i off n=>
   have:i≠id:=by intro e;subst e;simp[AV.mentions] at hm
   simpa[Holds,Go.AV.upd,this] using h
  | clo f caps=>
   obtain⟨xs,hv,hp⟩:=h;exact⟨xs,hv,HoldsC.updL hp hs hI id u (by simpa[AV.mentions] using hm)⟩
  | tupc caps=>
   obtain⟨xs,hv,hp⟩:=h;exact⟨xs,hv,HoldsC.updL hp hs hI id u (by simpa[AV.mentions] using hm)⟩
  | aggc caps=>
   obtain⟨xs,hv,hp,h1⟩:=h;exact⟨xs,hv,HoldsC.updL hp hs hI id u (by simpa[AV.mentions] using hm),h1⟩
  | wp i off=>
   have:i≠id:=by intro e;subst e;simp[AV.mentions] at hm
   simpa[Holds,Go.AV.upd,this] using h
  | ws i off n tt=>
   have:i≠id:=by intro e;subst e;simp[AV.mentions] at hm
   simpa[Holds,Go.AV.upd,this] using h
theorem Holds.mono {w w':World} {I I':Im} {ρ:Nat→Value} {v:Value} {x:AV} (h:Holds w I ρ v x) (hs:Same I w w') (hI:∀b j,I b j→I' b j):Holds w' I' ρ v x:=by
 induction x with
 | top=>trivial
 | d y=>exact Rep.mono h hs hI
 | row i=>exact h
 | ptr i off=>exact h
 | ip cells k=>
  obtain⟨b,off,xs,hv,hr,h1,hc⟩:=h;exact⟨b,off,xs,hv,hr.mono hs hI,h1,fun j y hj=>⟨(hs _ _ (hc j y hj).2).cell.trans (hc j y hj).1,hI _ _ (hc j y hj).2⟩⟩
 | tup ds=>obtain⟨xs,hv,hr⟩:=h;exact⟨xs,hv,hr.mono hs hI⟩
 | cond g y ih=>exact⟨fun hg=>ih (h.1 hg),h.2⟩
 | gh k=>trivial
 | rs i off n=>exact h
 | clo f caps=>obtain⟨xs,hv,hp⟩:=h;exact⟨xs,hv,hp.imp fun _ _ h=>h.mono hs hI⟩
 | tupc caps=>obtain⟨xs,hv,hp⟩:=h;exact⟨xs,hv,hp.imp fun _ _ h=>h.mono hs hI⟩
 | aggc caps=>obtain⟨xs,hv,hp,h1⟩:=h;exact⟨xs,hv,hp.imp fun _ _ h=>h.mono hs hI,h1⟩
 | wp i off=>exact h
 | ws i off n tt=>exact h
theorem zKA {w w':World} {B e size n:Nat} {v:Value} {xs:List Value} (h:w.ownsRow B e size v n xs) (hb:∀g,v.ownBlock=some g→w'.heap[g]? =w.heap[g]?):w'.ownsRow B e size v n xs:=by
 refine⟨h.1,?_⟩;rcases h.2 with hn | ⟨g,cap,cur,rfl,hB,hh,rest⟩
 exact .inl hn;exact .inr ⟨g,cap,cur,rfl,hB,by rw[hb g rfl];exact hh,rest⟩
theorem zAT {v:Value} {g:Nat} (h:v.ownBlock=some g):blockOf v=some g:=by unfold Value.ownBlock at h;split at h;simpa[blockOf] using h;cases h
theorem BlkOk.mono {w w':World} {I:Im} {ρ:Nat→Value} {M:Nat→Prop} {i:Nat} {x:Blk} (h:BlkOk w I ρ M i x) (hs:Same I w w')
  (hb:∀b,blockOf (ρ i)=some b→w'.heap[b]? =w.heap[b]?):BlkOk w' I ρ M i x:=by
 cases x with
 | none=>trivial
 | row e size sh cells=>
  obtain⟨h0,n,xs,hl,hown,h1,hr,hI⟩:=h;exact⟨h0,n,xs,hl,zKA hown (fun g hg=>hb g (zAT hg)),h1,hr.mono hs (fun _ _ h=>h),hI⟩
 | box e cells=>
  obtain⟨b,arr,hv,hB,hh,h1,hr,hI⟩:=h;exact⟨b,arr,hv,hB,by rw[hb b (by rw[hv];rfl)];exact hh,h1,hr.imp fun _ _ h=>h.mono hs (fun _ _ h=>h),hI⟩
 | map es=>
  obtain⟨b,ents,clock,hv,hB,hh,hr,hI⟩:=h;exact⟨b,ents,clock,hv,hB,by rw[hb b (by rw[hv];rfl)];exact hh,hr.imp fun _ _ h=>⟨h.1,h.2.mono hs (fun _ _ h=>h)⟩,hI⟩
 | it es q=>
  obtain⟨b,bm,ents,clock,seen,hv,hB,hh,hI,hm,hmI,hr,hN,hq⟩:=h;exact⟨b,bm,ents,clock,seen,hv,hB,by rw[hb b (by rw[hv];rfl)];exact hh,hI,(hs _ _ hmI).map _ _ hm,hmI,hr.imp fun _ _ h=>⟨h.1,h.2.mono hs (fun _ _ h=>h)⟩,hN,hq⟩
 | win e size k cells=>
  obtain⟨A,n,c,xs,hv,hnc,hp,hl,hr,h1,hA⟩:=h;refine⟨A,n,c,xs,hv,hnc,hp,hl,hr.mono hs (fun _ _ h=>h),h1,?_⟩;rcases hA with hA | ⟨b,off,arr,hA,hB,hh,hrest⟩
  ·exact .inl hA
  ·exact .inr ⟨b,off,arr,hA,hB,by rw[hb b (by rw[hv,hA];rfl)];exact hh,hrest⟩
theorem BlkOk.upd {w w':World} {I:Im} {ρ:Nat→Value} {M:Nat→Prop} {i:Nat} {x:Blk} (h:BlkOk w I ρ M i x) (hs:Same I w w')
  (hb:∀b,blockOf (ρ i)=some b→w'.heap[b]? =w.heap[b]?) {id:Nat} (hne:i≠id) (u:Value):BlkOk w' I (upd ρ id u) M i (zNZ id x):=by
 have hρ:Go.AV.upd ρ id u i= ρ i:=by simp[Go.AV.upd,hne]
 cases x with
 | none=>trivial
 | row e size sh cells=>
  obtain⟨h0,n,xs,hl,hown,h1,hr,hI⟩:=h;refine⟨by rw[hρ];exact h0,n,xs,hl,?_,h1,hr.mono hs (fun _ _ h=>h),?_⟩
  ·rw[hρ];exact zKA hown (fun g hg=>hb g (zAT hg))
  ·rw[hρ];exact hI
 | box e cells=>
  obtain⟨b,arr,hv,hB,hh,h1,hr,hI⟩:=h;refine⟨b,arr,by rw[hρ];exact hv,hB,by rw[hb b (by rw[hv];rfl)];exact hh,h1,⟨by simpa using hr.1,fun j y av hj hav=>?_⟩,hI⟩
  rw[List.getElem?_map] at hav;cases hc:cells[j]? with
  | none=>simp[hc] at hav
  | some av'=>
   simp[hc] at hav;subst hav;exact(hr.2 j y av' hj hc).upd hs (fun _ _ h=>h) id u
 | map es=>
  obtain⟨b,ents,clock,hv,hB,hh,hr,hI⟩:=h;exact⟨b,ents,clock,by rw[hρ];exact hv,hB,by rw[hb b (by rw[hv];rfl)];exact hh,hr.imp fun _ _ h=>⟨h.1,h.2.mono hs (fun _ _ h=>h)⟩,hI⟩
 | it es q=>
  obtain⟨b,bm,ents,clock,seen,hv,hB,hh,hI,hm,hmI,hr,hN,hq⟩:=h;exact⟨b,bm,ents,clock,seen,by rw[hρ];exact hv,hB,by rw[hb b (by rw[hv];rfl)];exact hh,hI,(hs _ _ hmI).map _ _ hm,hmI,hr.imp fun _ _ h=>⟨h.1,h.2.mono hs (fun _ _ h=>h)⟩,hN,hq⟩
 | win e size k cells=>
  obtain⟨A,n,c,xs,hv,hnc,hp,hl,hr,h1,hA⟩:=h;refine⟨A,n,c,xs,by rw[hρ];exact hv,hnc,hp,hl,hr.mono hs (fun _ _ h=>h),h1,?_⟩
  rcases hA with hA | ⟨b,off,arr,hA,hB,hh,hrest⟩
  ·exact .inl hA
  ·exact .inr ⟨b,off,arr,hA,hB,by rw[hb b (by rw[hv,hA];rfl)];exact hh,hrest⟩
theorem BlkOk.widenI {w:World} {I I':Im} {ρ:Nat→Value} {M:Nat→Prop} {i:Nat} {x:Blk} (h:BlkOk w I ρ M i x) (hsub:∀b j,I b j→I' b j)
  (hx:∀b j,x≠ .none→blockOf (ρ i)=some b→I' b j→I b j):BlkOk w I' ρ M i x:=by
 have hs:Same I w w:=fun _ _ _=>KeepB.refl;cases x with
 | none=>trivial
 | row e size sh cells=>
  obtain⟨h0,n,xs,hl,hown,h1,hr,hI⟩:=h;exact⟨h0,n,xs,hl,hown,h1,hr.mono hs hsub,fun g j hg hi=>hI g j hg (hx g j (by simp) (zAT hg) hi)⟩
 | box e cells=>
  obtain⟨b,arr,hv,hB,hh,h1,hr,hI⟩:=h;exact⟨b,arr,hv,hB,hh,h1,hr.imp fun _ _ h=>h.mono hs hsub,fun j hi=>hI j (hx b j (by simp) (by rw[hv];rfl) hi)⟩
 | map es=>
  obtain⟨b,ents,clock,hv,hB,hh,hr,hI⟩:=h;exact⟨b,ents,clock,hv,hB,hh,hr.imp fun _ _ h=>⟨h.1,h.2.mono hs hsub⟩,fun j hi=>hI.1 j (hx b j (by simp) (by rw[hv];rfl) hi),hI.2⟩
 | it es q=>
  obtain⟨b,bm,ents,clock,seen,hv,hB,hh,hI,hm,hmI,hr,hN,hq⟩:=h;exact⟨b,bm,ents,clock,seen,hv,hB,hh,fun j hi=>hI j (hx b j (by simp) (by rw[hv];rfl) hi),hm,hsub _ _ hmI,hr.imp fun _ _ h=>⟨h.1,h.2.mono hs hsub⟩,hN,hq⟩
 | win e size k cells=>
  obtain⟨A,n,c,xs,hv,hnc,hp,hl,hr,h1,hA⟩:=h;refine⟨A,n,c,xs,hv,hnc,hp,hl,hr.mono hs hsub,h1,?_⟩;rcases hA with hA | ⟨b,off,arr,hA,hB,hh,hf,hc,hI⟩
  ·exact .inl hA
  ·exact .inr ⟨b,off,arr,hA,hB,hh,hf,hc,fun j h1 h2 hi=>hI j h1 h2 (hx b j (by simp) (by rw[hv,hA];rfl) hi)⟩
theorem BlkOk.mineM {w:World} {I:Im} {ρ:Nat→Value} {M M':Nat→Prop} {i:Nat} {x:Blk} (h:BlkOk w I ρ M i x)
  (hM:∀b,x≠ .none→blockOf (ρ i)=some b→M b→M' b):BlkOk w I ρ M' i x:=by
 cases x with
 | none=>trivial
 | row e size sh cells=>
  obtain⟨h0,rest⟩:=h;exact⟨⟨h0.1,fun g hg=>hM g (by simp) (zAT hg) (h0.2 g hg)⟩,rest⟩
 | box e cells=>
  obtain⟨b,arr,hv,hB,rest⟩:=h;exact⟨b,arr,hv,hM b (by simp) (by rw[hv];rfl) hB,rest⟩
 | map es=>
  obtain⟨b,ents,clock,hv,hB,rest⟩:=h;exact⟨b,ents,clock,hv,hM b (by simp) (by rw[hv];rfl) hB,rest⟩
 | it es q=>
  obtain⟨b,bm,ents,clock,seen,hv,hB,rest⟩:=h;exact⟨b,bm,ents,clock,seen,hv,hM b (by simp) (by rw[hv];rfl) hB,rest⟩
 | win e size k cells=>
  obtain⟨A,n,c,xs,hv,hnc,hp,hl,hr,h1,hA⟩:=h;refine⟨A,n,c,xs,hv,hnc,hp,hl,hr,h1,?_⟩;rcases hA with hA | ⟨b,off,arr,hA,hB,rest⟩
  ·exact .inl hA
  ·exact .inr ⟨b,off,arr,hA,hM b (by simp) (by rw[hv,hA];rfl) hB,rest⟩
theorem SatAt.blt {E:Env} {S:AState} {a:Act} {w:World} {I:Im} {ρ:Nat→Value} {C:Nat→Prop} (h:SatAt E S a w I ρ C):∀i b,S.blk i≠ .none→blockOf (ρ i)=some b→E.mine b∧b<w.heap.size:=by
 intro i b hi hb;have:=h.blks i;cases hx:S.blk i with
 | none=>exact absurd hx hi
 | row e size sh cells=>
  rw[hx] at this;obtain⟨hM,n,xs,hl,hown,_⟩:=this;rcases hown.2 with ⟨hn,_⟩ | ⟨g,cap,cur,hv,hB,hh,_⟩
  rw[hn] at hb;simp[blockOf] at hb;have hM2:=hM.2 g (by rw[hv];rfl)
  rw[hv] at hb;simp[blockOf] at hb;subst hb;exact⟨hM2,(Array.getElem?_eq_some_iff.1 hh).1⟩
 | box e cells=>
  rw[hx] at this;obtain⟨b',arr,hv,hB,hh,_⟩:=this;rw[hv] at hb;simp[blockOf] at hb;subst hb;exact⟨hB,(Array.getElem?_eq_some_iff.1 hh).1⟩
 | map es=>
  rw[hx] at this;obtain⟨b',ents,clock,hv,hB,hh,_⟩:=this;rw[hv] at hb;simp[blockOf] at hb;subst hb;exact⟨hB,(Array.getElem?_eq_some_iff.1 hh).1⟩
 | it es q=>
  rw[hx] at this;obtain⟨b',bm,ents,clock,seen,hv,hB,hh,_⟩:=this;rw[hv] at hb;simp[blockOf] at hb;subst hb;exact⟨hB,(Array.getElem?_eq_some_iff.1 hh).1⟩
 | win e size k cells=>
  rw[hx] at this;obtain⟨A,n,c,xs,hv,_,_,_,_,_,hA⟩:=this;rcases hA with ⟨hA,_⟩ | ⟨b',off,arr,hA,hB,hh,_⟩
  rw[hv,hA] at hb;simp[blockOf] at hb;rw[hv,hA] at hb;simp[blockOf] at hb;subst hb;exact⟨hB,(Array.getElem?_eq_some_iff.1 hh).1⟩
theorem SatAt.grow {E:Env} {S:AState} {a:Act} {w w':World} {I:Im} {ρ:Nat→Value} {C:Nat→Prop} (h:SatAt E S a w I ρ C) (hb:Below w.heap.size w w'):SatAt E S a w' I ρ C:=by
 have hs:Same I w w':=fun b j hi=>KeepB.of (hb.block b (h.old b j hi).1);refine⟨fun t=>(h.tmps t).mono hs (fun _ _ h=>h),fun i=>?_,h.dist,E.grow _ _ _ _ h.frame hb,h.sub,fun b j hi=>⟨Nat.lt_of_lt_of_le (h.old b j hi).1 hb.size,(h.old b j hi).2⟩,h.size,h.defers.keep fun r hr=>(hb.block r (Array.getElem?_eq_some_iff.1 hr).1).trans hr,h.cI,h.cB,h.nm⟩;cases hx:S.blk i with
 | none=>trivial
 | _=>
  rw[←hx];exact(h.blks i).mono hs (fun b hb'=>hb.block b (h.blt i b (by rw[hx];simp) hb').2)
theorem SatAt.cellBlk {E:Env} {S:AState} {a:Act} {w:World} {I:Im} {ρ:Nat→Value} {C:Nat→Prop} (h:SatAt E S a w I ρ C) {id b:Nat} (hid:S.blk id≠ .none) (hρ:blockOf (ρ id)=some b):∃o,w.heap[b]? =some o∧isData o=true:=by
 have:=h.blks id;cases hx:S.blk id with
 | none=>exact absurd hx hid
 | row e size sh cells=>
  rw[hx] at this;obtain⟨_,n,xs,hl,hown,_⟩:=this;rcases hown.2 with ⟨hn,_⟩ | ⟨g,cap,cur,hv,hB,hh,_⟩
  rw[hn] at hρ;simp[blockOf] at hρ;rw[hv] at hρ;simp[blockOf] at hρ;subst hρ;exact⟨_,hh,rfl⟩
 | box e cells=>
  rw[hx] at this;obtain⟨b',arr,hv,hB,hh,_⟩:=this;rw[hv] at hρ;simp[blockOf] at hρ;subst hρ;exact⟨_,hh,rfl⟩
 | map es=>
  rw[hx] at this;obtain⟨b',ents,clock,hv,hB,hh,_⟩:=this;rw[hv] at hρ;simp[blockOf] at hρ;subst hρ;exact⟨_,hh,rfl⟩
 | it es q=>
  rw[hx] at this;obtain⟨b',bm,ents,clock,seen,hv,hB,hh,_⟩:=this;rw[hv] at hρ;simp[blockOf] at hρ;subst hρ;exact⟨_,hh,rfl⟩
 | win e size k cells=>
  rw[hx] at this;obtain⟨A,n,c,xs,hv,_,_,_,_,_,hA⟩:=this;rcases hA with ⟨hA,_⟩ | ⟨b',off,arr,hA,hB,hh,_⟩
  rw[hv,hA] at hρ;simp[blockOf] at hρ;rw[hv,hA] at hρ;simp[blockOf] at hρ;subst hρ;exact⟨_,hh,rfl⟩
theorem SatAt.modify {E:Env} {S:AState} {a:Act} {w w':World} {I:Im} {ρ:Nat→Value} {C:Nat→Prop} (h:SatAt E S a w I ρ C) {id b:Nat} {x:Blk} (hg:w.grownBy w' (some b))
  (hid:S.blk id≠ .none) (hρ:blockOf (ρ id)=some b) (hs:Same I w w') (hx:BlkOk w' I ρ E.mine id x) (hE:E.wrB=true):SatAt E (S.setBlk id x) a w' I ρ C:=by
 have hcell:∃o,w.heap[b]? =some o∧isData o=true:=h.cellBlk hid hρ;refine⟨fun t=>(h.tmps t).mono hs (fun _ _ h=>h),fun i=>?_,fun i i' b' hne hi hi' hb=>?_,E.wr hE _ _ _ _ _ h.frame (Chg.of hg) (fun k hk=>by cases hk;exact⟨(h.blt id _ hid hρ).1,h.cB id _ hid hρ,hcell⟩) (fun b j hi=>hs b j (h.sub b j hi)),h.sub,
  fun b j hi=>⟨Nat.lt_of_lt_of_le (h.old b j hi).1 hg.size,(h.old b j hi).2⟩,h.size,h.defers.keep fun r hr=>(hg.block r (Array.getElem?_eq_some_iff.1 hr).1 (fun e=>by cases e;obtain⟨o,hc,hd⟩:=hcell;rw[hc] at hr;cases hr;cases hd)).trans hr,h.cI,fun i b' hi hb'=>?_,fun i v hv hi=>h.nm i v hv ?_⟩
 ·rw[jB]
  by_cases e:id=i
  ·subst e;simpa using hx
  ·simp only[e,if_false]
   cases hb:S.blk i with
   | none=>trivial
   | _=>
    rw[←hb];have hne':S.blk i≠ .none:=by rw[hb];simp
    exact(h.blks i).mono hs (fun b' hb'=>hg.block b' (h.blt i b' hne' hb').2 (fun he=>h.dist i id b' (fun e'=>e e'.symm) hne' hid hb' (by rw[hρ,he])))
 ·have key:∀i,(S.setBlk id x).blk i≠ .none→S.blk i≠ .none:=by
   intro i hi;rw[jB] at hi;by_cases e:id=i
   ·subst e;exact hid
   ·simpa[e] using hi
  exact h.dist i i' b' hne (key i hi) (key i' hi') hb
 ·refine h.cB i b' ?_ hb'
  rw[jB] at hi;by_cases e:id=i
  ·subst e;exact hid
  ·simpa[e] using hi
 ·rw[jB] at hi
  by_cases e:id=i
  ·subst e;exact hid
  ·simpa[e] using hi
theorem SatAt.update {E:Env} {S:AState} {a:Act} {w w':World} {I:Im} {ρ:Nat→Value} {C:Nat→Prop} (h:SatAt E S a w I ρ C) {row:Option Nat} (hg:w.grownBy w' row) {id:Nat} {u:Value} {x:Blk}
  (hrow:∀k,row=some k→S.blk id≠ .none∧blockOf (ρ id)=some k)
  (hs:Same I w w') (hu:∀b,blockOf u=some b→w.heap.size≤b∨(S.blk id≠ .none∧blockOf (ρ id)=some b)) (hx:BlkOk w' I (upd ρ id u) E.mine id x) (hE:row=none∨E.wrB=true) (hnm:E.nm id=none):
  SatAt E ((S.kill id).setBlk id x) a w' I (upd ρ id u) C:=by
 have hfr:E.fr ((S.kill id).setBlk id x).ghost C w':=by
  have hgh:((S.kill id).setBlk id x).ghost=S.ghost:=by
   unfold AState.ghost;rw[zOE,zT7];exact z4Z id _
  rw[hgh];rcases hE with rfl | hE
  ·exact E.grow _ _ _ _ h.frame ⟨hg.os,hg.tape,hg.output,hg.size,fun k hk=>hg.block k hk (by simp)⟩
  ·exact E.wr hE _ _ _ _ _ h.frame (Chg.of hg) (fun k hk=>⟨(h.blt id k (hrow k hk).1 (hrow k hk).2).1,h.cB id k (hrow k hk).1 (hrow k hk).2,h.cellBlk (hrow k hk).1 (hrow k hk).2⟩) (fun b j hi=>hs b j (h.sub b j hi))
 have blt:∀i b,S.blk i≠ .none→blockOf (ρ i)=some b→b<w.heap.size:=fun i b hi hb=>(h.blt i b hi hb).2;refine⟨fun t=>?_,fun i=>?_,fun i i' b hne hi hi' hb=>?_,hfr,h.sub,fun b j hb=>⟨Nat.lt_of_lt_of_le (h.old b j hb).1 hg.size,(h.old b j hb).2⟩,h.size,h.defers.keep fun r hr=>(hg.block r (Array.getElem?_eq_some_iff.1 hr).1 (fun e=>by
  obtain⟨h1,h2⟩:=hrow r e.symm;obtain⟨o,hc,hd⟩:=h.cellBlk h1 h2;rw[hc] at hr;cases hr;cases hd)).trans hr,h.cI,fun i b hi hb=>?_,fun i v hv hi=>?_⟩
 ·rw[zOE,zT7]
  exact(h.tmps t).upd hs (fun _ _ h=>h) id u
 ·rw[jB]
  by_cases e:id=i
  ·subst e;simpa using hx
  ·simp only[e,if_false]
   rw[zGD];cases hb:S.blk i with
   | none=>trivial
   | _=>
    rw[←hb];refine(h.blks i).upd hs (fun b hb'=>?_) (fun e'=>e e'.symm) u;have hne':S.blk i≠ .none:=by rw[hb];simp
    refine hg.block b (blt i b hne' hb') (fun he=>?_);obtain⟨h1,h2⟩:=hrow b he.symm;exact h.dist i id b (fun e'=>e e'.symm) hne' h1 hb' h2
 ·have key:∀i,((S.kill id).setBlk id x).blk i≠ .none→i≠id→S.blk i≠ .none:=by
   intro i hi hn;rw[jB,if_neg (fun e=>hn e.symm),zGD] at hi;intro e;rw[e] at hi;exact hi rfl
  have updne:∀i,i≠id→upd ρ id u i= ρ i:=fun i hn=>by simp[upd,hn]
  have upde:upd ρ id u id=u:=by simp[upd]
  by_cases e:i=id
  ·have e':i'≠id:=fun e'=>hne (e.trans e'.symm)
   subst e;rw[upde] at hb;rw[updne i' e'];intro hb';rcases hu b hb with hb2 | ⟨h1,h2⟩
   ·have:=blt i' b (key i' hi' e') hb';omega
   ·exact h.dist i i' b hne h1 (key i' hi' e') h2 hb'
  ·by_cases e':i'=id
   ·subst e'
    rw[updne i e] at hb;rw[upde];intro hb';rcases hu b hb' with hb2 | ⟨h1,h2⟩
    ·have:=blt i b (key i hi e) hb;omega
    ·exact h.dist i i' b hne (key i hi e) h1 hb h2
   ·rw[updne i e] at hb
    rw[updne i' e'];exact h.dist i i' b hne (key i hi e) (key i' hi' e') hb
 ·by_cases e:i=id
  ·subst e
   have hb':blockOf u=some b:=by simpa[upd] using hb
   rcases hu b hb' with h1 | ⟨h1,h2⟩
   ·intro hc
    have:=E.csize _ _ _ h.frame _ hc;omega
   ·exact h.cB i b h1 h2
  ·refine h.cB i b ?_ (by simpa[upd,e] using hb)
   rw[jB,if_neg (fun e'=>e e'.symm),zGD] at hi;intro e';rw[e'] at hi;exact hi rfl
 ·have hne:i≠id:=fun e=>by rw[e,hnm] at hv;cases hv
  have:upd ρ id u i= ρ i:=by simp[upd,hne]
  rw[this];refine h.nm i v hv ?_;rw[jB,if_neg (fun e'=>hne e'.symm),zGD] at hi;intro e';rw[e'] at hi;exact hi rfl
end Go.AV
namespace Go.AV
open Go.RowKit
structure OneTy (P:Program) (t:TypeId):Prop where
 agg:∀w,(isAgg t).run P w= .ok false w
 size:∀w,(sizeOf t).run P w= .ok 1 w
structure AggTy (P:Program) (t n:Nat):Prop where
 agg:∀w,(isAgg t).run P w= .ok true w
 size:∀w,(sizeOf t).run P w= .ok n w
structure SlTy (P:Program) (t e size bytes:Nat) (z:Value):Prop where
 und:P.underlying t=some (.slice e)
 info:∃i,P.info? e=some i∧i.zero=some z∧i.size=size∧i.bytes=bytes
 zs:z.cells.size=size
 pos:0<size
 one:∀c∈z.cells.toList,c.oneCell'=true
theorem OneTy.of {P:Program} {t:TypeId} {ds:TypeDesc} (hu:P.underlying t=some ds) (hd:(match ds with | .struct _ | .array _ _=>true | _=>false)=false) (hi:(P.info? t).map (·.size)=some 1):OneTy P t:=by
 refine⟨fun w=>?_,fun w=>?_⟩
 · cases ds<;>simp_all [isAgg,run_underlying hu]
 ·
  cases h:P.info? t with
  | none=>simp[h] at hi
  | some i=>simp[h] at hi;simp[sizeOf,typeInfo,h,hi]
theorem AggTy.of {P:Program} {t n:Nat} {ds:TypeDesc} (hu:P.underlying t=some ds) (hd:(match ds with | .struct _ | .array _ _=>true | _=>false)=true) (hi:(P.info? t).map (·.size)=some n):AggTy P t n:=by
 refine⟨fun w=>?_,fun w=>?_⟩
 · cases ds<;>simp_all [isAgg,run_underlying hu]
 ·
  cases h:P.info? t with
  | none=>simp[h] at hi
  | some i=>simp[h] at hi;simp[sizeOf,typeInfo,h,hi]
theorem SlTy.of {P:Program} {t e size bytes:Nat} {z:Value} (hu:P.underlying t=some (.slice e)) (hi:(P.info? e).map (fun i=>(i.zero,i.size,i.bytes))=some (some z,size,bytes))
  (hz:z.cells.size=size) (hp:0<size) (h1:z.cells.toList.all Value.oneCell'=true):SlTy P t e size bytes z:=by
 refine⟨hu,?_,hz,hp,fun c hc=>List.all_eq_true.1 h1 c hc⟩;cases h:P.info? e with
 | none=>simp[h] at hi
 | some i=>simp[h] at hi;exact⟨i,rfl,hi.1,hi.2.1,hi.2.2⟩
theorem SlTy.size {P:Program} {t e size bytes:Nat} {z:Value} (h:SlTy P t e size bytes z) (w:World):(sizeOf e).run P w= .ok size w:=by obtain⟨i,hi,_,hs,_⟩:=h.info;simp[sizeOf,typeInfo,hi,hs]
theorem zE1 (b off j:Nat):(⟨b,off,none⟩:Addr).add j=⟨b,off+j,none⟩:=by unfold Addr.add;split<;>simp_all
theorem Rep.sl_inv {w:World} {I:Im} {v:Value} {size:Nat} {cells:List DV} (h:Rep w I v (.sl size cells)):
  ∃A n c xs,v= .slice A n c∧n≤c∧cells.length=n*size∧Reps w I xs cells∧(∀x∈xs,x.oneCell'=true)∧
   (0<n→∃b off,A=some ⟨b,off,none⟩∧∀(j:Nat) x,xs[j]? =some x→w.cell? ⟨b,off+j,none⟩=some x∧I b (off+j)):=by
 cases h with
 | nil A c=>exact⟨A,0,c,[],rfl,by omega,by simp,Pw.nil,by simp,fun h=>absurd h (by omega)⟩
 | sl b off n c size xs cells hn hcap hl hx hc h1 hr=>exact⟨_,n,c,xs,rfl,by omega,hl,⟨hx,hr⟩,h1,fun _=>⟨b,off,rfl,hc⟩⟩
theorem zHP {n m size:Nat} {cells:List DV} (h:cells.length=n*size) (h':cells.length=m*size) (hp:0<size):n=m:=
 Nat.eq_of_mul_eq_mul_right hp (h.symm.trans h')
section
variable {P:Program} {r:Option Nat} {E:Env} {S:AState} {d:Nat} {ty:TypeId} {pos:String} {af:Array Edge} {g:Option (Nat×Bool)}
theorem zN0 (w:World) {t e:TypeId} (hu:P.underlying t=some (.slice e)) (A:Option Addr) (n c:Nat) (x:Operand) (a:Act) (hx:a.eval x= .slice A n c) (o:Oper)
  (ho:o.op= .call {callee:= .builtin .len,args:= #[x],argTypes:= #[t]}):(execOp a.eval o).run P w= .ok (.value (.int .i64 n)) w:=by
 unfold execOp;simp only[ho,resolve,List.map_toArray,List.map_cons,List.map_nil,hx];simp[invoke,builtin,Builtin.len_,run_underlying hu,goInt]
theorem zWW {t e size bytes:Nat} {z:Value} {x:Operand} {cells:List DV} {n:Nat} (hn:d<E.n) (hT:SlTy P t e size bytes z) (hx:S.ev x= .d (.sl size cells)) (hl:cells.length=n*size):
  j9 P r E ⟨some d,.call {callee:= .builtin .len,args:= #[x],argTypes:= #[t]},ty,pos,af,g⟩ S (S.put d (.d (.v (.int .i64 n)))):=
 jQ rfl hn (by simp) fun A w I ρ C hs=>by
  have h:=hs.ev x;rw[hx] at h;obtain⟨A',n',c,xs,hv,_,hl',_⟩:=Rep.sl_inv h;obtain rfl:=zHP hl' hl hT.pos;exact zN0 w hT.und A' n' c x A hv _ rfl
theorem zSA {t e size bytes:Nat} {z:Value} {x:Operand} {id:Nat} {sh:Bool} {cells:List DV} {n:Nat} (hn:d<E.n) (hT:SlTy P t e size bytes z) (hx:S.ev x= .row id) (hb:S.blk id= .row e size sh cells) (hl:cells.length=n*size):
  j9 P r E ⟨some d,.call {callee:= .builtin .len,args:= #[x],argTypes:= #[t]},ty,pos,af,g⟩ S (S.put d (.d (.v (.int .i64 n)))):=
 jQ rfl hn (by simp) fun A w I ρ C hs=>by
  have h:=hs.ev x;rw[hx] at h;have hbk:=hs.blks id;rw[hb] at hbk;obtain⟨h0,n',xs,hl',hown,_⟩:=hbk;obtain rfl:=zHP hl' hl hT.pos;have hv:A.eval x= ρ id:=h;rcases hown.2 with ⟨h1,rfl⟩ | ⟨gb,cap,cur,h1,_⟩
  ·exact zN0 w hT.und _ _ _ x A (hv.trans h1) _ rfl
  ·exact zN0 w hT.und _ _ _ x A (hv.trans h1) _ rfl
theorem zSB {t:TypeId} {x:Operand} {s:ByteArray} (hn:d<E.n) (hu:P.underlying t=some .string) (hx:S.ev x= .d (.v (.string s))):
  j9 P r E ⟨some d,.call {callee:= .builtin .len,args:= #[x],argTypes:= #[t]},ty,pos,af,g⟩ S (S.put d (.d (.v (.int .i64 s.size)))):=
 jQ rfl hn (by simp) fun Ac w I ρ C hs=>by
  simp only[execOp,resolve,List.map_toArray,List.map_cons,List.map_nil,hs.val hx];simp[invoke,builtin,Builtin.len_,run_underlying hu,goInt]
theorem zHB (w:World) {t e size:Nat} (hu:P.underlying t=some (.slice e)) (hsz:(sizeOf e).run P w= .ok size w) (b off n c:Nat) (kk:IntKind) (k:Nat) (hk:k<n):
  (Instr.indexAt t (.slice (some ⟨b,off,none⟩) n c) (.int kk k)).run P w= .ok (.pointer (some ⟨b,off+k*size,none⟩)) w:=by
 simp[Instr.indexAt,asIntOf,run_underlying hu,hsz,zE1,hk]
theorem zSC {t e size bytes:Nat} {z:Value} {x ix:Operand} {cells:List DV} {n k:Nat} {kk:IntKind} {i:Int} (hn:d<E.n) (hT:SlTy P t e size bytes z) (hx:S.ev x= .d (.sl size cells))
  (hi:S.ev ix= .d (.v (.int kk i))) (hk:i=(k:Int)) (hl:cells.length=n*size) (hlt:k<n):
  j9 P r E ⟨some d,.indexAddr t x ix,ty,pos,af,g⟩ S (S.put d (.ip cells (k*size))):=
 kC rfl hn (by simp) fun A w I ρ C hs=>by
  subst hk;have h:=hs.ev x;rw[hx] at h;obtain⟨A',n',c,xs,hv,_,hl',hr,h1,hc⟩:=Rep.sl_inv h;obtain rfl:=zHP hl' hl hT.pos;obtain⟨b,off,rfl,hc'⟩:=hc (by omega);refine⟨_,?_,b,off,xs,rfl,hr,h1,hc'⟩;simp only[execOp,hv,hs.val hi,Sem.run_bind,zHB w hT.und (hT.size w) b off n' c kk k hlt];rfl
theorem zOH {t e size bytes:Nat} {z:Value} {x ix:Operand} {id:Nat} {sh:Bool} {cells:List DV} {n k:Nat} {kk:IntKind} {i:Int} (hn:d<E.n) (hT:SlTy P t e size bytes z) (hx:S.ev x= .row id)
  (hb:S.blk id= .row e size sh cells) (hi:S.ev ix= .d (.v (.int kk i))) (hk:i=(k:Int)) (hl:cells.length=n*size) (hlt:k<n):
  j9 P r E ⟨some d,.indexAddr t x ix,ty,pos,af,g⟩ S (S.put d (.ptr id (k*size))):=
 kC rfl hn (by simp) fun A w I ρ C hs=>by
  subst hk;have h:=hs.ev x;rw[hx] at h;have hv:A.eval x= ρ id:=h;have hbk:=hs.blks id;rw[hb] at hbk;obtain⟨h0,n',xs,hl',hown,_⟩:=hbk;obtain rfl:=zHP hl' hl hT.pos;rcases hown.2 with ⟨h1,rfl⟩ | ⟨gb,cap,cur,h1,_⟩
  ·exact absurd hlt (by omega)
  ·refine⟨_,?_,gb,by rw[h1];rfl,rfl⟩
   simp only[execOp,hv,h1,hs.val hi,Sem.run_bind,zHB w hT.und (hT.size w) gb 0 n' cap kk k hlt];simp
theorem zE4 (w:World) {t:TypeId} (hT:OneTy P t) (b off:Nat) (v:Value) (hc:w.cell? ⟨b,off,none⟩=some v):(Instr.loadAt t (.pointer (some ⟨b,off,none⟩))).run P w= .ok v w:=by simp[Instr.loadAt,Instr.sureAddr,loadVar,hT.agg,run_load,hc]
theorem zCR (w:World) {t n:Nat} (hT:AggTy P t n) (b off:Nat) (vs:List Value) (hl:vs.length=n) (hc:∀j v,vs[j]? =some v→w.cell? ⟨b,off+j,none⟩=some v):
  (Instr.loadAt t (.pointer (some ⟨b,off,none⟩))).run P w= .ok (.agg vs.toArray) w:=by
 subst hl;have:=run_loadCells_list (P:=P) w ⟨b,off,none⟩ vs (fun j v hj=>by rw[zE1];exact hc j v hj)
 simp[Instr.loadAt,Instr.sureAddr,loadVar,hT.agg,hT.size,this]
theorem zSD {t:TypeId} {x:Operand} {cells:List DV} {off:Nat} {e:DV} (hn:d<E.n) (hT:OneTy P t) (hx:S.ev x= .ip cells off) (hc:cells[off]? =some e):
  j9 P r E ⟨some d,.load t x,ty,pos,af,g⟩ S (S.put d (.d e)):=
 kC rfl hn (by simp) fun A w I ρ C hs=>by
  have h:=hs.ev x;rw[hx] at h;obtain⟨b,o,xs,hv,hr,h1,hcc⟩:=h;have hlt:off<xs.length:=by rw[hr.1];exact(List.getElem?_eq_some_iff.1 hc).1
  have hx':=List.getElem?_eq_getElem hlt;refine⟨xs[off],?_,hr.2 off _ e hx' hc⟩;simp only[execOp,hv,Sem.run_bind,zE4 w hT b (o+off) _ (hcc off _ hx').1];rfl
theorem zP2 {t n:Nat} {x:Operand} {cells:List DV} {off:Nat} {es:List DV} (hn:d<E.n) (hT:AggTy P t n) (hx:S.ev x= .ip cells off) (hc:(cells.drop off).take n=es) (hl:es.length=n):
  j9 P r E ⟨some d,.load t x,ty,pos,af,g⟩ S (S.put d (.d (.agg es))):=
 kC rfl hn (by simp) fun A w I ρ C hs=>by
  have h:=hs.ev x;rw[hx] at h;obtain⟨b,o,xs,hv,hr,h1,hcc⟩:=h;have hlen:((xs.drop off).take n).length=n:=by
   have:((cells.drop off).take n).length=n:=by rw[hc];exact hl
   simp only[List.length_take,List.length_drop] at this ⊢;rw[hr.1];exact this
  refine⟨.agg ((xs.drop off).take n).toArray,?_,.agg _ _ (by rw[hlen,hl]) (fun x hx=>h1 x (List.mem_of_mem_drop (List.mem_of_mem_take hx))) (fun j x e hx he=>?_)⟩
  ·simp only[execOp,hv,Sem.run_bind]
   rw[zCR w hT b (o+off) _ hlen]
   ·rfl
   ·intro j v hj
    rw[List.getElem?_take] at hj;split at hj
    ·rw[List.getElem?_drop] at hj
     rw[Nat.add_assoc];exact(hcc _ v hj).1
    ·cases hj
  ·subst hc
   rw[List.getElem?_take] at hx he;split at hx
   ·rename_i hlt
    rw[if_pos hlt] at he;rw[List.getElem?_drop] at hx he;exact hr.2 _ x e hx he
   ·cases hx
theorem zP3 {t:TypeId} {x:Operand} {id off eb:Nat} {cells:List AV} {av:AV} (hn:d<E.n) (hT:OneTy P t) (hx:S.ev x= .ptr id off) (hb:S.blk id= .box eb cells) (hc:cells[off]? =some av):
  j9 P r E ⟨some d,.load t x,ty,pos,af,g⟩ S (S.put d av):=
 kC rfl hn (by simp) fun A w I ρ C hs=>by
  have h:=hs.ev x;rw[hx] at h;obtain⟨b,hρ,hv⟩:=h;have hbk:=hs.blks id;rw[hb] at hbk;obtain⟨b',arr,hρ',hB,hh,h1,hr,hI⟩:=hbk;rw[hρ'] at hρ;simp[blockOf] at hρ;subst hρ;have hlt:off<arr.size:=by rw[←Array.length_toList,hr.1];exact(List.getElem?_eq_some_iff.1 hc).1
  have hx':arr[off]? =some arr[off]:=Array.getElem?_eq_getElem hlt;refine⟨arr[off],?_,hr.2 off _ av (by simp[hlt]) hc⟩;simp only[execOp,hv,Sem.run_bind];rw[zE4 w hT b' off arr[off] (by rw[cell_of_row w b' off arr eb (0,0) hh];exact hx')]
  rfl
theorem zQU {w:World} {I:Im} {ρ:Nat→Value} {M:Nat→Prop} {id e size:Nat} {sh:Bool} {cells:List DV} (h:BlkOk w I ρ M id (.row e size sh cells)) {b:Nat} (hb:blockOf (ρ id)=some b):
  ∃xs,Reps w I xs cells∧(∀x∈xs,x.oneCell'=true)∧∀(j:Nat) x,xs[j]? =some x→w.cell? ⟨b,j,none⟩=some x:=by
 obtain⟨h0,n',xs,hl',hown,h1,hr,_⟩:=h;refine⟨xs,hr,h1,fun j x hj=>?_⟩;rcases hown.2 with ⟨h1,rfl⟩ | ⟨gb,cap,cur,h1,_⟩
 ·rw[h1] at hb;cases hb
 ·rw[h1] at hb
  simp[blockOf] at hb;subst hb;have:=hown.cells (g:=gb) (by rw[h1];rfl) j x hj
  rw[zE1] at this;simpa using this
theorem zP4 {t:TypeId} {x:Operand} {id off e size:Nat} {sh:Bool} {cells:List DV} {y:DV} (hn:d<E.n) (hT:OneTy P t) (hx:S.ev x= .ptr id off) (hb:S.blk id= .row e size sh cells) (hc:cells[off]? =some y):
  j9 P r E ⟨some d,.load t x,ty,pos,af,g⟩ S (S.put d (.d y)):=
 kC rfl hn (by simp) fun A w I ρ C hs=>by
  have h:=hs.ev x;rw[hx] at h;obtain⟨b,hρ,hv⟩:=h;have hbk:=hs.blks id;rw[hb] at hbk;obtain⟨xs,hr,h1,hcc⟩:=zQU hbk hρ;have hlt:off<xs.length:=by rw[hr.1];exact(List.getElem?_eq_some_iff.1 hc).1
  have hx':=List.getElem?_eq_getElem hlt;refine⟨xs[off],?_,hr.2 off _ y hx' hc⟩;simp only[execOp,hv,Sem.run_bind,zE4 w hT b off _ (hcc off _ hx')];rfl
theorem zOI {t n:Nat} {x:Operand} {id off e size:Nat} {sh:Bool} {cells es:List DV} (hn:d<E.n) (hT:AggTy P t n) (hx:S.ev x= .ptr id off) (hb:S.blk id= .row e size sh cells)
  (hc:(cells.drop off).take n=es) (hl:es.length=n):
  j9 P r E ⟨some d,.load t x,ty,pos,af,g⟩ S (S.put d (.d (.agg es))):=
 kC rfl hn (by simp) fun A w I ρ C hs=>by
  have h:=hs.ev x;rw[hx] at h;obtain⟨b,hρ,hv⟩:=h;have hbk:=hs.blks id;rw[hb] at hbk;obtain⟨xs,hr,h1,hcc⟩:=zQU hbk hρ;have hlen:((xs.drop off).take n).length=n:=by
   have:((cells.drop off).take n).length=n:=by rw[hc];exact hl
   simp only[List.length_take,List.length_drop] at this ⊢;rw[hr.1];exact this
  refine⟨.agg ((xs.drop off).take n).toArray,?_,.agg _ _ (by rw[hlen,hl]) (fun x hx=>h1 x (List.mem_of_mem_drop (List.mem_of_mem_take hx))) (fun j x e hx he=>?_)⟩
  ·simp only[execOp,hv,Sem.run_bind]
   rw[zCR w hT b off _ hlen]
   ·rfl
   ·intro j v hj
    rw[List.getElem?_take] at hj;split at hj
    ·rw[List.getElem?_drop] at hj
     exact hcc _ v hj
    ·cases hj
  ·subst hc
   rw[List.getElem?_take] at hx he;split at hx
   ·rename_i hlt
    rw[if_pos hlt] at he;rw[List.getElem?_drop] at hx he;exact hr.2 _ x e hx he
   ·cases hx
theorem zER {o:Oper} {S':AState} (hd:o.dst=none) (hnd:∀c,o.op≠ .defer c)
  (h:∀a w I ρ C,SatAt E S a w I ρ C→∃w',(execOp a.eval o).run P w= .ok .skip w'∧Sat E S' a w'):j9 P r E o S S':=by
 rintro a w K Q ⟨I,ρ,C,hs⟩ hk
 obtain⟨w',hr,hv⟩:=h a w I ρ C hs;refine⟨fun f _=>trivial,?_⟩;rw[Oper.semAt_eq _ _ _ hnd,hr];refine hk _ _ ?_;rw[hd];exact hv
theorem zJS {v:Value} (h:v.oneCell'=true):v.cells= #[v]:=by cases v<;>simp_all [Value.oneCell',Value.cells]
theorem zOJ (w:World) {t:TypeId} (hT:OneTy P t) {b off e:Nat} {arr:Array Value} {v:Value} (hh:w.heap[b]? =some (.cells arr e (0,0))) (hlt:off<arr.size) (h1:v.oneCell'=true):
  (Instr.storeAt t (.pointer (some ⟨b,off,none⟩)) v).run P w= .ok () (w.setRow b (arr.toList.set off v).toArray):=by
 have:=run_storeCells_at P b off e [v] 0 arr w hh (by simp;omega) (by simpa using h1)
 have e1:arr.toList.take off++ [v]++arr.toList.drop (off+1)=arr.toList.set off v:=by
  rw[List.set_eq_take_append_cons_drop,if_pos (by simpa using hlt)];simp
 simp only[Nat.add_zero,List.length_singleton,e1] at this;simp[Instr.storeAt,Instr.sureAddr,storeVar,hT.size,zJS h1,this]
theorem zOK (w:World) {t n:Nat} (hT:AggTy P t n) {b off e:Nat} {arr:Array Value} {vs:List Value} (hh:w.heap[b]? =some (.cells arr e (0,0))) (hlt:off+n≤arr.size) (hl:vs.length=n) (h1:∀v∈vs,v.oneCell'=true):
  (Instr.storeAt t (.pointer (some ⟨b,off,none⟩)) (.agg vs.toArray)).run P w= .ok () (w.setRow b (arr.toList.take off++vs++arr.toList.drop (off+n)).toArray):=by
 subst hl;have:=run_storeCells_at P b off e vs 0 arr w hh (by simpa using hlt) h1;simp only[Nat.add_zero] at this;simp only[Instr.storeAt,Instr.sureAddr,storeVar,Sem.run_bind,Sem.run_pure,Result.andThen_ok,hT.size,Value.cells];simp[this]
theorem zCS (w:World) (b:Nat) (arr:Array Value):w.grownBy (w.setRow b arr) (some b):=
 ⟨rfl,rfl,rfl,by simp,fun k _ hk=>setRow_other w b k arr (fun e=>hk (by rw[e]))⟩
theorem vG {w:World} {I:Im} {b:Nat} {arr:Array Value} (h:∀j,¬I b j):Same I w (w.setRow b arr):=by intro b' j hi;have:b'≠b:=fun e=>h j (e▸hi);exact KeepB.of (setRow_other w b b' arr this)
def AV.one:AV→Bool
 | .d (.v u)=>u.oneCell'
 | .d (.sl _ _)=>true
 | .d (.pt _)=>true
 | .d (.fn _ _)=>true
 | .d (.bm _ _)=>true
 | .d (.mp _ _)=>true
 | .row _=>true
 | .ptr _ _=>true
 | .clo _ _=>true
 | _=>false
theorem zSE {w:World} {I:Im} {ρ:Nat→Value} {M:Nat→Prop} {S:AState} (hb:∀id,BlkOk w I ρ M id (S.blk id)) {v:Value} {av:AV} (h:Holds w I ρ v av) (h1:av.one=true)
  (hr:∀id,av= .row id→S.blk id≠ .none):v.oneCell'=true:=by
 cases av with
 | d x=>
  cases x with
  | v u=>cases h;simpa[AV.one] using h1
  | sl s c=>obtain⟨A,n,c,xs,rfl,_⟩:=Rep.sl_inv h;rfl
  | agg c=>simp[AV.one] at h1
  | pt c=>cases h;rfl
  | fn f c=>cases h;rfl
  | bm f c=>cases h;rfl
  | mp ks vs=>cases h;rfl
 | row id=>
  have hv:v= ρ id:=h;have hk:=hb id;cases hx:S.blk id with
  | none=>exact absurd hx (hr id rfl)
  | row e size sh cells=>
   rw[hx] at hk;obtain⟨_,n,xs,hl,hown,_⟩:=hk;rcases hown.2 with ⟨hn,_⟩ | ⟨g,cap,cur,hn,_⟩<;>rw[hv,hn]<;>rfl
  | box e cells=>
   rw[hx] at hk;obtain⟨b',arr,hn,_⟩:=hk;rw[hv,hn];rfl
  | map es=>
   rw[hx] at hk;obtain⟨b',ents,clock,hn,_⟩:=hk;rw[hv,hn];rfl
  | it es q=>
   rw[hx] at hk;obtain⟨b',bm,ents,clock,seen,hn,_⟩:=hk;rw[hv,hn];rfl
  | win e size k cells=>
   rw[hx] at hk;obtain⟨A,n,c,xs,hn,_⟩:=hk;rw[hv,hn];rfl
 | ptr id off=>obtain⟨b,_,hv⟩:=h;rw[hv];rfl
 | clo f caps=>obtain⟨xs,hv,_⟩:=h;rw[hv];rfl
 | _=>simp[AV.one] at h1
def zT8 (S:AState):AV→Bool
 | .row id=>match S.blk id with | .none=>false | _=>true
 | _=>true
theorem zWX {S:AState} {av:AV} (h:zT8 S av=true):∀id,av= .row id→S.blk id≠ .none:=by
 rintro id rfl e
 simp[zT8,e] at h
theorem zGE {t:TypeId} {x y:Operand} {id off eb:Nat} {cells:List AV} (hT:OneTy P t) (hx:S.ev x= .ptr id off) (hb:S.blk id= .box eb cells) (hlt:off<cells.length)
  (h1:(S.ev y).one=true) (hr:zT8 S (S.ev y)=true) (hE:E.wrB=true):
  j9 P r E ⟨none,.store t x y,ty,pos,af,g⟩ S (S.setBlk id (.box eb (cells.set off (S.ev y)))):=
 zER rfl (by simp) fun A w I ρ C hs=>by
  have h:=hs.ev x;rw[hx] at h;obtain⟨b,hρ,hv⟩:=h;have hbk:=hs.blks id;rw[hb] at hbk;obtain⟨b',arr,hρ',hB,hh,h1',hpw,hI⟩:=hbk;have hbb:b'=b:=by rw[hρ'] at hρ;simpa[blockOf] using hρ
  subst hbb;have hy:=hs.ev y;have hone:=zSE hs.blks hy h1 (zWX hr);have hlt':off<arr.size:=by rw[←Array.length_toList,hpw.1];exact hlt
  refine⟨w.setRow b' (arr.toList.set off (A.eval y)).toArray,?_,I,ρ,C,hs.modify (zCS w b' _) (by rw[hb];simp) hρ (vG hI) ⟨b',_,hρ',hB,setRow_heap w b' arr _ eb _ hh,?_,?_,hI⟩ hE⟩
  ·simp only[execOp,hv,Sem.run_bind,zOJ w hT hh hlt' hone]
   rfl
  ·intro u hu
   simp only at hu;rcases List.mem_or_eq_of_mem_set hu with hu | hu
   ·exact h1' u hu
   ·rw[hu];exact hone
  ·exact(hpw.imp fun _ _ h=>h.mono (vG hI) (fun _ _ h=>h)).set (hy.mono (vG hI) (fun _ _ h=>h)) off
theorem zOL {t:TypeId} {x y:Operand} {id off e size:Nat} {cells:List DV} {u:DV} (hT:OneTy P t) (hx:S.ev x= .ptr id off) (hb:S.blk id= .row e size false cells) (hlt:off<cells.length)
  (hy:S.ev y= .d u) (h1:(AV.d u).one=true) (hE:E.wrB=true):
  j9 P r E ⟨none,.store t x y,ty,pos,af,g⟩ S (S.setBlk id (.row e size false (cells.set off u))):=
 zER rfl (by simp) fun A w I ρ C hs=>by
  have h:=hs.ev x;rw[hx] at h;obtain⟨b,hρ,hv⟩:=h;have hbk:=hs.blks id;rw[hb] at hbk;obtain⟨h0,n,xs,hl,hown,h1',hpw,hI⟩:=hbk;have hyv:=hs.ev y;rw[hy] at hyv;have hone:=zSE hs.blks hyv h1 (by intro _ e;cases e)
  rcases hown.2 with ⟨hn,_⟩ | ⟨gb,cap,cur,hn,hB,hh,hnc,hcm,hcs,htk⟩
  ·rw[hn] at hρ;cases hρ
  ·have hbb:gb=b:=by rw[hn] at hρ;simpa[blockOf] using hρ
   subst hbb;have hI':∀j,¬I gb j:=fun j hj=>by have:=(hI gb j (by rw[hn];rfl) hj).1;cases this
   have hxl:xs.length=n*size:=hown.1;have hlt':off<cur.size:=by rw[hcs];rw[hl] at hlt;exact Nat.lt_of_lt_of_le hlt (Nat.mul_le_mul_right _ hnc)
   refine⟨w.setRow gb (cur.toList.set off (A.eval y)).toArray,?_,I,ρ,C,hs.modify (zCS w gb _) (by rw[hb];simp) hρ (vG hI') ⟨h0,n,xs.set off (A.eval y),by simp[hl],⟨by simp[hxl],.inr ⟨gb,cap,_,hn,hB,setRow_heap w gb cur _ e _ hh,hnc,hcm,?_,?_⟩⟩,?_,?_,?_⟩ hE⟩
   ·simp only[execOp,hv,Sem.run_bind,zOJ w hT hh hlt' hone]
    rfl
   ·simp[hcs]
   ·simp only[List.take_set,htk]
   ·intro v hv'
    rcases List.mem_or_eq_of_mem_set hv' with hu | hu
    ·exact h1' v hu
    ·rw[hu];exact hone
   ·exact(hpw.imp fun _ _ h=>h.mono (vG hI') (fun _ _ h=>h)).set (Rep.mono hyv (vG hI') (fun _ _ h=>h)) off
   ·intro g' j hg' hi
    rw[hn] at hg';simp[Value.ownBlock] at hg';subst hg';exact absurd hi (hI' j)
theorem zOM (w:World) (o:Obj) {b:Nat} (h:b<w.heap.size):(w.alloc o).heap[b]? =w.heap[b]?:=(World.grownBy_alloc w o none).block b h (by simp)
theorem zGF (w:World) (o:Obj):w.grownBy (w.alloc o) none:=World.grownBy_alloc w o none
theorem zDW {w:World} {I:Im} (o:Obj) (h:∀b j,I b j→b<w.heap.size):Same I w (w.alloc o):=fun b j hi=>KeepB.of (zOM w o (h b j hi))
theorem SatAt.newRow {A:Act} {w:World} {I:Im} {ρ:Nat→Value} {C:Nat→Prop} (hs:SatAt E S A w I ρ C) {id e size n c:Nat} {xs rest:List Value} {cells:List DV} (hp:0<size) (hl:cells.length=n*size) (hc:n≤c) (hcm:c≤maxLen)
  (hr:rest.length=(c-n)*size) (hpw:Reps w I xs cells) (h1:∀x∈xs,x.oneCell'=true) (hnm:E.nm id=none):
  SatAt E ((S.kill id).setBlk id (.row e size false cells)) A (w.alloc (.cells (xs++rest).toArray e)) I (upd ρ id (.slice (some ⟨w.heap.size,0,none⟩) n c)) C:=by
 have hI:∀b j,I b j→b<w.heap.size:=fun b j h=>(hs.old b j h).1;have hxl:xs.length=n*size:=by rw[hpw.1,hl]
 refine hs.update (zGF w _) (by simp) (zDW _ hI) (fun b hb=> .inl (by simp[blockOf] at hb;omega)) ⟨⟨hp,fun g hg=>E.mineB g (by simp[upd,Value.ownBlock] at hg;have:=E.size _ _ _ hs.frame;omega)⟩,n,xs,hl,?_,h1,hpw.mono (zDW _ hI) (fun _ _ h=>h),?_⟩ (.inl rfl) hnm
 ·have eu:upd ρ id (.slice (some ⟨w.heap.size,0,none⟩) n c) id= .slice (some ⟨w.heap.size,0,none⟩) n c:=by simp[upd]
  rw[eu];refine⟨hxl,.inr ⟨w.heap.size,c,_,rfl,Nat.zero_le _,heap_alloc_new w _,hc,hcm,?_,?_⟩⟩
  ·simp only[List.size_toArray,List.length_append,hxl,hr,←Nat.add_mul]
   congr 1;omega
  ·rw[←hxl]
   exact List.take_left
 ·intro g' j hg' hi
  simp[upd,Value.ownBlock] at hg';have:=hI g' j hi;omega
theorem SatAt.newBox {A:Act} {w:World} {I:Im} {ρ:Nat→Value} {C:Nat→Prop} (hs:SatAt E S A w I ρ C) {id e:Nat} {arr:Array Value} {cells:List AV} (hpw:Pw (Holds w I ρ) arr.toList cells) (h1:∀x∈arr.toList,x.oneCell'=true) (hnm:E.nm id=none):
  SatAt E ((S.kill id).setBlk id (.box e (cells.map (zEA id)))) A (w.alloc (.cells arr e)) I (upd ρ id (.pointer (some ⟨w.heap.size,0,none⟩))) C:=by
 have hI:∀b j,I b j→b<w.heap.size:=fun b j h=>(hs.old b j h).1;refine hs.update (zGF w _) (by simp) (zDW _ hI) (fun b hb=> .inl (by simp[blockOf] at hb;omega)) ⟨w.heap.size,arr,by simp[upd],E.mineB _ (E.size _ _ _ hs.frame),heap_alloc_new w _,h1,⟨by simpa using hpw.1,fun j x av hx hav=>?_⟩,fun j hj=>by have:=hI _ j hj;omega⟩ (.inl rfl) hnm
 rw[List.getElem?_map] at hav;cases hc:cells[j]? with
 | none=>simp[hc] at hav
 | some av'=>
  simp[hc] at hav;subst hav;exact(hpw.2 j x av' hx hc).upd (zDW _ hI) (fun _ _ h=>h) id _
def dvs (vs:List Value):List AV:=vs.map fun v=> .d (.v v)
theorem zZK (w:World) (I:Im) (ρ:Nat→Value) (vs:List Value):Pw (Holds w I ρ) vs (dvs vs):=by refine⟨by simp[dvs],fun j x y hx hy=>?_⟩;simp[dvs,hx] at hy;subst hy;exact .v x
theorem z1K (id:Nat) (vs:List Value):(dvs vs).map (zEA id)=dvs vs:=by simp[dvs,zEA,AV.mentions]
theorem z6 {elem:TypeId} {zs:List Value} (hn:d<E.n) (hz:((P.info? elem).bind (·.zero)).map (·.cells.toList)=some zs) (h1:zs.all Value.oneCell'=true) (hnm:E.nm d=none):
    j9 P r E ⟨some d,.alloc elem,ty,pos,af,g⟩ S (((S.kill d).setBlk d (.box elem (dvs zs))).put d (.ptr d 0)):=
  zDL (by simp) fun A w I ρ C hs=>by
    cases hi:P.info? elem with
    | none=>simp[hi] at hz
    | some i=>
      cases hzz:i.zero with
      | none=>simp[hi,hzz] at hz
      | some z=>
        simp[hi,hzz] at hz;have hb:=hs.newBox (id:=d) (e:=elem) (arr:=z.cells) (cells:=dvs zs) (by rw[hz];exact zZK _ _ _ _) (by rw[hz];exact fun x hx=>List.all_eq_true.1 h1 x hx) hnm
        rw[z1K] at hb;refine⟨.pointer (some ⟨w.heap.size,0,none⟩),w.alloc (.cells z.cells elem),?_,I,_,C,hb.put hn ⟨w.heap.size,by simp[upd,blockOf],rfl⟩⟩;simp[execOp,Instr.alloc,zeroValue,typeInfo,hi,hzz,newVar,newRow]
end
end Go.AV
namespace Go.AV
open Go.RowKit
def AState.dv (S:AState):AV→Option DV
 | .d x=>some x
 | .row id=>match S.blk id with
  | .row _ size _ cells=>some (.sl size cells)
  | _=>none
 | _=>none
def AState.shareAV (S:AState):AV→AState
 | .row id=>match S.blk id with
  | .row e size _ cells=>S.setBlk id (.row e size true cells)
  | _=>S
 | _=>S
theorem zP5 {w:World} {B e size n:Nat} {v:Value} {xs:List Value} (h:w.ownsRow B e size v n xs) {b:Nat} (hb:v.ownBlock=some b):∃arr e' fr,w.heap[b]? =some (.cells arr e' fr):=by rcases h.2 with ⟨hn,_⟩ | ⟨g,cap,cur,hv,hB,hh,_⟩;rw[hn] at hb;simp[Value.ownBlock] at hb;rw[hv] at hb;simp[Value.ownBlock] at hb;subst hb;exact⟨_,_,_,hh⟩
theorem xB (I:Im) (w:World):Same I w w:=fun _ _ _=>KeepB.refl
theorem SatAt.shareRow {E:Env} {S:AState} {a:Act} {w:World} {I:Im} {ρ:Nat→Value} {C:Nat→Prop} (h:SatAt E S a w I ρ C) {id e size:Nat} {sh:Bool} {cells:List DV} (hb:S.blk id= .row e size sh cells):
  ∃I':Im,(∀b j,I b j→I' b j)∧SatAt E (S.setBlk id (.row e size true cells)) a w I' ρ C∧Rep w I' (ρ id) (.sl size cells):=by
 have hk:=h.blks id;rw[hb] at hk;obtain⟨hp,n,xs,hl,hown,h1,hpw,hI⟩:=hk;have hne:S.blk id≠ .none:=by rw[hb];simp
 let I':Im:=fun b j=>I b j∨((ρ id).ownBlock=some b∧j<cells.length)
 have hsub:∀b j,I b j→I' b j:=fun b j hi=> .inl hi;refine⟨I',hsub,⟨fun t=>(h.tmps t).mono (xB I w) hsub,fun i=>?_,fun i i' b hn hi hi'=>?_,h.frame,fun b j hi=>hsub b j (h.sub b j hi),fun b j hi=>?_,h.size,h.defers,fun b j hi=>?_,fun i b hi hb'=>?_,fun i v hv hi=>h.nm i v hv ?_⟩,?_⟩
 ·rw[jB]
  by_cases e':id=i
  ·subst e'
   simp only[if_true];refine⟨hp,n,xs,hl,hown,h1,hpw.mono (xB I w) hsub,fun g j hg hi=>⟨rfl,?_⟩⟩;rcases hi with hi | ⟨_,hi⟩
   ·exact(hI g j hg hi).2
   ·exact hi
  ·simp only[e',if_false]
   refine(h.blks i).widenI hsub fun b j hx hbo hi=>?_;rcases hi with hi | ⟨hi,_⟩
   ·exact hi
   ·exact absurd hbo (h.dist id i b e' hne hx (zAT hi))
 ·have key:∀i,(S.setBlk id (.row e size true cells)).blk i≠ .none→S.blk i≠ .none:=by
   intro i hi;rw[jB] at hi;by_cases e':id=i
   ·subst e';exact hne
   ·simpa[e'] using hi
  exact h.dist i i' b hn (key i hi) (key i' hi')
 ·rcases hi with hi | ⟨hi,_⟩
  ·exact h.old b j hi
  ·have:=h.blt id b hne (zAT hi)
   exact⟨this.2,.inr this.1⟩
 ·rcases hi with hi | ⟨hi,_⟩
  ·exact h.cI b j hi
  ·exact h.cB id b hne (zAT hi)
 ·refine h.cB i b ?_ hb'
  rw[jB] at hi;by_cases e':id=i
  ·subst e';exact hne
  ·simpa[e'] using hi
 ·rw[jB] at hi
  by_cases e':id=i
  ·subst e';exact hne
  ·simpa[e'] using hi
 ·rcases hown.2 with ⟨hn,rfl⟩ | ⟨gb,cap,cur,hn,hB,hh,hnc,hcm,hcs,htk⟩
  ·have:cells= []:=List.eq_nil_of_length_eq_zero (by simpa using hl)
   subst this;rw[hn];exact .nil _ _ _
  ·rw[hn]
   by_cases h0:n=0
   ·subst h0
    have:cells= []:=List.eq_nil_of_length_eq_zero (by simpa using hl);subst this;exact .nil _ _ _
   ·refine .sl gb 0 n cap size xs cells (by omega) hnc hl hpw.1 (fun j x hj=>⟨?_,.inr ⟨by rw[hn];rfl,?_⟩⟩) h1 (hpw.mono (xB I w) hsub).2
    ·have:=hown.cells (g:=gb) (by rw[hn];rfl) j x hj
     rw[zE1] at this;exact this
    ·rw[←hpw.1,Nat.zero_add]
     exact(List.getElem?_eq_some_iff.1 hj).1
theorem SatAt.dv {E:Env} {S:AState} {a:Act} {w:World} {I:Im} {ρ:Nat→Value} {C:Nat→Prop} (h:SatAt E S a w I ρ C) {v:Value} {x:AV} {y:DV} (hv:Holds w I ρ v x) (hx:S.dv x=some y):
  ∃I':Im,(∀b j,I b j→I' b j)∧SatAt E (S.shareAV x) a w I' ρ C∧Rep w I' v y:=by
 cases x with
 | d z=>simp[AState.dv] at hx;subst hx;exact⟨I,fun _ _ h=>h,h,hv⟩
 | row id=>
  simp only[AState.dv] at hx;cases hb:S.blk id with
  | row e size sh cells=>
   rw[hb] at hx;simp at hx;subst hx;obtain⟨I',h1,h2,h3⟩:=h.shareRow hb;have hv':v= ρ id:=hv;refine⟨I',h1,?_,by rw[hv'];exact h3⟩
   simp only[AState.shareAV,hb];exact h2
  | none=>rw[hb] at hx;simp at hx
  | box e c=>rw[hb] at hx;simp at hx
  | map es=>rw[hb] at hx;simp at hx
  | it es q=>rw[hb] at hx;simp at hx
  | win e s k c=>rw[hb] at hx;simp at hx
 | _=>simp[AState.dv] at hx
theorem zON (S:AState) (x y:AV):(S.shareAV x).dv y=S.dv y:=by
 unfold AState.shareAV;split;rename_i id;split;rename_i e size sh cells hb;cases y with
 | row i=>
  simp only[AState.dv,jB];by_cases e':id=i;subst e';simp[hb];simp[e']
 | _=>rfl
 rfl;rfl
def AState.dvL (S:AState):List AV→Option (List DV)
 | []=>some []
 | x::r=>match S.dv x,S.dvL r with
  | some y,some ys=>some (y::ys)
  | _,_=>none
def AState.shareL (S:AState):List AV→AState
 | []=>S
 | x::r=>(S.shareAV x).shareL r
theorem zQV (S:AState) (x:AV) (l:List AV):(S.shareAV x).dvL l=S.dvL l:=by
 induction l with
 | nil=>rfl
 | cons y l ih=>simp only[AState.dvL,zON,ih]
theorem SatAt.dvL {E:Env} {a:Act} {w:World} {ρ:Nat→Value} {C:Nat→Prop} (l:List AV):∀{S:AState} {I:Im} (_:SatAt E S a w I ρ C) {vs:List Value} {ds:List DV} (_:Pw (Holds w I ρ) vs l) (_:S.dvL l=some ds),
  ∃I':Im,(∀b j,I b j→I' b j)∧SatAt E (S.shareL l) a w I' ρ C∧Reps w I' vs ds:=by
 induction l with
 | nil=>
  intro S I h vs ds hp hd;simp[AState.dvL] at hd;subst hd;have:vs= []:=List.eq_nil_of_length_eq_zero hp.1;subst this;exact⟨I,fun _ _ h=>h,h,Pw.nil⟩
 | cons x l ih=>
  intro S I h vs ds hp hd;cases vs with
  | nil=>have:=hp.1;simp at this
  | cons v vs=>
   simp only[AState.dvL] at hd;cases hx:S.dv x with
   | none=>simp[hx] at hd
   | some y=>
    cases hl:S.dvL l with
    | none=>simp[hx,hl] at hd
    | some ys=>
     simp[hx,hl] at hd;subst hd;obtain⟨I1,h1,h2,h3⟩:=h.dv (hp.2 0 v x rfl rfl) hx;have hp':Pw (Holds w I1 ρ) vs l:=⟨by have:=hp.1;simpa using this,fun j u z hu hz=>(hp.2 (j+1) u z (by simpa using hu) (by simpa using hz)).mono (xB I w) h1⟩
     obtain⟨I2,h4,h5,h6⟩:=ih h2 hp' (by rw[zQV];exact hl)
     exact⟨I2,fun b j hi=>h4 b j (h1 b j hi),h5,Pw.cons (h3.mono (xB I1 w) h4) h6⟩
def zXV (w:World) (I:Im) (v:Value):List DV→Prop
 | [y]=>Rep w I v y
 | ys=> ∃xs,v= .tuple xs.toArray∧Reps w I xs ys
def gdNames:List (String×List Value):=[("unicodetext/ordering.hangulRanges",[.int .i64 4352,.int .i64 4370,.int .i64 4449,.int .i64 4469,.int .i64 4520,.int .i64 4546,.int .i64 44032,.int .i64 55203]),("internal/strconv.uint64pow10",[.int .u64 1,.int .u64 10,.int .u64 100,.int .u64 1000,.int .u64 10000,.int .u64 100000,.int .u64 1000000,.int .u64 10000000,.int .u64 100000000,.int .u64 1000000000,.int .u64 10000000000,.int .u64 100000000000,.int .u64 1000000000000,.int .u64 10000000000000,.int .u64 100000000000000,.int .u64 1000000000000000,.int .u64 10000000000000000,.int .u64 100000000000000000,.int .u64 1000000000000000000,.int .u64 10000000000000000000])]
def uO (P:Program) (g:Nat):Option (List Value):=(gdNames.find? fun p=>P.globalNamed p.1==some g).map Prod.snd
def zU (P:Program) (f:FuncId) (ds rs:List DV):Prop:=
 (∃fn,P.funcs[f]? =some fn∧(fn.name== "runtime.NumGoroutine")=false∧fn.body.isNone=false)∧
 ∀(w:World) (I:Im) (vs:List Value),(∀b j,I b j→b<w.heap.size)→GlI (uO P) w I→Reps w I vs ds→
  Calls P f vs.toArray w fun e w'=> ∃v I',e= .returned v∧Below w.heap.size w w'∧(∀b j,I b j→I' b j)∧(∀b j,I' b j→b<w'.heap.size∧(I b j∨w.heap.size≤b))∧zXV w' I' v rs
def zOO:List DV→AV
 | [y]=> .d y
 | ys=> .tup ys
theorem zHC {w:World} {I:Im} {ρ:Nat→Value} {v:Value}:∀{rs:List DV},zXV w I v rs→Holds w I ρ v (zOO rs)
 | [],h=>h
 | [_],h=>h
 | _::_::_,h=>h
section
variable {P:Program} {r:Option Nat} {E:Env} {S:AState} {d:Nat} {ty:TypeId} {pos:String} {af:Array Edge} {g:Option (Nat×Bool)}
theorem SatAt.widen {a:Act} {w:World} {I I':Im} {ρ:Nat→Value} {C:Nat→Prop} {B:Nat} (h:SatAt E S a w I ρ C) (hsub:∀b j,I b j→I' b j) (hnew:∀b j,I' b j→b<w.heap.size∧(I b j∨B≤b))
  (hB:∀i b,S.blk i≠ .none→blockOf (ρ i)=some b→b<B) (hEB:E.B≤B) (hC:∀b,C b→b<B):SatAt E S a w I' ρ C:=by
 refine⟨fun t=>(h.tmps t).mono (xB I w) hsub,fun i=>?_,h.dist,h.frame,fun b j hi=>hsub b j (h.sub b j hi),fun b j hi=>⟨(hnew b j hi).1,?_⟩,h.size,h.defers,fun b j hi=>?_,h.cB,h.nm⟩
 ·refine(h.blks i).widenI hsub fun b j hx hbo hi=>?_
  rcases (hnew b j hi).2 with hi | hi
  ·exact hi
  ·have:=hB i b hx hbo;omega
 ·rcases (hnew b j hi).2 with hi | hi
  ·exact(h.old b j hi).2
  ·exact .inr (E.mineB b (by omega))
 ·rcases (hnew b j hi).2 with hi | hi
  ·exact h.cI b j hi
  ·intro hc;have:=hC b hc;omega
theorem u7 {A:Act} {w:World} {I:Im} {ρ:Nat→Value} {C:Nat→Prop} (hs:SatAt E S A w I ρ C) (xs:List Operand):Pw (Holds w I ρ) (xs.map A.eval) (xs.map S.ev):=by
 induction xs with
 | nil=>exact Pw.nil
 | cons x xs ih=>exact Pw.cons (hs.ev x) ih
theorem zQW {f:FuncId} {xs:List Operand} {ats:Array TypeId} {ds rs:List DV} (hn:d<E.n) (hds:S.dvL (xs.map S.ev)=some ds) (hc:zU P f ds rs) (hG:E.gdt=uO P:=by rfl):
  j9 P r E ⟨some d,.call {callee:= .value (.func f),args:=xs.toArray,argTypes:=ats},ty,pos,af,g⟩ S ((S.shareL (xs.map S.ev)).put d (zOO rs)):=by
 rintro A w K Q ⟨I,ρ,C,hs⟩ hk
 obtain⟨⟨fn,hf,hname,hbody⟩,hcall⟩:=hc;obtain⟨I1,h1,h2,h3⟩:=SatAt.dvL _ hs (u7 hs xs) hds;have hcl:=hcall w I1 (xs.map A.eval) (fun b j hi=>(h2.old b j hi).1) (hG▸h2.gl) h3;refine⟨fun f _=>trivial,?_⟩;rw[Oper.semAt_eq _ _ _ (by simp)];have hrun:(execOp A.eval ⟨some d,.call {callee:= .value (.func f),args:=xs.toArray,argTypes:=ats},ty,pos,af,g⟩).run P w= .ok (.enter f (xs.map A.eval).toArray) w:=by
  simp only[execOp,resolve,Act.eval,Deferred.ofValue];have hn1:¬fn.name= "runtime.NumGoroutine" :=by simpa using hname
  have hn2:¬fn.body=none:=by intro e;simp[e] at hbody
  simp[invoke,callFunc,hf,hn1,hn2,List.map_toArray]
 rw[hrun];refine⟨by simp[fen,Fence.wide],?_⟩;show CallsIn Fence.wide 0 P f _ w _;refine callsIn_wide.2 (hcl.mono ?_)
 rintro e w' ⟨v,I',rfl,hb,hsub,hnew,hret⟩
 refine hk _ _ ⟨I',ρ,C,SatAt.put ?_ hn (zHC hret)⟩;have h4:=h2.grow hb;exact h4.widen hsub hnew (fun i b hi hbk=>(h2.blt i b hi hbk).2) (E.size _ _ _ h2.frame) (fun b hc=>E.csize _ _ _ h2.frame b hc)
end
end Go.AV
namespace Go.AV
open Go.RowKit
def z7U (E:Env) (K:Exit→AState→Prop):Exit→Act→World→Prop:=fun e a w=> ∃S,K e S∧Sat E S a w
def Avc (P:Program) (r:Option Nat) (E:Env) (c:Code) (K:Exit→AState→Prop) (S:AState):Prop:=
 ∀a w,Sat E S a w→c.wpIn (fen r) 0 P (z7U E K) a w
def zGG (E:Env) (S S':AState):Prop:= ∀a w,Sat E S a w→Sat E S' a w
def z69 (J:AState→Prop) (K:Exit→AState→Prop):Exit→AState→Prop
 | .normal,S=>J S
 | e,S=>K e S
def z1L (id:Nat) (K:Exit→AState→Prop):Exit→AState→Prop
 | .exit i,S=>if Nat.beq i id then K .normal S else K (.exit i) S
 | e,S=>K e S
def gd (want b:Bool):Bool:=match want with
 | true=>b
 | false=>!b
section
variable {P:Program} {r:Option Nat} {E:Env} {S S':AState} {K:Exit→AState→Prop} {J:AState→Prop} {ops:Array Oper} {rest:List Oper} {o:Oper} {d:Nat}
theorem SatAt.yield {a:Act} {w:World} {I:Im} {ρ:Nat→Value} {C:Nat→Prop} (hs:SatAt E S a w I ρ C) {j t:Nat} {b:Bool} (hj:(ops[j]?).bind (·.dst)=some t) (ht:S.get t= .d (.v (.bool b))) (hn:t<E.n):
    yielded ops a.tmps j=some b:=by
  have h:=hs.tmps t;rw[ht] at h;have hlt:t<a.tmps.size:=by rw[hs.size];exact hn
  have e:a.tmps.getD t undef=a.tmps[t]:=by simp[Array.getD_eq_getD_getElem?,hlt]
  rw[e] at h;generalize hv:a.tmps[t]=v at h;cases h;simp[yielded,hj,hlt,hv]
theorem SatAt.yield2 {a:Act} {w:World} {I:Im} {ρ:Nat→Value} {C:Nat→Prop} (hs:SatAt E S a w I ρ C) {j t:Nat} {b c:Bool} (hj:(ops[j]?).bind (·.dst)=some t) (ht:S.get t= .cond c (.d (.v (.bool b)))) (hn:t<E.n):
    yielded ops a.tmps j=if c then some b else none:=by
  have h:=hs.tmps t;rw[ht] at h;have hlt:t<a.tmps.size:=by rw[hs.size];exact hn
  have e:a.tmps.getD t undef=a.tmps[t]:=by simp[Array.getD_eq_getD_getElem?,hlt]
  rw[e] at h;generalize hv:a.tmps[t]=v at h;cases c with
  | true=>
    have h:=h.1 rfl;cases h;simp[yielded,hj,hlt,hv]
  | false=>
    have h:=h.2 rfl;subst h;simp[yielded,hj,hlt,hv,undef]
theorem zT9 {c:Code} {K':Exit→AState→Prop} (h:Avc P r E c K S) (hk:∀e S,K e S→K' e S):Avc P r E c K' S:=fun a w hs=>
 wpIn_mono (h a w hs) fun e _ _ ⟨S',hK,hs'⟩=>⟨S',hk e S' hK,hs'⟩
theorem yX {c:Code} (hw:zGG E S S') (h:Avc P r E c K S'):Avc P r E c K S:=fun a w hs=>h a w (hw a w hs)
theorem z40 {x y:Code} (h:∀J:AState→Prop,(∀S,Avc P r E y K S→J S)→Avc P r E x (z69 J K) S):Avc P r E (.seq x y) K S:=fun a w hs=>
 wpIn_seq (wpIn_mono (h _ (fun _ h=>h) a w hs) fun e a' w' ⟨S',hK,hs'⟩=>by
  cases e with
  | normal=>exact hK a' w' hs'
  | _=>exact⟨S',hK,hs'⟩)
theorem z1M {c:Operand} {x y:Code} {b:Bool} (hc:S.ev c= .d (.v (.bool b))) (ht:b=true→Avc P r E x K S) (hf:b=false→Avc P r E y K S):Avc P r E (.cond c x y) K S:=fun a w hs=>by obtain⟨I,ρ,C,h⟩:=hs;exact wpIn_cond_split (h.val hc) (fun hb=>ht hb a w ⟨I,ρ,C,h⟩) (fun hb=>hf hb a w ⟨I,ρ,C,h⟩)
theorem zJ {id:Nat} {c:Code} (h:Avc P r E c (z1L id K) S):Avc P r E (.block id c) K S:=fun a w hs=>
 wpIn_block (wpIn_mono (h a w hs) fun e a' w' ⟨S',hK,hs'⟩=>by
  cases e with
  | exit i=>
   simp only[z1L,Nat.beq_eq] at hK;simp only[Exit.inBlock];by_cases e:i=id;simp only[e,if_true] at hK ⊢;exact⟨S',hK,hs'⟩;simp only[e,if_false] at hK ⊢;exact⟨S',hK,hs'⟩
  | _=>exact⟨S',hK,hs'⟩)
theorem zZ {id:Nat} (h:K (.exit id) S):Avc P r E (.exit id) K S:=fun _ _ hs=>wpIn_exit ⟨S,h,hs⟩
theorem yC (h:K .ret S):Avc P r E .ret K S:=fun _ _ hs=>wpIn_ret ⟨S,h,hs⟩
theorem zI (h:K .normal S):Avc P r E .skip K S:=fun _ _ hs=>wpIn_skip ⟨S,h,hs⟩
theorem z1N {c:Code} {ι:Type} (T: ι→AState) (pre: ι→Prop) (μ: ι→Nat) (i0: ι) (h0:pre i0) (hS:zGG E S (T i0))
  (round:∀i,pre i→Avc P r E c (z69 (fun S'=> ∃j,pre j∧μ j<μ i∧zGG E S' (T j)) K) (T i)):Avc P r E (.loop c) K S:=by
 intro a w hs;have key:∀n i a w,pre i→μ i<n→Sat E (T i) a w→Code.roundsIn (fen r) 0 P c (z7U E K) n a w:=by
  intro n
  induction n with
  | zero=>intro i a w _ h;omega
  | succ n ih=>
   intro i a w hp hn hs;rw[roundsIn_succ];exact wpIn_mono (round i hp a w hs) fun e a' w' ⟨S',hK,hs'⟩=>by
    cases e with
    | normal=>obtain⟨j,hj,hlt,hw⟩:=hK;exact ih j a' w' hj (by omega) (hw a' w' hs')
    | _=>exact⟨S',hK,hs'⟩
 exact wpIn_loop_rounds _ (key (μ i0+1) i0 a w h0 (by omega) (hS a w hs))
theorem z41 (ht:∀p∈S'.tmps,S.get p.1=p.2∨p.2= .top) (hb:∀p∈S'.blks,S.blk p.1=p.2) (hgh:∀C w,E.fr S.ghost C w→E.fr S'.ghost C w):zGG E S S':=by
 have hget:∀t,S'.get t= .top∨S.get t=S'.get t:=by
  intro t;unfold AState.get;generalize hl:S'.tmps=l at ht;clear hl
  induction l with
  | nil=>exact .inl rfl
  | cons p l ih=>
   obtain⟨i,x⟩:=p;rw[k8];by_cases e:i=t;simp only[e,if_true];have:=ht (i,x) (by simp);simp only[e] at this;exact this.symm;simp only[e,if_false];exact ih fun q hq=>ht q (by simp[hq])
 have hblk:∀t,S'.blk t= .none∨S.blk t=S'.blk t:=by
  intro t;unfold AState.blk;generalize hl:S'.blks=l at hb;clear hl
  induction l with
  | nil=>exact .inl rfl
  | cons p l ih=>
   obtain⟨i,x⟩:=p;rw[k8];by_cases e:i=t;simp only[e,if_true];have:=hb (i,x) (by simp);simp only[e] at this;exact .inr this;simp only[e,if_false];exact ih fun q hq=>hb q (by simp[hq])
 rintro a w ⟨I,ρ,C,h⟩
 refine⟨I,ρ,C,⟨fun t=>?_,fun i=>?_,fun i i' b hn hi hi'=>?_,hgh _ _ h.frame,h.sub,h.old,h.size,h.defers,h.cI,fun i b hi hb'=>?_,fun i v hv hi=>h.nm i v hv ?_⟩⟩;rcases hget t with e | e
 rw[e];trivial;rw[←e];exact h.tmps t;rcases hblk i with e | e
 rw[e];trivial;rw[←e];exact h.blks i;refine h.dist i i' b hn ?_ ?_;rcases hblk i with e | e
 exact absurd e hi;rw[e];exact hi;rcases hblk i' with e | e
 exact absurd e hi';rw[e];exact hi';refine h.cB i b ?_ hb';rcases hblk i with e | e
 exact absurd e hi;rw[e];exact hi;rcases hblk i with e | e
 exact absurd e hi;rw[e];exact hi
theorem zAU {t:Nat} (id e size:Nat) (hp:0<size) (hn:t<E.n) (hnm:E.nm id=none) (ht:S.get t= .d (.v (.slice none 0 0))):zGG E S (((S.kill id).setBlk id (.row e size false [])).put t (.row id)):=by
 rintro a w ⟨I,ρ,C,h⟩
 have h2:=h.update (World.grownBy.refl w none) (id:=id) (u:= .slice none 0 0) (x:= .row e size false []) (by simp) (xB I w) (by simp[blockOf])
  ⟨⟨hp,by simp[upd,Value.ownBlock]⟩,0,[],by simp,by simp only[upd,if_true];exact World.ownsRow_nil w _ e size,by simp,Pw.nil,by simp[upd,Value.ownBlock]⟩ (.inl rfl) hnm
 refine⟨I,_,C,⟨fun u=>?_,h2.blks,h2.dist,by have:=h2.frame;rw[zDA _ _ hn];exact this,h2.sub,h2.old,h2.size,h2.defers,h2.cI,h2.cB,h2.nm⟩⟩
 rw[zBD];by_cases e:t=u;subst e;simp only[if_true];have:=h.tmps t;rw[ht] at this;generalize a.tmps.getD t undef=v at this ⊢;cases this;simp[Holds,upd];simp only[e,if_false];exact h2.tmps u
def zI9:List DV→Nat→List (Nat×AV)
 | [],_=>[]
 | x::r,k=>(k,.d x)::zI9 r (k+1)
theorem zQX (ds:List DV):∀(k t:Nat),(k≤t∧∃x,ds[t-k]? =some x∧look AV.top (zI9 ds k) t= .d x)∨look AV.top (zI9 ds k) t= .top:=by
 induction ds with
 | nil=>intro k t;exact .inr rfl
 | cons x ds ih=>
  intro k t;simp only[zI9,k8];by_cases e:k=t;subst e;simp;simp only[e,if_false];rcases ih (k+1) t with ⟨h1,y,hy,hl⟩ | h
  refine .inl ⟨by omega,y,?_,hl⟩;have:t-k=(t-(k+1))+1:=by omega
  rw[this];simpa using hy;exact .inr h
def z96 (P:Program) (S:AState) (t:TypeId) (cells:List AV) (y:DV):Prop:=
 (OneTy P t∧∃av,cells= [av]∧S.dv av=some y)∨(∃ds,AggTy P t cells.length∧S.dvL cells=some ds∧y= .agg ds)
def RetS (P:Program) (S:AState):List ResultVar→List DV→Prop
 | [],ys=>ys= []
 | .tmp t::rs,ys=> ∃y zs,ys=y::zs∧S.dv (S.get t).un=some y∧RetS P S rs zs
 | .cell a t::rs,ys=> ∃y zs id e cells,ys=y::zs∧(S.get a).un= .ptr id 0∧S.blk id= .box e cells∧z96 P S t cells y∧RetS P S rs zs
def yBB (P:Program) (fn:Func) (rs:List DV):Exit→AState→Prop
 | .ret,S | .normal,S=>RetS P S fn.results.toList rs
 | _,_=>False
theorem zQY (S:AState) (x:AV) (t:Nat):(S.shareAV x).get t=S.get t:=by unfold AState.shareAV;split;split<;>rfl;rfl
theorem zZL {S:AState} {x:AV} {id e:Nat} {cells:List AV} (h:S.blk id= .box e cells):(S.shareAV x).blk id= .box e cells:=by unfold AState.shareAV;split;rename_i i;split;rename_i e2 size sh cs hb;rw[jB];by_cases e':i=id;subst e';rw[h] at hb;cases hb;simp[e',h];exact h;exact h
theorem RetS.share {S:AState} (x:AV):∀{l:List ResultVar} {ys:List DV},RetS P S l ys→RetS P (S.shareAV x) l ys
 | [],_,h=>h
 | .tmp t::rs,_,⟨y,zs,e,h1,h2⟩=>⟨y,zs,e,by rw[zON,zQY];exact h1,RetS.share x h2⟩
 | .cell a t::rs,_,⟨y,zs,id,e,cells,h0,h1,h2,h3,h4⟩=>⟨y,zs,id,e,cells,h0,by rw[zQY];exact h1,zZL h2,by
   rcases h3 with ⟨ho,av,hc,hd⟩ | ⟨ds,ha,hd,hy⟩
   ·exact .inl ⟨ho,av,hc,by rw[zON];exact hd⟩
   ·exact .inr ⟨ds,ha,by rw[zQV];exact hd,hy⟩,RetS.share x h4⟩
theorem RetS.shareL (xs:List AV):∀{S:AState} {l:List ResultVar} {ys:List DV},RetS P S l ys→RetS P (S.shareL xs) l ys:=by
 induction xs with
 | nil=>exact fun h=>h
 | cons x xs ih=>exact fun h=>ih (h.share x)
def zOP (tmps:Array Value):ResultVar→Sem Value
 | .tmp t=>pure (tmps.getD t undef)
 | .cell a t=>do loadVar t (←asAddr (tmps.getD a undef))
theorem RetS.holds {a:Act} {w:World} {ρ:Nat→Value} {C:Nat→Prop}:∀(l:List ResultVar) (rs:List DV) {S:AState} {I:Im} (_:SatAt E S a w I ρ C) (_:RetS P S l rs),
  ∃I':Im,(∀b j,I b j→I' b j)∧∃S2,SatAt E S2 a w I' ρ C∧∃xs:List Value,(l.mapM (zOP a.tmps)).run P w= .ok xs w∧Reps w I' xs rs:=by
 intro l
 induction l with
 | nil=>
  intro rs S I h hr;cases hr;exact⟨I,fun _ _ h=>h,S,h,[],by simp,Pw.nil⟩
 | cons x l ih=>
  intro rs S I h hr;cases x with
  | tmp t=>
   obtain⟨y,ys,rfl,h1,h2⟩:=hr;obtain⟨I1,hs1,hsat,hrep⟩:=h.dv (h.tmps t).un h1;obtain⟨I2,hs2,S2,hsat2,xs,hxs,hreps⟩:=ih ys hsat (h2.share _);exact⟨I2,fun b j hi=>hs2 b j (hs1 b j hi),S2,hsat2,_::xs,by simp[List.mapM_cons,zOP,hxs],Pw.cons (hrep.mono (xB I1 w) hs2) hreps⟩
  | cell ad t=>
   obtain⟨y,ys,id,e,cells,rfl,h1,h2,h3,h4⟩:=hr;have hp:=(h.tmps ad).un;rw[h1] at hp;obtain⟨b,hρ,hv⟩:=hp;have hbk:=h.blks id;rw[h2] at hbk;obtain⟨b',arr,hρ',hB,hh,h1',hpw,hI⟩:=hbk;have hbb:b'=b:=by rw[hρ'] at hρ;simpa[blockOf] using hρ
   subst hbb;have hcell:∀(j:Nat) v,arr.toList[j]? =some v→w.cell? ⟨b',0+j,none⟩=some v:=fun j v hj=>by
    rw[Nat.zero_add,cell_of_row w b' j arr e (0,0) hh];simpa using hj
   rcases h3 with ⟨ho,av,hc,hd⟩ | ⟨ds,ha,hd,rfl⟩
   ·subst hc
    have hlen:=hpw.1
    match harr:arr.toList,hlen with
    | [v0],_=>
     rw[harr] at hpw hcell;obtain⟨I1,hs1,hsat,hrep⟩:=h.dv (hpw.2 0 v0 av rfl rfl) hd;obtain⟨I2,hs2,S2,hsat2,xs,hxs,hreps⟩:=ih ys hsat (h4.share _);refine⟨I2,fun b j hi=>hs2 b j (hs1 b j hi),S2,hsat2,v0::xs,?_,Pw.cons (hrep.mono (xB I1 w) hs2) hreps⟩;have hc0:=hcell 0 v0 rfl;simp only[Nat.add_zero] at hc0;simp[List.mapM_cons,zOP,hv,asAddr,loadVar,ho.agg,run_load,hc0,hxs]
   ·obtain⟨I1,hs1,hsat,hrep⟩:=SatAt.dvL cells h hpw hd
    obtain⟨I2,hs2,S2,hsat2,xs,hxs,hreps⟩:=ih ys hsat (h4.shareL _);have hrr:=hrep.mono (xB I1 w) hs2;refine⟨I2,fun b j hi=>hs2 b j (hs1 b j hi),S2,hsat2,.agg arr.toList.toArray::xs,?_,Pw.cons (.agg _ _ hrr.1 h1' hrr.2) hreps⟩;have hload:=zCR (P:=P) w ha b' 0 arr.toList hpw.1 hcell;simp only[Instr.loadAt,Instr.sureAddr,Sem.run_bind,Sem.run_pure,Result.andThen_ok] at hload;simp only[List.mapM_cons,zOP,hv,asAddr,Sem.run_bind,Sem.run_pure,Result.andThen_ok,hload,hxs]
theorem zJA {fn:Func} {tmps:Array Value} {w:World} {xs:List Value} (h:(fn.results.toList.mapM (zOP tmps)).run P w= .ok xs w):
  (results fn tmps).run P w= .ok (if h:xs.toArray.size=1 then xs.toArray[0] else .tuple xs.toArray) w:=by
 have e:results fn tmps=(do let vs ←fn.results.mapM (zOP tmps);pure (if h:vs.size=1 then vs[0] else .tuple vs)):=by
  unfold results;congr 1
 rw[e,Array.mapM_eq_mapM_toList];simp only[Sem.run_bind,Sem.run_pure,h,Result.andThen_ok,Sem.run_map]
def Env.norm (gdt:Nat→Option (List Value)) (w0:World) (I0:Im) (hI:∀b j,I0 b j→b<w0.heap.size) (hG:GlI gdt w0 I0) (n:Nat) (hn:n≤1000000):Env where
 B:=w0.heap.size
 I0:=I0
 n:=n
 fr:=fun _ C w=>Below w0.heap.size w0 w∧∀b,¬C b
 wrB:=true
 nle:=hn
 mine:=fun b=>w0.heap.size≤b
 mineB:=fun _ h=>h
 nm:=fun _=>none
 size:=fun _ _ _ h=>h.1.size
 csize:=fun _ _ _ h b hb=>absurd hb (h.2 b)
 grow:=fun _ _ _ _ h hb=>⟨h.1.trans (hb.mono h.1.size),h.2⟩
 wr:=fun _ _ _ _ _ _ h hg hr _=>⟨h.1.trans ⟨hg.os,hg.tape,hg.output,hg.size,fun k hk=>hg.block k (Nat.lt_of_lt_of_le hk h.1.size) (fun e=>by have:=(hr k e).1;omega)⟩,h.2⟩
 turn:=fun _ _ _ w w' l h hl ht _=>⟨h.1.trans ⟨ht.os,ht.tape,ht.output,by rw[ht.size];exact Nat.le_refl _,fun k hk=>ht.blk k (by omega)⟩,h.2⟩
 gdt:=gdt
 gl:=fun _ _ w h g zs hg j=>⟨(World.cell?_of_block (a:=⟨g,j,none⟩) (h.1.block g (hI g j (hG g zs hg j).2))).trans (hG g zs hg j).1,(hG g zs hg j).2⟩
theorem zK7 {w:World} {D:Nat} (h:w.heap[D]? =some (.deferred (some []))):(Instr.takeDeferred D).run P w= .ok [] {w with heap:=w.heap.setIfInBounds D (.deferred none)}:=by simp[Instr.takeDeferred,getObj,setObj,Sem.run,h]
structure Taken (w w':World):Prop where
 blk:∀k:Nat,w'.heap[k]? =w.heap[k]?∨(w.heap[k]? =some (Obj.deferred (some []))∧w'.heap[k]? =some (Obj.deferred none))
 size:w'.heap.size=w.heap.size
theorem Taken.same {I:Im} {w w':World} (h:Taken w w'):Same I w w':=by
 intro b j _;rcases h.blk b with e | ⟨e,e'⟩
 exact KeepB.of e;exact⟨by simp[World.cell?,e,e'],fun _ _ q=>by rw[e] at q;cases q⟩
theorem zK8 {fn:Func} {tmps:Array Value} {R:Ending→World→Prop} {B:Nat} {wrB:Bool} {C:Nat→Prop}:∀(ds:List Deferred) (w:World),DefOk B wrB C w ds→
  (∀w',Below B w w'→Taken w w'→∃v,(results fn tmps).run P w'= .ok v w'∧R (.returned v) w')→
  LeavesInM (fen none) 0 P fn tmps R ds .returning w:=by
 intro ds
 induction ds with
 | nil=>intro w _ h;exact h w (Below.refl _ _) ⟨fun _=> .inl rfl,rfl⟩
 | cons d ds ih=>
  intro w hd h;obtain⟨r,h1,h2,h2c,h3⟩:=hd.each d (by simp);refine⟨by simp,.inl ⟨r,_,h1,zK7 h3,ih _ ?_ ?_⟩⟩
  ·refine⟨fun e he=>?_,(List.pairwise_cons.1 hd.dist).2,fun _=>hd.wr (by simp)⟩
   obtain⟨r',h1',h2',h2c',h3'⟩:=hd.each e (by simp[he]);have hne:r≠r':=fun hrr=>(List.pairwise_cons.1 hd.dist).1 e he r h1 (hrr▸h1');exact⟨r',h1',h2',h2c',by simp only[Array.getElem?_setIfInBounds_ne hne];exact h3'⟩
  ·intro w' hb hk
   refine h w' ?_ ⟨fun k=>?_,?_⟩
   ·refine⟨hb.os,hb.tape,hb.output,by have:=hb.size;simpa using this,fun k hkB=>?_⟩
    rw[hb.block k hkB];exact Array.getElem?_setIfInBounds_ne (by omega)
   ·have hlt:=(Array.getElem?_eq_some_iff.1 h3).1
    by_cases hne:r=k
    ·subst hne
     refine .inr ⟨h3,?_⟩;rcases hk.blk r with e | ⟨e,_⟩
     ·rw[e];simp[hlt]
     ·simp[hlt] at e
    ·have e1:(w.heap.setIfInBounds r (Obj.deferred none))[k]? =w.heap[k]?:=Array.getElem?_setIfInBounds_ne hne
     rcases hk.blk k with e | ⟨e,e'⟩
     ·exact .inl (e.trans e1)
     ·exact .inr ⟨e1.symm.trans e,e'⟩
   ·rw[hk.size];simp
theorem SatAt.taken {S:AState} {a:Act} {w w':World} {I:Im} {ρ:Nat→Value} {C:Nat→Prop} (h:SatAt E S a w I ρ C) (ht:Taken w w') (hfr:E.fr S.ghost C w'):SatAt E S {a with defers:=[]} w' I ρ C:=by
 refine⟨fun t=>(h.tmps t).mono ht.same (fun _ _ h=>h),fun i=>?_,h.dist,hfr,h.sub,fun b j hi=>⟨by rw[ht.size];exact(h.old b j hi).1,(h.old b j hi).2⟩,h.size,DefOk.nil,h.cI,h.cB,h.nm⟩
 cases hx:S.blk i with
 | none=>trivial
 | _=>
  rw[←hx];refine(h.blks i).mono ht.same (fun b hb=>?_);obtain⟨o,hc,hd⟩:=h.cellBlk (by rw[hx];simp) hb
  rcases ht.blk b with e | ⟨e,_⟩;exact e;rw[hc] at e;cases e;cases hd
theorem RetS.run {S:AState} {a:Act} {w:World} {I:Im} {ρ:Nat→Value} {C:Nat→Prop} {fn:Func} {rs:List DV} (hs:SatAt E S a w I ρ C) (hret:RetS P S fn.results.toList rs):
  ∃v I',(results fn a.tmps).run P w= .ok v w∧(∀b j,I b j→I' b j)∧(∀b j,I' b j→b<w.heap.size∧(E.I0 b j∨E.mine b))∧zXV w I' v rs:=by
 obtain⟨I2,hsub,S2,hs2,xs,hxs,hreps⟩:=RetS.holds _ _ hs hret;refine⟨_,I2,zJA hxs,hsub,hs2.old,?_⟩;have hl:=hreps.1
 match xs,rs,hl,hreps with
 | [],[],_,hr=>exact⟨_,rfl,hr⟩
 | [x],[y],_,hr=>exact hr.2 0 _ y rfl rfl
 | x::u::xs,y::z::ys,_,hr=>exact⟨x::u::xs,by simp,hr⟩
theorem zN {f:FuncId} {fn:Func} {c:Code} {ds rs:List DV} (hf:P.funcs[f]? =some fn) (hname:(fn.name== "runtime.NumGoroutine")=false) (hb:fn.body=some c) (hn:ds.length≤fn.ntmps) (hn2:fn.ntmps≤1000000)
  (h:∀w0 I0 hI hG,Avc P none (Env.norm (uO P) w0 I0 hI hG fn.ntmps hn2) c (yBB P fn rs) ⟨zI9 ds 0,[]⟩):zU P f ds rs:=by
 refine⟨⟨fn,hf,hname,by simp[hb]⟩,fun w I vs hI hG hvs=>?_⟩;refine callsIn_wide (n:=0) |>.1 (callsIn_of_wp_marks hf hb trivial ?_)
 have hlen:vs.length=ds.length:=hvs.1;have hsat:Sat (Env.norm (uO P) w I hI hG fn.ntmps hn2) ⟨zI9 ds 0,[]⟩ {tmps:=vs.toArray++Array.replicate (fn.ntmps-vs.toArray.size) undef,defers:=[]} w:=by
  refine⟨I,fun _=>undef,fun _=>False,⟨fun t=>?_,fun _=>trivial,fun _ _ _ _ h=>absurd rfl h,⟨Below.refl _ _,fun _ h=>h⟩,fun _ _ h=>h,fun b j h=>⟨hI b j h,.inl h⟩,by simp[Env.norm];omega,DefOk.nil,fun _ _ _ h=>h,fun _ _ h=>absurd rfl h,fun _ _ h=>by cases h⟩⟩
  rcases zQX ds 0 t with ⟨_,x,hx,hl⟩ | hl
  ·show Holds _ _ _ _ (look AV.top (zI9 ds 0) t)
   rw[hl];simp only[Nat.sub_zero] at hx;have ht:t<vs.length:=by rw[hlen];exact(List.getElem?_eq_some_iff.1 hx).1
   refine hvs.2 t _ x ?_ hx;simp[Array.getD_eq_getD_getElem?,Array.getElem?_append,ht]
  ·show Holds _ _ _ _ (look AV.top (zI9 ds 0) t)
   rw[hl];trivial
 refine wpIn_mono (h w I hI hG _ w hsat) ?_
 rintro e a w' ⟨S,hK,I1,ρ,C,hs⟩
 have fin:RetS P S fn.results.toList rs→LeavesInM (fen none) 0 P fn a.tmps (fun e w'=> ∃v I',e= .returned v∧Below w.heap.size w w'∧(∀b j,I b j→I' b j)∧(∀b j,I' b j→b<w'.heap.size∧(I b j∨w.heap.size≤b))∧zXV w' I' v rs) a.defers .returning w':=by
  intro hret;refine zK8 (B:=w.heap.size) a.defers w' hs.defers fun w2 hb2 hk2=>?_;have hs2:=hs.taken hk2 ⟨hs.frame.1.trans hb2,hs.frame.2⟩;obtain⟨v,I2,h1,h2,h3,h4⟩:=RetS.run hs2 hret;exact⟨v,h1,v,I2,rfl,hs.frame.1.trans hb2,fun b j hi=>h2 b j (hs.sub b j hi),h3,h4⟩
 cases e with
 | normal=>exact fin hK
 | ret=>exact fin hK
 | _=>exact hK.elim
end
end Go.AV
namespace Go.AV
open Go.RowKit
theorem zM3 {w:World} {gb e:Nat} {cur:Array Value} (hh:w.heap[gb]? =some (.cells cur e (0,0))) (new:Array Value) {j:Nat} (h:new[j]? =cur[j]?):
  (w.setRow gb new).cell? ⟨gb,j,none⟩=w.cell? ⟨gb,j,none⟩:=by
 rw[cell_of_row _ gb j new e (0,0) (setRow_heap w gb cur new e _ hh),cell_of_row w gb j cur e (0,0) hh,h]
section
variable {P:Program} (w:World)
theorem zWY {B t ty e size bytes:Nat} {z:Value} (hT:SlTy P t e size bytes z) {v:Value} {n:Nat} {xs:List Value} (hown:w.ownsRow B e size v n xs)
  {A:Option Addr} {m c:Nat} {news:List Value} (hl:news.length=m*size) (hnews:0<m→∃b off,A=some ⟨b,off,none⟩∧∀(j:Nat) u,news[j]? =some u→w.cell? ⟨b,off+j,none⟩=some u)
  (h1:∀u∈news,u.oneCell'=true) (h63:n+m≤maxLen) (hbytes:(n+m)*bytes≤140737488355328) (hB:B≤w.heap.size):
  ∃v' w',(Builtin.append_ #[t,t] ty #[v,.slice A m c]).run P w= .ok v' w'∧w'.ownsRow B e size v' (n+m) (xs++news)∧
   ((w.grownBy w' v.ownBlock∧v'.ownBlock=v.ownBlock∧∀gb,v.ownBlock=some gb→∀j,j<n*size→w'.cell? ⟨gb,j,none⟩=w.cell? ⟨gb,j,none⟩)∨(w.grownBy w' none∧v'.ownBlock=some w.heap.size)):=by
 obtain⟨i,hi,hz,rfl,rfl⟩:=hT.info;have ht:=hT.und;have hzs:=hT.zs;have hsmall:n+m≤9223372036854775807:=by simp only[maxLen] at h63;omega
 have hlen:(xs++news).length=(n+m)*i.size:=by rw[List.length_append,hown.1,hl,Nat.add_mul]
 by_cases hm:m=0
 ·subst hm
  have hn:news= []:=List.eq_nil_of_length_eq_zero (by simpa using hl);subst hn;refine⟨v,w,?_,by simpa using hown,.inl ⟨World.grownBy.refl w _,rfl,fun _ _ _ _=>rfl⟩⟩;rcases hown.2 with ⟨rfl,rfl⟩ | ⟨gb,cap,cur,rfl,_,_,hnc,_⟩
  ·cases A<;>simp[Builtin.append_,run_underlying ht,sizeOf,typeInfo,hi,Builtin.lenOf,Builtin.firstCells,loadCells,loadCellsFrom]
  ·cases A<;>simp[Builtin.append_,run_underlying ht,sizeOf,typeInfo,hi,Builtin.lenOf,Builtin.firstCells,hnc,storeCells,loadCells,loadCellsFrom]
 ·obtain⟨b,off,rfl,hcell⟩:=hnews (by omega)
  have hnews':∀(j:Nat) u,news[j]? =some u→w.cell? ((⟨b,off,none⟩:Addr).add j)=some u:=fun j u hu=>by rw[zE1];exact hcell j u hu
  have grown:∀(old:Nat),
    (w.drew.alloc (.cells (xs.toArray++news.toArray++Builtin.zeroCells z.cells (grownCap w (n+m) old e-(n+m))) e)).ownsRow B e i.size
     (.slice (some ⟨w.heap.size,0,none⟩) (n+m) (grownCap w (n+m) old e)) (n+m) (xs++news)∧
    w.grownBy (w.drew.alloc (.cells (xs.toArray++news.toArray++Builtin.zeroCells z.cells (grownCap w (n+m) old e-(n+m))) e)) none:=by
   intro old;have hge:=grownCap_ge w (n+m) old e;have hcm:grownCap w (n+m) old e≤maxLen:=grownCap_le_maxLen w (n+m) old e h63;refine⟨⟨hlen,.inr ⟨w.heap.size,_,_,rfl,hB,heap_alloc_new w.drew _,hge,hcm,?_,?_⟩⟩,⟨rfl,rfl,rfl,by simp,fun k hk _=>_root_.Go.heap_alloc_old w.drew _ hk⟩⟩
   ·simp only[Array.size_append,List.size_toArray,size_zeroCells,hzs,hown.1,hl,←Nat.add_mul]
    congr 1;omega
   ·simp only[Array.toList_append,List.append_assoc]
    rw[←List.append_assoc,←hlen];exact List.take_left
  rcases hown.2 with ⟨rfl,rfl⟩ | ⟨gb,cap,cur,rfl,hbg,hg,hnc,hcm,hcs,htake⟩
  ·have hx:xs= []:=List.eq_nil_of_length_eq_zero (by simpa using hown.1)
   subst hx;have hr:=run_append_nil (P:=P) w t ty e i z ht hi hz ⟨b,off,none⟩ m c news hl hnews' (by omega) (by omega) (by have hb:=hbytes;simp only[Nat.zero_add] at hb;omega)
   have hgr:=grown 0;simp only[Nat.zero_add,List.nil_append,Array.empty_append] at hgr ⊢;exact⟨_,_,hr,hgr.1,.inr ⟨hgr.2,rfl⟩⟩
  ·by_cases hroom:n+m≤cap
   ·have hfit:n*i.size+news.length≤cur.size:=by rw[hl,hcs,←Nat.add_mul];exact Nat.mul_le_mul_right _ hroom
    have hr:=run_append_room (P:=P) w t ty e i ht hi gb n cap cur hg ⟨b,off,none⟩ m c news hl hnews' h1 hroom hfit;refine⟨_,_,hr,⟨hlen,.inr ⟨gb,cap,_,rfl,hbg,setRow_heap w gb cur _ e _ hg,hroom,hcm,?_,?_⟩⟩,.inl ⟨⟨rfl,rfl,rfl,by simp,fun k _ hk=>setRow_other w gb k _ (fun e=>hk (by simp[Value.ownBlock,e]))⟩,rfl,?_⟩⟩
    ·simp only[List.size_toArray,List.length_append,List.length_take,List.length_drop,Array.length_toList]
     omega
    ·rw[htake,←hlen]
     exact List.take_left
    ·intro g' hg' j hj
     simp[Value.ownBlock] at hg';subst hg';refine zM3 hg _ ?_;have:j<cur.size:=by omega
     simp only[List.getElem?_toArray,List.append_assoc];rw[List.getElem?_append_left (by simp;omega),List.getElem?_take,if_pos hj]
     simp
   ·have holds:∀j u,xs[j]? =some u→w.cell? ((⟨gb,0,none⟩:Addr).add j)=some u:=hown.cells (g:=gb) rfl
    have hr:=run_append_grow (P:=P) w t ty e i z ht hi hz ⟨gb,0,none⟩ n cap xs hown.1 holds ⟨b,off,none⟩ m c news hl hnews' (by omega) (by omega) (growslice_fits (by omega) hbytes);have hgr:=grown cap;exact⟨_,_,hr,hgr.1,.inr ⟨hgr.2,rfl⟩⟩
end
section
variable {P:Program} {r:Option Nat} {E:Env} {S:AState} {d:Nat} {ty:TypeId} {pos:String} {af:Array Edge} {g:Option (Nat×Bool)}
theorem zKB {x:AV} {id e size:Nat} {sh:Bool} {cells:List DV} (hb:S.blk id= .row e size sh cells):∃sh',(S.shareAV x).blk id= .row e size sh' cells:=by unfold AState.shareAV;split;rename_i i;split;rename_i e2 size2 sh2 cs hb2;rw[jB];by_cases e':i=id;subst e';rw[hb] at hb2;cases hb2;exact⟨true,by simp⟩;exact⟨sh,by simp[e',hb]⟩;exact⟨sh,hb⟩;exact⟨sh,hb⟩
def Blk.appended (b:Blk) (cells:List DV):Blk:=match b with
 | .row e size sh cs=> .row e size sh (cs++cells)
 | b=>b
theorem zZM {t e size bytes:Nat} {z:Value} {s x:Operand} {id:Nat} {sh:Bool} {cells news:List DV} {n m:Nat} (hn:d<E.n) (hT:SlTy P t e size bytes z) (hb:S.blk id= .row e size sh cells)
  (hx:S.dv (S.ev x)=some (.sl size news)) (hl:cells.length=n*size) (hl2:news.length=m*size) (hbytes:(n+m)*bytes≤140737488355328) (h63:n+m≤maxLen) (hE:E.wrB=true) (hnm:E.nm id=none):
  ∀{A:Act} {w:World} {I:Im} {ρ:Nat→Value} {C:Nat→Prop},SatAt E S A w I ρ C→A.eval s= ρ id→∃v w',(execOp A.eval ⟨some d,.call {callee:= .builtin .append,args:= #[s,x],argTypes:= #[t,t]},ty,pos,af,g⟩).run P w= .ok (.value v) w'∧
   Sat E ((((S.shareAV (S.ev x)).kill id).setBlk id (((S.shareAV (S.ev x)).blk id).appended news)).put d (.row id)) (A.put (some d) v) w':=by
  intro A w I ρ C hsat hsv;obtain⟨I1,hI1,hsat1,hrep⟩:=hsat.dv (hsat.ev x) hx;obtain⟨sh',hb'⟩:=zKB (x:=S.ev x) hb;have hk:=hsat1.blks id;rw[hb'] at hk;obtain⟨hp,n',xs,hl',hown,h1,hpw,hIr⟩:=hk;obtain rfl:=zHP hl' hl hp.1;obtain⟨Ax,m',c,ys,hv,_,hlm,hpy,h1y,hcy⟩:=Rep.sl_inv hrep;obtain rfl:=zHP hlm hl2 hp.1;obtain⟨v',w',hr,hown',hcase⟩:=zWY (ty:=ty) w hT hown (A:=Ax) (m:=m') (c:=c) (news:=ys) (by rw[hpy.1,hlm]) (fun h0=>by
   obtain⟨b,off,hA,hc⟩:=hcy h0;exact⟨b,off,hA,fun j u hu=>(hc j u hu).1⟩) h1y h63 hbytes (Nat.zero_le _)
  refine⟨v',w',?_,?_⟩
  ·simp only[execOp,resolve,invoke,builtin,Sem.run_bind,Sem.run_pure,Result.andThen_ok,List.map_toArray,List.map_cons,List.map_nil,hsv,hv,hr]
  ·have hsame:Same I1 w w':=by
    intro b j hi;have hlt:=(hsat1.old b j hi).1;rcases hcase with ⟨hg,_,hcells⟩ | ⟨hg,_⟩
    ·by_cases e':(ρ id).ownBlock=some b
     ·obtain⟨arr',eb',fr',hb''⟩:=zP5 hown e'
      exact KeepB.ofCell hb'' (hcells b e' j (by have:=(hIr b j e' hi).2;omega))
     ·exact KeepB.of (hg.block b hlt (fun e2=>e' e2.symm))
    ·exact KeepB.of (hg.block b hlt (by simp))
   have hblk:∀b,blockOf v'=some b→v'.ownBlock=some b:=by
    intro b hbk;rcases hown'.2 with ⟨hn',_⟩ | ⟨gb,cap,cur,hn',_⟩
    ·rw[hn'] at hbk;cases hbk
    ·rw[hn'] at hbk ⊢;exact hbk
   have hne:(S.shareAV (S.ev x)).blk id≠ .none:=by rw[hb'];simp
   have happ:((S.shareAV (S.ev x)).blk id).appended news= .row e size sh' (cells++news):=by rw[hb'];rfl
   rw[happ];have hnb:BlkOk w' I1 (upd ρ id v') E.mine id (.row e size sh' (cells++news)):=by
    have eu:upd ρ id v' id=v':=by simp[upd]
    refine⟨⟨hp.1,fun gb hg=>?_⟩,n'+m',xs++ys,by rw[List.length_append,hl',hlm,Nat.add_mul],by rw[eu];exact hown',?_,Pw.append (hpw.mono hsame (fun _ _ h=>h)) (hpy.mono hsame (fun _ _ h=>h)),?_⟩
    ·rw[eu] at hg
     rcases hcase with ⟨_,hob,_⟩ | ⟨_,hob⟩
     ·exact hp.2 gb (by rw[←hob];exact hg)
     ·rw[hob] at hg;cases hg;exact E.mineB _ (E.size _ _ _ hsat1.frame)
    ·intro u hu
     rcases List.mem_append.1 hu with hu | hu
     ·exact h1 u hu
     ·exact h1y u hu
    ·rw[eu]
     intro gb j hg hi;rcases hcase with ⟨_,hob,_⟩ | ⟨_,hob⟩
     ·rw[hob] at hg
      have:=hIr gb j hg hi;exact⟨this.1,by rw[List.length_append];omega⟩
     ·rw[hob] at hg
      cases hg;have:=(hsat1.old _ j hi).1;omega
   rcases hcase with ⟨hg,hob,_⟩ | ⟨hg,hob⟩
   ·have h2:=hsat1.update hg (id:=id) (u:=v') (fun k hk=>⟨hne,zAT hk⟩) hsame (fun b hbk=> .inr ⟨hne,zAT (by rw[←hob];exact hblk b hbk)⟩) hnb (.inr hE) hnm
    exact⟨I1,_,C,h2.put hn (by simp[Holds,upd])⟩
   ·have h2:=hsat1.update hg (id:=id) (u:=v') (fun k hk=>by cases hk) hsame (fun b hbk=> .inl (by have:=hblk b hbk;rw[hob] at this;cases this;exact Nat.le_refl _)) hnb (.inl rfl) hnm
    exact⟨I1,_,C,h2.put hn (by simp[Holds,upd])⟩
theorem zUA {t e size bytes:Nat} {z:Value} {s x:Operand} {id:Nat} {sh:Bool} {cells news:List DV} {n m:Nat} (hn:d<E.n) (hT:SlTy P t e size bytes z) (hs:S.ev s= .row id) (hb:S.blk id= .row e size sh cells)
  (hx:S.dv (S.ev x)=some (.sl size news)) (hl:cells.length=n*size) (hl2:news.length=m*size) (hbytes:(n+m)*bytes≤140737488355328) (h63:n+m≤maxLen) (hE:E.wrB=true) (hnm:E.nm id=none):
  j9 P r E ⟨some d,.call {callee:= .builtin .append,args:= #[s,x],argTypes:= #[t,t]},ty,pos,af,g⟩ S
   ((((S.shareAV (S.ev x)).kill id).setBlk id (((S.shareAV (S.ev x)).blk id).appended news)).put d (.row id)):=
 zDL (by simp) fun A w I ρ C hsat=>zZM hn hT hb hx hl hl2 hbytes h63 hE hnm hsat (by have:=hsat.ev s;rw[hs] at this;exact this)
def vH:DV→List DV
 | .agg es=>es
 | x=>[x]
def okDV (size:Nat):DV→Bool
 | .agg es=>es.length==size
 | .v u=>u.oneCell'&&size==1
 | .sl _ _=>size==1
 | .pt _=>size==1
 | .fn _ _=>size==1
 | .bm _ _=>size==1
 | .mp _ _=>size==1
theorem Rep.flat {w:World} {I:Im} {v:Value} {x:DV} {size:Nat} (h:Rep w I v x) (ho:okDV size x=true):
  Reps w I v.cells.toList (vH x)∧(∀u∈v.cells.toList,u.oneCell'=true)∧(vH x).length=size:=by
 cases h with
 | v=>
  simp[okDV] at ho;rw[zJS ho.1];exact⟨Pw.cons (.v v) Pw.nil,by simpa using ho.1,by simp[vH,ho.2]⟩
 | nil A c s=>
  simp[okDV] at ho;exact⟨Pw.cons (.nil A c s) Pw.nil,by simp[Value.cells,Value.oneCell'],by simp[vH,ho]⟩
 | sl b off n c s xs cells hn hcap hl hx hc h1 hr=>
  simp[okDV] at ho;exact⟨Pw.cons (.sl b off n c s xs cells hn hcap hl hx hc h1 hr) Pw.nil,by simp[Value.cells,Value.oneCell'],by simp[vH,ho]⟩
 | pt b off xs cells hx hc h1 hr=>
  simp[okDV] at ho;exact⟨Pw.cons (.pt b off xs cells hx hc h1 hr) Pw.nil,by simp[Value.cells,Value.oneCell'],by simp[vH,ho]⟩
 | fn f xs cells hx hr=>
  simp[okDV] at ho;exact⟨Pw.cons (.fn f xs cells hx hr) Pw.nil,by simp[Value.cells,Value.oneCell'],by simp[vH,ho]⟩
 | bm f xs cells hx hr=>
  simp[okDV] at ho;exact⟨Pw.cons (.bm f xs cells hx hr) Pw.nil,by simp[Value.cells,Value.oneCell'],by simp[vH,ho]⟩
 | mp b clock ents vs hh hb hx hr hN=>
  simp[okDV] at ho;exact⟨Pw.cons (.mp b clock ents vs hh hb hx hr hN) Pw.nil,by simp[Value.cells,Value.oneCell'],by simp[vH,ho]⟩
 | agg xs cells hx h1 hr=>
  simp[okDV] at ho;exact⟨⟨by simpa[Value.cells,vH] using hx,by simpa[Value.cells,vH] using hr⟩,by simpa[Value.cells] using h1,by simp[vH,ho]⟩
theorem zZN (vs:List Value) (off:Nat):∀(k:Nat) (arr:Array Value),off+k+vs.length≤arr.size→
  ((vs.zipIdx k).foldl (fun cs (p:Value×Nat)=>cs.setIfInBounds (off+p.2) p.1) arr).toList=arr.toList.take (off+k)++vs++arr.toList.drop (off+k+vs.length):=by
 induction vs with
 | nil=>intro k arr _;simp
 | cons v vs ih=>
  intro k arr h;simp only[List.length_cons] at h;rw[List.zipIdx_cons,List.foldl_cons,ih (k+1) _ (by simp;omega)]
  simp only[Array.toList_setIfInBounds,List.length_cons];have hlt:off+k<arr.toList.length:=by simp;omega
  rw[List.set_eq_take_append_cons_drop,if_pos hlt];have e1:(arr.toList.take (off+k)).length=off+k:=by simp;omega
  have e2:off+(k+1)=(arr.toList.take (off+k)).length+1:=by rw[e1];omega
  have e3:off+(k+1)+vs.length=(arr.toList.take (off+k)).length+(1+vs.length):=by rw[e1];omega
  rw[e3,e2,List.take_length_add_append,List.drop_length_add_append];rw[Nat.add_comm 1 vs.length,List.drop_succ_cons,List.drop_drop,show off+k+1+vs.length=off+k+(vs.length+1) by omega];simp
theorem zUB {place:Nat→Option (Nat×Nat)} {arr:Array Value} {i off size:Nat} {v:Value} {rest:List (Nat×Value)} (hp:place i=some (off,size)) (hv:v.cells.size=size) (hfit:off+size≤arr.size):
  Instr.fill place arr ((i,v)::rest)=Instr.fill place (arr.toList.take off++v.cells.toList++arr.toList.drop (off+size)).toArray rest:=by
 subst hv;have h:=zZN v.cells.toList off 0 arr (by simpa using hfit);simp only[Nat.add_zero] at h;have e:v.cells.zipIdx.foldl (fun cs (x:Value×Nat)=>cs.setIfInBounds (off+x.2) x.1) arr=(arr.toList.take off++v.cells.toList++arr.toList.drop (off+v.cells.size)).toArray:=by
  apply Array.ext';rw[←Array.foldl_toList,Array.toList_zipIdx];simpa using h
 have hc:¬(v.cells.size≠v.cells.size ||off+v.cells.size > arr.size)=true:=by simp;omega
 simp only[Instr.fill,hp];rw[if_neg hc];congr 1
def zAV {α:Type}:Nat→List α→List (Nat×α)
 | _,[]=>[]
 | k,x::r=>(k,x)::zAV (k+1) r
theorem zIE {α β:Type} (f: α→β):∀(l:List α) (k:Nat),(zAV k l).map (fun p=>(p.1,f p.2))=zAV k (l.map f)
 | [],_=>rfl
 | x::l,k=>by simp[zAV,zIE f l (k+1)]
theorem zUC (size:Nat):∀(vs:List Value) (k:Nat) (arr:Array Value),(∀v∈vs,v.cells.size=size)→(k+vs.length)*size≤arr.size→
  Instr.fill (fun i=>some (i*size,size)) arr (zAV k vs)=some (arr.toList.take (k*size)++vs.flatMap (fun v=>v.cells.toList)++arr.toList.drop ((k+vs.length)*size)).toArray:=by
 intro vs
 induction vs with
 | nil=>intro k arr _ _;simp[zAV,Instr.fill]
 | cons v vs ih=>
  intro k arr hv hfit;simp only[List.length_cons] at hfit;have hm:(k+(vs.length+1))*size=k*size+size+vs.length*size:=by
   rw[Nat.add_mul,Nat.add_mul,Nat.one_mul];omega
  have hm2:(k+1)*size=k*size+size:=by rw[Nat.add_mul,Nat.one_mul]
  have hm3:(k+1+vs.length)*size=k*size+size+vs.length*size:=by rw[Nat.add_mul,hm2]
  have hv0:v.cells.toList.length=size:=by rw[Array.length_toList];exact hv v (by simp)
  rw[zAV,zUB rfl (hv v (by simp)) (by omega),ih (k+1) _ (fun u hu=>hv u (by simp[hu])) (by simp[hv0];omega)]
  congr 2;rw[hm3,hm2];simp only[List.length_cons,List.flatMap_cons,hm];have e1:(arr.toList.take (k*size)++v.cells.toList).length=k*size+size:=by simp[hv0];omega
  rw[←e1,List.take_left,List.drop_length_add_append,List.drop_drop];simp only[List.append_assoc]
theorem zMA {w:World} {I:Im} {size:Nat}:∀{vs:List Value} {ds:List DV},Reps w I vs ds→ds.all (okDV size)=true→
  Reps w I (vs.flatMap fun v=>v.cells.toList) (ds.flatMap vH)∧(∀u∈vs.flatMap (fun v=>v.cells.toList),u.oneCell'=true)∧(∀v∈vs,v.cells.size=size)∧(ds.flatMap vH).length=ds.length*size
 | [],[],_,_=>⟨Pw.nil,by simp,by simp,by simp⟩
 | [],_::_,h,_=>by have:=h.1;simp at this
 | _::_,[],h,_=>by have:=h.1;simp at this
 | v::vs,x::ds,h,ho=>by
  simp only[List.all_cons,Bool.and_eq_true] at ho;have h0:=(h.2 0 v x rfl rfl).flat ho.1;have h':Reps w I vs ds:=⟨by have:=h.1;simpa using this,fun j u y hu hy=>h.2 (j+1) u y (by simpa using hu) (by simpa using hy)⟩
  obtain⟨a1,a2,a3,a4⟩:=zMA h' ho.2;refine⟨by simp only[List.flatMap_cons];exact Pw.append h0.1 a1,?_,?_,?_⟩
  ·intro u hu
   simp only[List.flatMap_cons,List.mem_append] at hu;rcases hu with hu | hu
   ·exact h0.2.1 u hu
   ·exact a2 u hu
  ·intro u hu
   rcases List.mem_cons.1 hu with rfl | hu
   ·have:=h0.1.1;rw[h0.2.2,Array.length_toList] at this;exact this
   ·exact a3 u hu
  ·simp only[List.flatMap_cons,List.length_append,List.length_cons,h0.2.2,a4,Nat.add_mul];omega
theorem zAP {t e size bytes:Nat} {z:Value} {len:Nat} {ps:List (Nat×Operand)} {ds:List DV} (hn:d<E.n) (hT:SlTy P t e size bytes z) (hseq:ps=zAV 0 (ps.map Prod.snd)) (hlen:ps.length=len)
    (hds:S.dvL ((ps.map Prod.snd).map S.ev)=some ds) (hok:ds.all (okDV size)=true) (hsz:len*size≤16777216) (hnm:E.nm d=none):
    j9 P r E ⟨some d,.buildSlice t len ps.toArray,ty,pos,af,g⟩ S
      ((((S.shareL ((ps.map Prod.snd).map S.ev)).kill d).setBlk d (.row e size false (ds.flatMap vH))).put d (.row d)):=
  zDL (by simp) fun A w I ρ C hs=>by
    generalize hxs:ps.map Prod.snd=xs at hseq hds ⊢;obtain⟨I1,h1,h2,h3⟩:=SatAt.dvL _ hs (u7 hs xs) hds;obtain⟨a1,a2,a3,a4⟩:=zMA h3 hok;have hvl:(xs.map A.eval).length=len:=by rw[←hlen,←hxs];simp
    have hdl:ds.length=len:=by rw[←h3.1];exact hvl
    have hml:len≤maxLen:=by
      have:=hT.pos;have:len*1≤len*size:=Nat.mul_le_mul_left _ this;simp only[maxLen];omega
    have hsat:=h2.newRow (id:=d) (e:=e) (size:=size) (n:=len) (c:=len) (rest:=[]) hT.pos (by rw[a4,hdl]) (Nat.le_refl _) hml (by simp) a1 a2 hnm;refine⟨.slice (some ⟨w.heap.size,0,none⟩) len len,_,?_,I1,_,C,hsat.put hn (by simp[Holds,upd])⟩;obtain⟨i,hi,hz,hsi,hby⟩:=hT.info;have hfill:=zUC size (xs.map A.eval) 0 ((Array.range (len*size)).map ((if len*size=0 then (#[]:Array Value) else z.cells)[· % (if len*size=0 then (#[]:Array Value) else z.cells).size]!)) a3 (by simp[←hvl]);have hlk:ps.toArray.map (fun p:Nat×Operand=>(p.1,A.eval p.2))=(zAV 0 (xs.map A.eval)).toArray:=by
      rw[hseq,List.map_toArray,zIE]
    have hnot:¬(len*size > 2 ^ 24):=by omega
    simp only[Nat.zero_mul,List.take_zero,List.nil_append,Nat.zero_add,hvl] at hfill;rw[List.drop_of_length_le (by simp)] at hfill;simp only[List.append_nil] at hfill ⊢;simp only[execOp,Instr.buildSlice,Sem.run_bind,run_underlying hT.und,Result.andThen_ok,hT.size w,hnot,if_false,Sem.run_pure];by_cases h0:len*size=0
    · have hl0:len=0:=by
        rcases Nat.mul_eq_zero.1 h0 with h | h
        · exact h
        · have:=hT.pos;omega
      have hx0:xs= []:=List.eq_nil_of_length_eq_zero (by simpa[hl0] using hvl);subst hx0;subst hl0;simp[hlk,zAV,Instr.fill,newRow,Array.range_zero']
    · simp only[h0,if_false] at hfill ⊢
      simp[zeroValue,typeInfo,hi,hz,hlk,hfill,newRow]
def zHD (z:Value) (n:Nat):List DV:=(List.replicate n (z.cells.toList.map DV.v)).flatten
theorem zOQ (z:Array Value) (n:Nat):(madeCells z (n*z.size)).toList=(List.replicate n z.toList).flatten:=by
 apply List.ext_getElem?;intro j;simp only[madeCells,Array.toList_map,Array.toList_range,List.getElem?_map]
 induction n generalizing j with
 | zero=>simp
 | succ n ih=>
  rw[List.replicate_succ,List.flatten_cons];by_cases hj:j<z.size;rw[List.getElem?_append_left (by simpa using hj)];have h2:j<(n+1)*z.size:=by rw[Nat.add_mul,Nat.one_mul];omega
  rw[List.getElem?_range h2];simp[Nat.mod_eq_of_lt hj,hj];rw[List.getElem?_append_right (by simp;omega),←ih]
  simp only[Array.length_toList];by_cases h2:j<(n+1)*z.size;have h3:j-z.size<n*z.size:=by rw[Nat.add_mul,Nat.one_mul] at h2;omega
  rw[List.getElem?_range h2,List.getElem?_range h3];simp only[Option.map_some];have:j%z.size=(j-z.size)%z.size:=by
   rw[Nat.mod_eq_sub_mod (by omega)]
  rw[this];have h3:¬j-z.size<n*z.size:=by rw[Nat.add_mul,Nat.one_mul] at h2;omega
  rw[List.getElem?_eq_none (by simpa using h2),List.getElem?_eq_none (by simpa using h3)]
theorem zOR (w:World) (I:Im) (vs:List Value):Reps w I vs (vs.map DV.v):=by refine⟨by simp,fun j x y hx hy=>?_⟩;simp[hx] at hy;subst hy;exact .v x
theorem zQZ {t e size bytes:Nat} {z:Value} {x:Operand} {n:Nat} {m:Int} (hn:d<E.n) (hT:SlTy P t e size bytes z) (hx:S.ev x= .d (.v (.int .i64 m))) (hm:m=(n:Int)) (hb:n*bytes≤140737488355328) (hml:n≤maxLen) (hnm:E.nm d=none):
  j9 P r E ⟨some d,.makeSlice t x x,ty,pos,af,g⟩ S (((S.kill d).setBlk d (.row e size false (zHD z n))).put d (.row d)):=
 zDL (by simp) fun A w I ρ C hs=>by
  subst hm;obtain⟨i,hi,hz,hsi,hby⟩:=hT.info;subst hsi hby;have hflat:zHD z n=((List.replicate n z.cells.toList).flatten).map DV.v:=by simp[zHD,List.map_flatten]
  have hlen:((List.replicate n z.cells.toList).flatten).length=n*i.size:=by simp[hT.zs]
  have hsat:=hs.newRow (id:=d) (e:=e) (size:=i.size) (n:=n) (c:=n) (xs:=(List.replicate n z.cells.toList).flatten) (cells:=zHD z n) (rest:=[]) hT.pos (by rw[hflat];simpa using hlen) (Nat.le_refl _) hml (by simp)
   (by rw[hflat];exact zOR _ _ _) (by
    intro u hu;obtain⟨l,hl,hu⟩:=List.mem_flatten.1 hu;rw[List.mem_replicate] at hl;rw[hl.2] at hu;exact hT.one u hu) hnm
  refine⟨.slice (some ⟨w.heap.size,0,none⟩) n n,_,?_,I,_,C,hsat.put hn (by simp[Holds,upd])⟩;have hmc:=zOQ z.cells n;rw[hT.zs] at hmc;have hmc2:madeCells z.cells (n*i.size)=((List.replicate n z.cells.toList).flatten).toArray:=by
   apply Array.ext';simpa using hmc
  have hb':(i.bytes:Int)*(n:Int)≤281474976710656:=by
   have h:((i.bytes*n:Nat):Int)≤281474976710656:=by rw[Nat.mul_comm];omega
   rwa [Int.natCast_mul] at h
  have hrun:=run_make (P:=P) w t e i z hT.und hi hz .i64 .i64 n n (by omega) (by omega) hb' (by simp only[maxLen] at hml;omega)
  simp only[Int.toNat_natCast] at hrun;simp only[execOp,hs.val hx,Sem.run_bind,List.append_nil];rw[hrun,hmc2];rfl
end
end Go.AV
namespace Go.AV
open Go.RowKit
structure Agree (S S':AState) (o:Oper):Prop where
 blks:S'.blks=S.blks
 get:∀t,Operand.tmp t∈o.op.operands→S'.get t=S.get t
theorem Agree.ev {S S':AState} {o:Oper} (h:Agree S S' o) {x:Operand} (hx:x∈o.op.operands):S'.ev x=S.ev x:=by
 cases x with
 | tmp t=>simp only[AState.ev,h.get t hx]
 | _=>rfl
theorem Agree.blk {S S':AState} {o:Oper} (h:Agree S S' o) (id:Nat):S'.blk id=S.blk id:=by unfold AState.blk;rw[h.blks]
def AOp (P:Program) (r:Option Nat) (E:Env) (S:AState) (o:Oper) (d:Nat) (x:AV):Prop:=
 o.dst=some d∧d<E.n∧∀S',Agree S S' o→j9 P r E o S' (S'.put d x)
theorem AOp.step {P:Program} {r:Option Nat} {E:Env} {S:AState} {o:Oper} {d:Nat} {x:AV} (h:AOp P r E S o d x):j9 P r E o S (S.put d x):=h.2.2 S ⟨rfl,fun _ _=>rfl⟩
section
variable {P:Program} {r:Option Nat} {E:Env} {S:AState} {d:Nat} {ty:TypeId} {pos:String} {af:Array Edge} {g:Option (Nat×Bool)}
theorem z7V {x:Operand} (hn:d<E.n):AOp P r E S ⟨some d,.move x,ty,pos,af,g⟩ d (S.ev x):=
 ⟨rfl,hn,fun S' h=>by have:=zZG (P:=P) (r:=r) (S:=S') (x:=x) (ty:=ty) (pos:=pos) (af:=af) (g:=g) hn;rwa [h.ev (by simp[Op.operands])] at this⟩
theorem z1O {x:Operand} (hn:d<E.n):AOp P r E S ⟨some d,.assign x,ty,pos,af,g⟩ d (S.ev x):=
 ⟨rfl,hn,fun S' h=>by have:=zT6 (P:=P) (r:=r) (S:=S') (x:=x) (ty:=ty) (pos:=pos) (af:=af) (g:=g) hn;rwa [h.ev (by simp[Op.operands])] at this⟩
section ints
variable {k:IntKind} {x y:Operand} {a b:Int} {tx tz:TypeId} (hn:d<E.n) (hx:S.ev x= .d (.v (.int k a))) (hy:S.ev y= .d (.v (.int k b)))
include hn hx hy
theorem yJ:AOp P r E S ⟨some d,.binOp .lss tx x y tz,ty,pos,af,g⟩ d (.d (.v (.bool (decide (a<b))))):=
 ⟨rfl,hn,fun _ h=>z1C hn ((h.ev (by simp[Op.operands])).trans hx) ((h.ev (by simp[Op.operands])).trans hy)⟩
theorem xV:AOp P r E S ⟨some d,.binOp .leq tx x y tz,ty,pos,af,g⟩ d (.d (.v (.bool (decide (a≤b))))):=
 ⟨rfl,hn,fun _ h=>z1D hn ((h.ev (by simp[Op.operands])).trans hx) ((h.ev (by simp[Op.operands])).trans hy)⟩
theorem xN:AOp P r E S ⟨some d,.binOp .gtr tx x y tz,ty,pos,af,g⟩ d (.d (.v (.bool (decide (b<a))))):=
 ⟨rfl,hn,fun _ h=>z1E hn ((h.ev (by simp[Op.operands])).trans hx) ((h.ev (by simp[Op.operands])).trans hy)⟩
theorem wE:AOp P r E S ⟨some d,.binOp .geq tx x y tz,ty,pos,af,g⟩ d (.d (.v (.bool (decide (b≤a))))):=
 ⟨rfl,hn,fun _ h=>z1F hn ((h.ev (by simp[Op.operands])).trans hx) ((h.ev (by simp[Op.operands])).trans hy)⟩
theorem x8:AOp P r E S ⟨some d,.binOp .eql tx x y tz,ty,pos,af,g⟩ d (.d (.v (.bool (decide (a=b))))):=
 ⟨rfl,hn,fun _ h=>z1G hn ((h.ev (by simp[Op.operands])).trans hx) ((h.ev (by simp[Op.operands])).trans hy)⟩
theorem u9:AOp P r E S ⟨some d,.binOp .neq tx x y tz,ty,pos,af,g⟩ d (.d (.v (.bool (!decide (a=b))))):=
 ⟨rfl,hn,fun _ h=>z1H hn ((h.ev (by simp[Op.operands])).trans hx) ((h.ev (by simp[Op.operands])).trans hy)⟩
end ints
theorem zKC {k k':IntKind} {x y:Operand} {a:Int} {m:Nat} {tx tz:TypeId} (hn:d<E.n) (hx:S.ev x= .d (.v (.int k a))) (hy:S.ev y= .d (.v (.int k' (m:Int))))
  (hm:m≤k.bits):AOp P r E S ⟨some d,.binOp .shr tx x y tz,ty,pos,af,g⟩ d (.d (.v (.int k (a/2 ^ m)))):=
 ⟨rfl,hn,fun _ h=>z1I hn ((h.ev (by simp[Op.operands])).trans hx) ((h.ev (by simp[Op.operands])).trans hy) hm⟩
theorem xH {x:Operand} {b:Bool} {tx:TypeId} (hn:d<E.n) (hx:S.ev x= .d (.v (.bool b))):AOp P r E S ⟨some d,.unOp .not tx x,ty,pos,af,g⟩ d (.d (.v (.bool (!b)))):=
 ⟨rfl,hn,fun _ h=>z1J hn ((h.ev (by simp[Op.operands])).trans hx)⟩
theorem zV {c:Operand} {t:Nat} {b b':Bool} (hn:d<E.n) (hc:S.ev c= .d (.v (.bool b))) (ht:S.get t= .cond b (.d (.v (.bool b')))):
  AOp P r E S ⟨some d,.pick c (.tmp t) (.const (.bool false)),ty,pos,af,g⟩ d (.d (.v (.bool (b&&b')))):=
 ⟨rfl,hn,fun _ h=>zP0 hn ((h.ev (by simp[Op.operands])).trans hc) ((h.get t (by simp[Op.operands])).trans ht)⟩
theorem yS {c:Operand} {t:Nat} {b b':Bool} (hn:d<E.n) (hc:S.ev c= .d (.v (.bool b))) (ht:S.get t= .cond (!b) (.d (.v (.bool b')))):
  AOp P r E S ⟨some d,.pick c (.const (.bool true)) (.tmp t),ty,pos,af,g⟩ d (.d (.v (.bool (b ||b')))):=
 ⟨rfl,hn,fun _ h=>zR8 hn ((h.ev (by simp[Op.operands])).trans hc) ((h.get t (by simp[Op.operands])).trans ht)⟩
section strs
variable {x y:Operand} {a b:ByteArray} {tx tz:TypeId} (hn:d<E.n) (hx:S.ev x= .d (.v (.string a))) (hy:S.ev y= .d (.v (.string b)))
include hn hx hy
theorem z7W:AOp P r E S ⟨some d,.binOp .eql tx x y tz,ty,pos,af,g⟩ d (.d (.v (.bool (a.toList==b.toList)))):=
 ⟨rfl,hn,fun _ h=>zZH hn ((h.ev (by simp[Op.operands])).trans hx) ((h.ev (by simp[Op.operands])).trans hy)⟩
theorem z7X:AOp P r E S ⟨some d,.binOp .neq tx x y tz,ty,pos,af,g⟩ d (.d (.v (.bool (!(a.toList==b.toList))))):=
 ⟨rfl,hn,fun _ h=>zZI hn ((h.ev (by simp[Op.operands])).trans hx) ((h.ev (by simp[Op.operands])).trans hy)⟩
theorem z7Y:AOp P r E S ⟨some d,.binOp .lss tx x y tz,ty,pos,af,g⟩ d (.d (.v (.bool (Op.bytesLess a.toList b.toList)))):=
 ⟨rfl,hn,fun _ h=>zZJ hn ((h.ev (by simp[Op.operands])).trans hx) ((h.ev (by simp[Op.operands])).trans hy)⟩
end strs
theorem zWZ {k k':IntKind} {x:Operand} {a:Int} {ts td:TypeId} {ds:TypeDesc} (hn:d<E.n) (hs:P.underlying ts=some ds) (hd:P.underlying td=some (.int k')) (hx:S.ev x= .d (.v (.int k a))):
  AOp P r E S ⟨some d,.convert ts td x,ty,pos,af,g⟩ d (.d (.v (.int k' (k'.wrap a)))):=
 ⟨rfl,hn,fun _ h=>zP1 hn hs hd ((h.ev (by simp[Op.operands])).trans hx)⟩
theorem xC {x:Operand} {i:Nat} {ds:List DV} {e:DV} (hn:d<E.n) (hx:S.ev x= .tup ds) (hi:ds[i]? =some e):AOp P r E S ⟨some d,.extract x i,ty,pos,af,g⟩ d (.d e):=
 ⟨rfl,hn,fun _ h=>zR9 hn ((h.ev (by simp[Op.operands])).trans hx) hi⟩
theorem z42 {t e size bytes:Nat} {z:Value} {x:Operand} {cells:List DV} {n:Nat} (hn:d<E.n) (hT:SlTy P t e size bytes z) (hx:S.ev x= .d (.sl size cells)) (hl:cells.length=n*size):
  AOp P r E S ⟨some d,.call {callee:= .builtin .len,args:= #[x],argTypes:= #[t]},ty,pos,af,g⟩ d (.d (.v (.int .i64 n))):=
 ⟨rfl,hn,fun _ h=>zWW hn hT ((h.ev (by simp[Op.operands,Call.operands])).trans hx) hl⟩
theorem zZO {t e size bytes:Nat} {z:Value} {x:Operand} {id:Nat} {sh:Bool} {cells:List DV} {n:Nat} (hn:d<E.n) (hT:SlTy P t e size bytes z) (hx:S.ev x= .row id) (hb:S.blk id= .row e size sh cells) (hl:cells.length=n*size):
  AOp P r E S ⟨some d,.call {callee:= .builtin .len,args:= #[x],argTypes:= #[t]},ty,pos,af,g⟩ d (.d (.v (.int .i64 n))):=
 ⟨rfl,hn,fun _ h=>zSA hn hT ((h.ev (by simp[Op.operands,Call.operands])).trans hx) ((h.blk id).trans hb) hl⟩
theorem zZP {t:TypeId} {x:Operand} {s:ByteArray} (hn:d<E.n) (hu:P.underlying t=some .string) (hx:S.ev x= .d (.v (.string s))):
  AOp P r E S ⟨some d,.call {callee:= .builtin .len,args:= #[x],argTypes:= #[t]},ty,pos,af,g⟩ d (.d (.v (.int .i64 s.size))):=
 ⟨rfl,hn,fun _ h=>zSB hn hu ((h.ev (by simp[Op.operands,Call.operands])).trans hx)⟩
theorem zZQ {t e size bytes:Nat} {z:Value} {x ix:Operand} {cells:List DV} {n k:Nat} {kk:IntKind} {i:Int} (hn:d<E.n) (hT:SlTy P t e size bytes z) (hx:S.ev x= .d (.sl size cells))
  (hi:S.ev ix= .d (.v (.int kk i))) (hk:i=(k:Int)) (hl:cells.length=n*size) (hlt:k<n):
  AOp P r E S ⟨some d,.indexAddr t x ix,ty,pos,af,g⟩ d (.ip cells (k*size)):=
 ⟨rfl,hn,fun _ h=>zSC hn hT ((h.ev (by simp[Op.operands])).trans hx) ((h.ev (by simp[Op.operands])).trans hi) hk hl hlt⟩
theorem zUD {t e size bytes:Nat} {z:Value} {x ix:Operand} {id:Nat} {sh:Bool} {cells:List DV} {n k:Nat} {kk:IntKind} {i:Int} (hn:d<E.n) (hT:SlTy P t e size bytes z) (hx:S.ev x= .row id)
  (hb:S.blk id= .row e size sh cells) (hi:S.ev ix= .d (.v (.int kk i))) (hk:i=(k:Int)) (hl:cells.length=n*size) (hlt:k<n):
  AOp P r E S ⟨some d,.indexAddr t x ix,ty,pos,af,g⟩ d (.ptr id (k*size)):=
 ⟨rfl,hn,fun _ h=>zOH hn hT ((h.ev (by simp[Op.operands])).trans hx) ((h.blk id).trans hb) ((h.ev (by simp[Op.operands])).trans hi) hk hl hlt⟩
theorem zL {t:TypeId} {x:Operand} {cells:List DV} {off:Nat} {e:DV} (hn:d<E.n) (hT:OneTy P t) (hx:S.ev x= .ip cells off) (hc:cells[off]? =some e):
  AOp P r E S ⟨some d,.load t x,ty,pos,af,g⟩ d (.d e):=
 ⟨rfl,hn,fun _ h=>zSD hn hT ((h.ev (by simp[Op.operands])).trans hx) hc⟩
theorem wF {t n:Nat} {x:Operand} {cells:List DV} {off:Nat} {es:List DV} (hn:d<E.n) (hT:AggTy P t n) (hx:S.ev x= .ip cells off) (hc:(cells.drop off).take n=es) (hl:es.length=n):
  AOp P r E S ⟨some d,.load t x,ty,pos,af,g⟩ d (.d (.agg es)):=
 ⟨rfl,hn,fun _ h=>zP2 hn hT ((h.ev (by simp[Op.operands])).trans hx) hc hl⟩
theorem jF {t:TypeId} {x:Operand} {id off eb:Nat} {cells:List AV} {av:AV} (hn:d<E.n) (hT:OneTy P t) (hx:S.ev x= .ptr id off) (hb:S.blk id= .box eb cells) (hc:cells[off]? =some av):
  AOp P r E S ⟨some d,.load t x,ty,pos,af,g⟩ d av:=
 ⟨rfl,hn,fun _ h=>zP3 hn hT ((h.ev (by simp[Op.operands])).trans hx) ((h.blk id).trans hb) hc⟩
theorem zW0 {t:TypeId} {x:Operand} {id off e size:Nat} {sh:Bool} {cells:List DV} {y:DV} (hn:d<E.n) (hT:OneTy P t) (hx:S.ev x= .ptr id off) (hb:S.blk id= .row e size sh cells) (hc:cells[off]? =some y):
  AOp P r E S ⟨some d,.load t x,ty,pos,af,g⟩ d (.d y):=
 ⟨rfl,hn,fun _ h=>zP4 hn hT ((h.ev (by simp[Op.operands])).trans hx) ((h.blk id).trans hb) hc⟩
theorem zUE {t n:Nat} {x:Operand} {id off e size:Nat} {sh:Bool} {cells es:List DV} (hn:d<E.n) (hT:AggTy P t n) (hx:S.ev x= .ptr id off) (hb:S.blk id= .row e size sh cells)
  (hc:(cells.drop off).take n=es) (hl:es.length=n):AOp P r E S ⟨some d,.load t x,ty,pos,af,g⟩ d (.d (.agg es)):=
 ⟨rfl,hn,fun _ h=>zOI hn hT ((h.ev (by simp[Op.operands])).trans hx) ((h.blk id).trans hb) hc hl⟩
def unD:List AV→Option (List DV)
 | []=>some []
 | .d x::r=>match unD r with
  | some ys=>some (x::ys)
  | none=>none
 | _::_=>none
theorem zEB (S:AState):∀{l:List AV} {ds:List DV},unD l=some ds→S.dvL l=some ds∧S.shareL l=S
 | [],ds,h=>by simp[unD] at h;subst h;exact⟨rfl,rfl⟩
 | .d x::l,ds,h=>by
  simp only[unD] at h;cases hl:unD l with
  | none=>simp[hl] at h
  | some ys=>
   simp[hl] at h;subst h;obtain⟨h1,h2⟩:=zEB S hl;exact⟨by simp[AState.dvL,AState.dv,h1],by simpa[AState.shareL,AState.shareAV] using h2⟩
 | .top::_,_,h=>by simp[unD] at h
 | .row _::_,_,h=>by simp[unD] at h
 | .ptr _ _::_,_,h=>by simp[unD] at h
 | .ip _ _::_,_,h=>by simp[unD] at h
 | .tup _::_,_,h=>by simp[unD] at h
 | .cond _ _::_,_,h=>by simp[unD] at h
 | .gh _::_,_,h=>by simp[unD] at h
 | .rs _ _ _::_,_,h=>by simp[unD] at h
theorem z1 {f:FuncId} {xs:List Operand} {ats:Array TypeId} {ds rs:List DV} (hn:d<E.n) (hds:unD (xs.map S.ev)=some ds) (hc:zU P f ds rs) (hG:E.gdt=uO P:=by rfl):
  AOp P r E S ⟨some d,.call {callee:= .value (.func f),args:=xs.toArray,argTypes:=ats},ty,pos,af,g⟩ d (zOO rs):=
 ⟨rfl,hn,fun S' h=>by
  have he:xs.map S'.ev=xs.map S.ev:=List.map_congr_left fun x hx=>h.ev (by simp[Op.operands,Call.operands,hx]);obtain⟨h1,h2⟩:=zEB S' hds;have:=zQW (P:=P) (r:=r) (S:=S') (ty:=ty) (pos:=pos) (af:=af) (g:=g) (ats:=ats) hn (by rw[he];exact h1) hc hG
  rwa [he,h2] at this⟩
def zUF (P:Program) (r:Option Nat) (E:Env) (ops:Array Oper) (o:Oper) (S S':AState):Prop:=
 ∀a w (K:Act→World→Prop) (Q:Exit→Act→World→Prop),Sat E S a w→(∀a' w',Sat E S' a' w'→K a' w')→
  if Region.wanted o (yielded ops a.tmps) then o.wpIn (fen r) 0 P a w K Q else (∀f,o.about P w a.eval=some f→(fen r).fn f)∧K (a.put o.dst undef) w
def zUG (P:Program) (r:Option Nat) (E:Env) (ops:Array Oper) (S:AState) (o:Oper) (d:Nat) (x:AV):Prop:=
 o.dst=some d∧d<E.n∧∀S',S'.blks=S.blks→(∀t∈o.looksAt ops,S'.get t=S.get t)→zUF P r E ops o S' (S'.put d x)
theorem zMB {ops:Array Oper} {o:Oper} {t:Nat} (h:Operand.tmp t∈o.op.operands):t∈o.looksAt ops:=
 List.mem_append_left _ (List.mem_filterMap.2 ⟨.tmp t,by simpa using h,rfl⟩)
theorem zK9 {ops:Array Oper} {o:Oper} {S':AState} (hg:o.guard=none) (h:j9 P r E o S S'):zUF P r E ops o S S':=fun a w K Q hs hk=>by simp only[Region.wanted,hg,if_true];exact h a w K Q hs hk
theorem zUH {ops:Array Oper} {o:Oper} {x:AV} (hg:o.guard=none) (h:AOp P r E S o d x):zUG P r E ops S o d x:=
 ⟨h.1,h.2.1,fun S' hb hl=>zK9 hg (h.2.2 S' ⟨hb,fun t ht=>hl t (zMB ht)⟩)⟩
theorem zUI {a:Act} {w:World} {c:Bool} {x:AV} (hn:d<E.n) (hc:c=true) (h:Sat E (S.put d x) a w):Sat E (S.put d (.cond c x)) a w:=by
 obtain⟨I',ρ',C',h'⟩:=h;refine⟨I',ρ',C',⟨fun u=>?_,h'.blks,h'.dist,by have:=h'.frame;rw[zDA _ _ hn] at this ⊢;exact this,h'.sub,h'.old,h'.size,h'.defers,h'.cI,h'.cB,h'.nm⟩⟩
 have:=h'.tmps u;rw[zBD] at this ⊢;by_cases e:d=u;simp only[e,if_true] at this ⊢;exact⟨fun _=>this,fun hf=>by rw[hc] at hf;cases hf⟩
 simp only[e,if_false] at this ⊢;exact this
theorem zUJ {ops:Array Oper} {o:Oper} {j t:Nat} {want b:Bool} {x:AV} (hg:o.guard=some (j,want)) (hj:(ops[j]?).bind (·.dst)=some t) (hd:o.dst=some d) (hn:d<E.n) (hnt:t<E.n)
    (ht:S.get t= .d (.v (.bool b))) (h:gd want b=true→AOp P r E S o d x):zUG P r E ops S o d (.cond (gd want b) x):=by
  refine⟨hd,hn,fun S' hb hl a w Kn Q hs hk=>?_⟩;obtain⟨I,ρ,C,hsat⟩:=hs;have htl:t∈o.looksAt ops:=List.mem_append_right _ (by simp[hg,hj]);have hy:=hsat.yield (ops:=ops) hj ((hl t htl).trans ht) hnt;have hwant:Region.wanted o (yielded ops a.tmps)=gd want b:=by
    simp only[Region.wanted,hg,hy];cases want<;>cases b<;>rfl
  rw[hwant];cases hb':gd want b with
  | true=>
    simp only[if_true];refine(h hb').2.2 S' ⟨hb,fun t ht=>hl t (zMB ht)⟩ a w Kn Q ⟨I,ρ,C,hsat⟩ fun a' w' hs'=>hk a' w' ?_;rw[hb'];exact zUI hn rfl hs'
  | false=>
    simp only[Bool.false_eq_true,if_false];refine⟨fun _ _=>trivial,hk _ _ ?_⟩;rw[hd,hb'];exact⟨I,ρ,C,hsat.put hn ⟨fun hf=>(by cases hf),fun _=>rfl⟩⟩
theorem zQ0 {ops:Array Oper} {o:Oper} {j t:Nat} {want b c:Bool} {x:AV} (hg:o.guard=some (j,want)) (hj:(ops[j]?).bind (·.dst)=some t) (hd:o.dst=some d) (hn:d<E.n) (hnt:t<E.n)
    (ht:S.get t= .cond c (.d (.v (.bool b)))) (h:(c&&gd want b)=true→AOp P r E S o d x):zUG P r E ops S o d (.cond (c&&gd want b) x):=by
  refine⟨hd,hn,fun S' hb hl a w Kn Q hs hk=>?_⟩;obtain⟨I,ρ,C,hsat⟩:=hs;have htl:t∈o.looksAt ops:=List.mem_append_right _ (by simp[hg,hj]);have hy:=hsat.yield2 (ops:=ops) hj ((hl t htl).trans ht) hnt;have hwant:Region.wanted o (yielded ops a.tmps)=(c&&gd want b):=by
    simp only[Region.wanted,hg,hy];cases want<;>cases b<;>cases c<;>rfl
  rw[hwant];cases hb':(c&&gd want b) with
  | true=>
    simp only[if_true];refine(h hb').2.2 S' ⟨hb,fun t ht=>hl t (zMB ht)⟩ a w Kn Q ⟨I,ρ,C,hsat⟩ fun a' w' hs'=>hk a' w' ?_;rw[hb'];exact zUI hn rfl hs'
  | false=>
    simp only[Bool.false_eq_true,if_false];refine⟨fun _ _=>trivial,hk _ _ ?_⟩;rw[hd,hb'];exact⟨I,ρ,C,hsat.put hn ⟨fun hf=>(by cases hf),fun _=>rfl⟩⟩
def Sq (P:Program) (r:Option Nat) (E:Env) (ops:Array Oper):List Oper→AState→(AState→Prop)→Prop
 | [],S,J=>J S
 | o::rest,S,J=> ∃S',zUF P r E ops o S S'∧Sq P r E ops rest S' J
theorem zD {ops:Array Oper} {J:AState→Prop} (h:J S):Sq P r E ops [] S J:=h
theorem z7Z {ops:Array Oper} {o:Oper} {rest:List Oper} {J:AState→Prop} {x:AV} (h:zUG P r E ops S o d x) (k:Sq P r E ops rest (S.put d x) J):Sq P r E ops (o::rest) S J:=
 ⟨_,h.2.2 S rfl (fun _ _=>rfl),k⟩
theorem yO {ops:Array Oper} {o:Oper} {rest:List Oper} {J:AState→Prop} {S':AState} (hg:o.guard=none) (h:j9 P r E o S S') (k:Sq P r E ops rest S' J):Sq P r E ops (o::rest) S J:=
 ⟨_,zK9 hg h,k⟩
theorem zJT {ops:Array Oper} {rest:List Oper} {J:AState→Prop} {S':AState} (hw:zGG E S S') (k:Sq P r E ops rest S' J) (hne:rest≠[]):Sq P r E ops rest S J:=by
 cases rest with
 | nil=>exact absurd rfl hne
 | cons o rest=>
  obtain⟨S2,h,k⟩:=k;exact⟨S2,fun a w K Q hs hk=>h a w K Q (hw a w hs) hk,k⟩
theorem Sq.wp {ops:Array Oper} {Q:Exit→Act→World→Prop}:∀(l:List Oper) {S:AState} {J:AState→Prop} (_:Sq P r E ops l S J) (a:Act) (w:World),Sat E S a w→(∀S' a' w',J S'→Sat E S' a' w'→Q .normal a' w')→wpListIn (fen r) 0 P ops Q l a w
 | [],_,_,h,a,w,hs,hq=>hq _ a w h hs
 | _::l,_,_,⟨_,h,k⟩,a,w,hs,hq=>wpListIn_step fun K hK=>h a w K Q hs fun a' w' hs'=>hK a' w' (Sq.wp l k a' w' hs' hq)
theorem zE {id:Nat} {l:List Oper} {K:Exit→AState→Prop} (h:Sq P r E l.toArray l S (K .normal)):Avc P r E (.region id l.toArray false) K S:=fun a w hs=>
 wpIn_region_lit (Sq.wp l h a w hs fun S' _ _ hj hs'=>⟨S',hj,hs'⟩)
end
end Go.AV
namespace Go.AV
open Go.RowKit
def aft (o:Oper):List Nat:=(o.after.toList.filter fun e=>Region.binds .any e).map (·.on)
def clo:List Oper→List (List Nat)→List (List Nat)
 | [],acc=>acc
 | o::l,acc=>clo l (acc++ [((aft o).flatMap fun j=>j::acc.getD j []).eraseDups])
inductive Reach (l:List Oper):Nat→Nat→Prop
 | one {i j:Nat} {o:Oper} (h:l[i]? =some o) (hj:j∈aft o):Reach l i j
 | more {i k j:Nat} {o:Oper} (h:l[i]? =some o) (hk:k∈aft o) (hr:Reach l k j):Reach l i j
theorem zZR (l0:List Oper):∀(l:List Oper) (acc:List (List Nat)),(∀(k:Nat) o,l[k]? =some o→l0[acc.length+k]? =some o)→(∀i j,j∈acc.getD i []→Reach l0 i j)→∀i j,j∈(clo l acc).getD i []→Reach l0 i j:=by
 intro l
 induction l with
 | nil=>intro acc _ h i j hj;exact h i j hj
 | cons o l ih=>
  intro acc hl hacc;refine ih _ (fun k o' hk=>?_) (fun i j hj=>?_)
  ·have:=hl (k+1) o' (by simpa using hk)
   simp only[List.length_append,List.length_singleton]
   rwa [show acc.length+1+k=acc.length+(k+1) by omega]
  ·have h0:l0[acc.length]? =some o:=by simpa using hl 0 o rfl
   rcases Nat.lt_trichotomy i acc.length with hlt | heq | hgt
   ·have:(acc++ [((aft o).flatMap fun j=>j::acc.getD j []).eraseDups]).getD i []=acc.getD i []:=by
     simp[List.getD,List.getElem?_append_left hlt]
    rw[this] at hj;exact hacc i j hj
   ·subst heq
    have:(acc++ [((aft o).flatMap fun j=>j::acc.getD j []).eraseDups]).getD acc.length []=((aft o).flatMap fun j=>j::acc.getD j []).eraseDups:=by
     simp[List.getD]
    rw[this,List.mem_eraseDups,List.mem_flatMap] at hj;obtain⟨k,hk,hj⟩:=hj;rcases List.mem_cons.1 hj with rfl | hj
    ·exact .one h0 hk
    ·exact .more h0 hk (hacc k j hj)
   ·have:(acc++ [((aft o).flatMap fun j=>j::acc.getD j []).eraseDups]).getD i []= []:=by
     simp only[List.getD];rw[List.getElem?_eq_none (by simp;omega)]
     rfl
    rw[this] at hj;cases hj
def dstAt (l:List Oper) (i:Nat):Option Nat:=(l[i]?).bind (·.dst)
def zSF (l:List Oper) (N:Nat):Bool:=
 let c:=clo l []
 decide (N≤l.length)&&
 (List.range l.length).all fun i=>match l[i]? with
  | none=>true
  | some o=>
   ((aft o).all fun j=>decide (j<i))&&
   (if i<N then
    ((o.looksAt l.toArray).all fun t=>(List.range N).all fun j=>(Nat.beq j i ||(dstAt l j != some t)) ||(if j<i then (c.getD i []).contains j else (c.getD j []).contains i))&&
    ((List.range N).all fun j=>Nat.beq j i ||(dstAt l j != o.dst))
   else (List.range i).all fun j=>(c.getD i []).contains j)
structure DrawOk (l:List Oper) (N:Nat):Prop where
 le:N≤l.length
 aft:∀i o,l[i]? =some o→∀j∈aft o,j<i
 looks:∀i o,i<N→l[i]? =some o→∀t∈o.looksAt l.toArray,∀j,j<N→j≠i→dstAt l j=some t→if j<i then Reach l i j else Reach l j i
 dist:∀i o,i<N→l[i]? =some o→∀j,j<N→j≠i→dstAt l j≠o.dst
 tail:∀i o,N≤i→l[i]? =some o→∀j,j<i→Reach l i j
theorem zUK {l:List Oper} {N:Nat} (h:zSF l N=true):DrawOk l N:=by
 have hc:∀i j,j∈(clo l []).getD i []→Reach l i j:=zZR l l [] (fun k o hk=>by simpa using hk) (fun i j hj=>by simp at hj);simp only[zSF,Bool.and_eq_true,decide_eq_true_eq,List.all_eq_true,List.mem_range] at h;obtain⟨hle,h⟩:=h;have hi:∀(i:Nat) o,l[i]? =some o→i<l.length:=fun i o ho=>(List.getElem?_eq_some_iff.1 ho).1;refine⟨hle,fun i o ho j hj=>?_,fun i o hN ho t ht j hj hne hd=>?_,fun i o hN ho j hj hne=>?_,fun i o hN ho j hj=>?_⟩;have:=h i (hi i o ho);simp only[ho,Bool.and_eq_true,List.all_eq_true,decide_eq_true_eq] at this;exact this.1 j hj;have:=h i (hi i o ho);simp only[ho,Bool.and_eq_true,List.all_eq_true,decide_eq_true_eq,hN,if_true,List.mem_range,Bool.or_eq_true,Nat.beq_eq] at this;have h2:=this.2.1 t ht j hj;rcases h2 with (h2 | h2) | h2
 exact absurd h2 hne;rw[hd] at h2;simp at h2;by_cases hlt:j<i;simp only[hlt,if_true] at h2 ⊢;exact hc i j (by simpa using h2);simp only[hlt,if_false] at h2 ⊢;exact hc j i (by simpa using h2);have:=h i (hi i o ho);simp only[ho,Bool.and_eq_true,List.all_eq_true,decide_eq_true_eq,hN,if_true,List.mem_range,Bool.or_eq_true,Nat.beq_eq] at this;rcases this.2.2 j hj with h2 | h2
 exact absurd h2 hne;simpa using h2;have:=h i (hi i o ho);have hn:¬i<N:=by omega
 simp only[ho,Bool.and_eq_true,List.all_eq_true,decide_eq_true_eq,hn,if_false,List.mem_range] at this;exact hc i j (by simpa using this.2 j hj)
def DA (P:Program) (r:Option Nat) (E:Env) (ops:Array Oper):List Oper→AState→(AState→Prop)→Prop
 | [],S,J=>J S
 | o::rest,S,J=> ∃d x,zUG P r E ops S o d x∧DA P r E ops rest (S.put d x) J
section
variable {P:Program} {r:Option Nat} {E:Env} {S:AState} {d:Nat}
theorem jR {ops:Array Oper} {J:AState→Prop} (h:J S):DA P r E ops [] S J:=h
theorem z70 {ops:Array Oper} {o:Oper} {rest:List Oper} {J:AState→Prop} {x:AV} (h:zUG P r E ops S o d x) (k:DA P r E ops rest (S.put d x) J):DA P r E ops (o::rest) S J:=⟨d,x,h,k⟩
def zLA (S:AState):List (Nat×AV)→AState
 | []=>S
 | p::ps=>zLA (S.put p.1 p.2) ps
theorem zMC (S:AState) (ps:List (Nat×AV)):(zLA S ps).blks=S.blks:=by
 induction ps generalizing S with
 | nil=>rfl
 | cons q ps ih=>exact ih _
theorem DA.list {ops:Array Oper}:∀(l:List Oper) {S:AState} {J:AState→Prop},DA P r E ops l S J→
  ∃ps:List (Nat×AV),ps.length=l.length∧J (zLA S ps)∧∀(i:Nat) o p,l[i]? =some o→ps[i]? =some p→zUG P r E ops (zLA S (ps.take i)) o p.1 p.2
 | [],S,_,h=>⟨[],rfl,h,by simp⟩
 | o::l,S,_,⟨d,x,h,k⟩=>by
  obtain⟨ps,h1,h2,h3⟩:=DA.list l k;refine⟨(d,x)::ps,by simp[h1],h2,fun i o' p ho hp=>?_⟩;cases i with
  | zero=>simp at ho hp;subst ho;subst hp;exact h
  | succ i=>exact h3 i o' p (by simpa using ho) (by simpa using hp)
theorem zUL (ps:List (Nat×AV)):∀(S:AState),(∀(i j:Nat) p q,ps[i]? =some p→ps[j]? =some q→i≠j→p.1≠q.1)→
  (∀(i:Nat) p,ps[i]? =some p→(zLA S ps).get p.1=p.2)∧∀t,(∀(i:Nat) p,ps[i]? =some p→p.1≠t)→(zLA S ps).get t=S.get t:=by
 induction ps with
 | nil=>intro S _;exact⟨by simp,fun t _=>rfl⟩
 | cons q ps ih=>
  intro S hd;have hd':∀(i j:Nat) p q,ps[i]? =some p→ps[j]? =some q→i≠j→p.1≠q.1:=fun i j p q hp hq hne=>hd (i+1) (j+1) p q (by simpa using hp) (by simpa using hq) (by omega);obtain⟨h1,h2⟩:=ih (S.put q.1 q.2) hd';refine⟨fun i p hp=>?_,fun t ht=>?_⟩
  ·cases i with
   | zero=>
    simp at hp;subst hp;show (zLA (S.put q.1 q.2) ps).get q.1=q.2;rw[h2 q.1 (fun i p hp=>hd (i+1) 0 p q (by simpa using hp) rfl (by omega)),zBD];simp
   | succ i=>exact h1 i p (by simpa using hp)
  ·show (zLA (S.put q.1 q.2) ps).get t=S.get t
   rw[h2 t (fun i p hp=>ht (i+1) p (by simpa using hp)),zBD,if_neg (ht 0 q rfl)]
theorem zQ1 {S S':AState} (hb:S'.blks=S.blks) (hg:∀t,S'.get t=S.get t) {a:Act} {w:World} (h:Sat E S a w):Sat E S' a w:=by
 obtain⟨I,ρ,C,h⟩:=h;have hbk:∀i,S'.blk i=S.blk i:=fun i=>by unfold AState.blk;rw[hb]
 exact⟨I,ρ,C,⟨fun t=>by rw[hg];exact h.tmps t,fun i=>by rw[hbk];exact h.blks i,fun i i' b hn hi hi'=>h.dist i i' b hn (by rw[←hbk];exact hi) (by rw[←hbk];exact hi'),by have:=h.frame;unfold AState.ghost at this ⊢;rw[hg];exact this,h.sub,h.old,h.size,h.defers,h.cI,fun i b hi hb'=>h.cB i b (by rw[←hbk];exact hi) hb',fun i v hv hi=>h.nm i v hv (by rw[←hbk];exact hi)⟩⟩
theorem zUM {S:AState} {a:Act} {w:World} (h:Sat E S a w):Sat E S a {w with drawn:=w.drawn+1}:=by obtain⟨I,ρ,C,h⟩:=h;exact⟨I,ρ,C,h.grow (Below.drew (Below.refl _ _))⟩
structure Lst (S:AState) (ps:List (Nat×AV)) (L:Nat→Bool) (S':AState):Prop where
 blks:S'.blks=S.blks
 yes:∀(i:Nat) p,ps[i]? =some p→L i=true→S'.get p.1=p.2
 no:∀t,(∀(i:Nat) p,ps[i]? =some p→L i=true→p.1≠t)→S'.get t=S.get t
def unl (listed:Array Bool):Nat:=(listed.toList.filter (fun b=>!b)).length
theorem zXW {listed:Array Bool} {i:Nat} (h:listed[i]? =some false):unl (listed.setIfInBounds i true)+1=unl listed:=by
 obtain⟨hlt,hv⟩:=Array.getElem?_eq_some_iff.1 h;unfold unl;rw[Array.toList_setIfInBounds];have hlt':i<listed.toList.length:=by simpa using hlt
 have hsplit:listed.toList=listed.toList.take i++false::listed.toList.drop (i+1):=by
  have h3:listed.toList[i]=false:=by simpa using hv
  have h4:listed.toList.drop i=listed.toList[i]::listed.toList.drop (i+1):=List.drop_eq_getElem_cons hlt';rw[h3] at h4;rw[←h4,List.take_append_drop]
 rw[List.set_eq_take_append_cons_drop,if_pos hlt']
 conv=>rhs;rw[hsplit]
 simp;omega
theorem zIF {l:List Oper} {listed:Array Bool} {i:Nat} (h:i∈Region.ready .any l.toArray listed):
  i<l.length∧listed.getD i true=false∧∀o,l[i]? =some o→∀j∈aft o,listed.getD j false=true:=by
 simp only[Region.ready,List.mem_filter,List.mem_range,Bool.and_eq_true,Bool.not_eq_true',List.size_toArray] at h;obtain⟨h1,h2,h3⟩:=h;refine⟨h1,h2,fun o ho j hj=>?_⟩;simp only[List.getElem?_toArray,ho,Option.map_some,Option.getD_some,Array.all_eq_true_iff_forall_mem,Bool.or_eq_true,Bool.not_eq_true'] at h3;simp only[aft,List.mem_map,List.mem_filter] at hj;obtain⟨e,⟨he,hb⟩,rfl⟩:=hj;rcases h3 e (by simpa using he) with h3 | h3
 ·rw[hb] at h3;cases h3
 ·exact h3
theorem zUN {l:List Oper} {listed:Array Bool} {i:Nat} {o:Oper} (ho:l[i]? =some o) (h2:listed.getD i true=false) (h3:∀j∈aft o,listed.getD j false=true):
  i∈Region.ready .any l.toArray listed:=by
 simp only[Region.ready,List.mem_filter,List.mem_range,Bool.and_eq_true,Bool.not_eq_true',List.size_toArray];refine⟨(List.getElem?_eq_some_iff.1 ho).1,h2,?_⟩;simp only[List.getElem?_toArray,ho,Option.map_some,Option.getD_some,Array.all_eq_true_iff_forall_mem,Bool.or_eq_true,Bool.not_eq_true'];intro e he;cases hb:Region.binds .any e with
 | false=>exact .inl rfl
 | true=>exact .inr (h3 e.on (by simp only[aft,List.mem_map,List.mem_filter];exact⟨e,⟨by simpa using he,hb⟩,rfl⟩))
structure Down (l:List Oper) (listed:Array Bool):Prop where
 size:listed.size=l.length
 down:∀(i:Nat) o,l[i]? =some o→listed.getD i false=true→∀j∈aft o,listed.getD j false=true
theorem Down.reach {l:List Oper} {listed:Array Bool} (h:Down l listed) {i j:Nat} (hr:Reach l i j) (hi:∀o,l[i]? =some o→∀k∈aft o,listed.getD k false=true):listed.getD j false=true:=by
 induction hr with
 | one ho hj=>exact hi _ ho _ hj
 | more ho hk _ ih=>exact ih fun o' ho' k' hk'=>h.down _ o' ho' (hi _ ho _ hk) k' hk'
theorem Down.set {l:List Oper} {listed:Array Bool} (h:Down l listed) {i:Nat} (hi:∀o,l[i]? =some o→∀k∈aft o,listed.getD k false=true):Down l (listed.setIfInBounds i true):=by
 have mono:∀k,listed.getD k false=true→(listed.setIfInBounds i true).getD k false=true:=by
  intro k hk;simp only[Array.getD_eq_getD_getElem?] at hk ⊢;by_cases e:i=k;subst e;by_cases hl:i<listed.size;simp[hl];simp[hl] at hk;rw[Array.getElem?_setIfInBounds_ne e];exact hk
 refine⟨by simp[h.size],fun j o ho hj k hk=>mono k ?_⟩;by_cases e:i=j;subst e;exact hi o ho k hk;refine h.down j o ho ?_ k hk;simp only[Array.getD_eq_getD_getElem?] at hj ⊢
 rwa [Array.getElem?_setIfInBounds_ne e] at hj
theorem zJB {listed:Array Bool} {i k:Nat} (hi:i<listed.size):(listed.setIfInBounds i true).getD k false=(if i=k then true else listed.getD k false):=by simp only[Array.getD_eq_getD_getElem?];by_cases e:i=k;subst e;simp[hi];rw[Array.getElem?_setIfInBounds_ne e,if_neg e]
theorem zQ2 {l:List Oper} {N:Nat} (hok:DrawOk l N) {listed:Array Bool} (hsz:listed.size=l.length) (h:Region.ready .any l.toArray listed= []):∀i,i<l.length→listed.getD i false=true:=by
 intro i
 induction i using Nat.strongRecOn with
 | _ i ih=>
  intro hi;cases hb:listed.getD i false with
  | true=>rfl
  | false=>
   exfalso;have hlt:i<listed.size:=by omega
   have h2:listed.getD i true=false:=by simpa[Array.getD_eq_getD_getElem?,hlt] using hb
   have:=zUN (l:=l) (o:=l[i]) (List.getElem?_eq_getElem hi) h2 (fun j hj=>by
    have hji:=hok.aft i _ (List.getElem?_eq_getElem hi) j hj;exact ih j hji (by omega))
   rw[h] at this;cases this
theorem zUO {listed:Array Bool} (h:unl listed=0):∀i,i<listed.size→listed.getD i false=true:=by intro i hi;unfold unl at h;have:=List.eq_nil_of_length_eq_zero h;rw[List.filter_eq_nil_iff] at this;have h2:=this listed[i] (by simp);simp[Array.getD_eq_getD_getElem?,hi];simpa using h2
theorem zQ3 {l:List Oper} {listed:Array Bool} (h:∀i,i<l.length→listed.getD i false=true) (hsz:listed.size=l.length):Region.ready .any l.toArray listed= []:=by
 apply List.eq_nil_iff_forall_not_mem.2;intro i hi;obtain⟨h1,h2,_⟩:=zIF hi;have:=h i h1;have hlt:i<listed.size:=by omega
 simp[Array.getD_eq_getD_getElem?,hlt] at this h2;rw[this] at h2;cases h2
variable {l:List Oper} {N:Nat} {Q:Exit→Act→World→Prop}
theorem z1P (hok:DrawOk l N) {J:AState→Prop} (hq:∀S' a' w',J S'→Sat E S' a' w'→Q .normal a' w'):
  ∀(fuel m:Nat) (listed:Array Bool) (S:AState) (a:Act) (w:World),N≤m→Down l listed→unl listed≤fuel→(∀i,i<l.length→(listed.getD i false=true↔i<m))→
   Sq P r E l.toArray (l.drop m) S J→Sat E S a w→wpAnyIn (fen r) 0 P .any l.toArray Q fuel listed a w:=by
 intro fuel
 induction fuel with
 | zero=>
  intro m listed S a w hm hd hu hL hsq hs;have hall:∀i,i<l.length→listed.getD i false=true:=fun i hi=>zUO (by omega) i (by rw[hd.size];exact hi)
  have hml:l.length≤m:=by
   rcases Nat.lt_or_ge m l.length with h | h
   ·have:=(hL m h).1 (hall m h);omega
   ·exact h
  rw[List.drop_of_length_le hml] at hsq;exact⟨zQ3 hall hd.size,hq S a w hsq hs⟩
 | succ fuel ih=>
  intro m listed S a w hm hd hu hL hsq hs;refine⟨fun hnil=>?_,fun i hi=>?_⟩
  ·have hall:=zQ2 hok hd.size hnil
   have hml:l.length≤m:=by
    rcases Nat.lt_or_ge m l.length with h | h
    ·have:=(hL m h).1 (hall m h);omega
    ·exact h
   rw[List.drop_of_length_le hml] at hsq;exact hq S a w hsq hs
  ·obtain⟨h1,h2,h3⟩:=zIF hi
   have hlt:i<listed.size:=by rw[hd.size];exact h1
   have hio:=List.getElem?_eq_getElem h1;have hif:listed.getD i false=false:=by simpa[Array.getD_eq_getD_getElem?,hlt] using h2
   have him:m≤i:=by
    rcases Nat.lt_or_ge i m with h | h
    ·have:=(hL i h1).2 h;rw[hif] at this;cases this
    ·exact h
   have him2:i=m:=by
    rcases Nat.lt_or_ge m i with h | h
    ·have hr:=hok.tail i _ (by omega) hio m h
     have:=hd.reach hr h3;have:=(hL m (by omega)).1 this;omega
    ·omega
   subst him2;rw[List.drop_eq_getElem_cons h1] at hsq;obtain⟨S',hstep,hsq'⟩:=hsq;have hlf:listed[i]? =some false:=by
    have:listed[i]=false:=by simpa[Array.getD_eq_getD_getElem?,hlt] using hif
    rw[Array.getElem?_eq_getElem hlt,this]
   unfold wpOpIn;simp only[List.getElem?_toArray,hio];refine hstep a w _ Q hs fun a' w' hs'=>?_;refine ih (i+1) _ S' a' w' (by omega) (hd.set h3) (by have:=zXW hlf;omega) (fun k hk=>?_) hsq' hs'
   rw[zJB hlt];by_cases e:i=k
   ·subst e;simp
   ·simp only[e,if_false]
    rw[hL k hk];omega
theorem zZS (hok:DrawOk l N) {J:AState→Prop} (hq:∀S' a' w',J S'→Sat E S' a' w'→Q .normal a' w') (S:AState) (ps:List (Nat×AV)) (hps:ps.length=N)
  (hA:∀(i:Nat) o p,i<N→l[i]? =some o→ps[i]? =some p→zUG P r E l.toArray (zLA S (ps.take i)) o p.1 p.2) (hB:Sq P r E l.toArray (l.drop N) (zLA S ps) J):
  ∀(fuel:Nat) (listed:Array Bool) (S':AState) (a:Act) (w:World),Down l listed→unl listed≤fuel→(∀i,N≤i→i<l.length→listed.getD i false=false)→
   Lst S ps (fun i=>listed.getD i false) S'→Sat E S' a w→wpAnyIn (fen r) 0 P .any l.toArray Q fuel listed a w:=by
 have hle:=hok.le;have hdst:∀(i:Nat) p,ps[i]? =some p→∃o,l[i]? =some o∧i<N∧o.dst=some p.1:=by
  intro i p hp;have hi:i<N:=by rw[←hps];exact(List.getElem?_eq_some_iff.1 hp).1
  have hio:=List.getElem?_eq_getElem (l:=l) (i:=i) (by omega);exact⟨_,hio,hi,(hA i _ p hi hio hp).1⟩
 have hdist:∀(i j:Nat) p q,ps[i]? =some p→ps[j]? =some q→i≠j→p.1≠q.1:=by
  intro i j p q hp hq' hne he;obtain⟨o,ho,hi,hd⟩:=hdst i p hp;obtain⟨o',ho',hj,hd'⟩:=hdst j q hq';refine hok.dist i o hi ho j hj (fun e=>hne e.symm) ?_;simp only[dstAt,ho',Option.bind_some,hd',hd,he]
 have hall:∀S',Lst S ps (fun _=>true) S'→∀t,S'.get t=(zLA S ps).get t:=by
  intro S' h t;obtain⟨g1,g2⟩:=zUL ps S hdist;by_cases hex:∃(i:Nat) (p:Nat×AV),ps[i]? =some p∧p.1=t
  ·obtain⟨i,p,hp,rfl⟩:=hex
   rw[h.yes i p hp rfl,g1 i p hp]
  ·have hno:∀(i:Nat) p,ps[i]? =some p→p.1≠t:=fun i p hp e=>hex ⟨i,p,hp,e⟩
   rw[h.no t (fun i p hp _=>hno i p hp),g2 t hno]
 intro fuel
 induction fuel with
 | zero=>
  intro listed S' a w hd hu hN hL hs;have hall':∀i,i<l.length→listed.getD i false=true:=fun i hi=>zUO (by omega) i (by rw[hd.size];exact hi)
  have hNl:N=l.length:=by
   rcases Nat.lt_or_ge N l.length with h | h
   ·have:=hN N (Nat.le_refl _) h;rw[hall' N h] at this;cases this
   ·omega
  rw[hNl,List.drop_of_length_le (Nat.le_refl _)] at hB;refine⟨zQ3 hall' hd.size,hq _ a w hB (zQ1 (by rw[zMC,hL.blks]) (fun t=>(hall S' ⟨hL.blks,fun i p hp _=>hL.yes i p hp ?_,fun t ht=>hL.no t fun i p hp _=>ht i p hp rfl⟩ t).symm) hs)⟩;exact hall' i (by obtain⟨_,_,h,_⟩:=hdst i p hp;omega)
 | succ fuel ih=>
  intro listed S' a w hd hu hN hL hs;have tailof:(∀i,i<N→listed.getD i false=true)→Sat E (zLA S ps) a w:=fun h=>
   zQ1 (by rw[zMC,hL.blks]) (fun t=>(hall S' ⟨hL.blks,fun i p hp _=>hL.yes i p hp (h i (hdst i p hp).choose_spec.2.1),fun t ht=>hL.no t fun i p hp _=>ht i p hp rfl⟩ t).symm) hs
  refine⟨fun hnil=>?_,fun i hi=>?_⟩
  ·have hall':=zQ2 hok hd.size hnil
   have hNl:N=l.length:=by
    rcases Nat.lt_or_ge N l.length with h | h
    ·have:=hN N (Nat.le_refl _) h;rw[hall' N h] at this;cases this
    ·omega
   have hst:=tailof fun i hi=>hall' i (by omega);rw[hNl,List.drop_of_length_le (Nat.le_refl _)] at hB;exact hq _ a w hB hst
  ·obtain⟨h1,h2,h3⟩:=zIF hi
   have hlt:i<listed.size:=by rw[hd.size];exact h1
   have hio:=List.getElem?_eq_getElem h1;have hif:listed.getD i false=false:=by simpa[Array.getD_eq_getD_getElem?,hlt] using h2
   have hlf:listed[i]? =some false:=by
    have:listed[i]=false:=by simpa[Array.getD_eq_getD_getElem?,hlt] using hif
    rw[Array.getElem?_eq_getElem hlt,this]
   by_cases hiN:i<N
   ·have hpi:i<ps.length:=by omega
    have hp:=List.getElem?_eq_getElem hpi;obtain⟨hd1,hd2,hstep⟩:=hA i _ _ hiN hio hp;have hag:∀t∈(l[i]).looksAt l.toArray,S'.get t=(zLA S (ps.take i)).get t:=by
     intro t ht;have hdist':∀(a b:Nat) p q,(ps.take i)[a]? =some p→(ps.take i)[b]? =some q→a≠b→p.1≠q.1:=by
      intro a b p q hp hq' hne;rw[List.getElem?_take] at hp hq';split at hp
      ·split at hq'
       ·exact hdist a b p q hp hq' hne
       ·cases hq'
      ·cases hp
     obtain⟨g1,g2⟩:=zUL (ps.take i) S hdist';have take_some:∀(k:Nat) p,(ps.take i)[k]? =some p→k<i∧ps[k]? =some p:=by
      intro k p hk;rw[List.getElem?_take] at hk;split at hk
      ·exact⟨by assumption,hk⟩
      ·cases hk
     by_cases hex:∃(j:Nat) (q:Nat×AV),ps[j]? =some q∧q.1=t
     ·obtain⟨j,q,hqj,rfl⟩:=hex
      obtain⟨o',ho',hjN,hdj⟩:=hdst j q hqj;have hdj':dstAt l j=some q.1:=by simp[dstAt,ho',hdj]
      by_cases hji:j=i
      ·subst hji
       rw[hL.no q.1 (fun k p hk hLk he=>by
         have:k=j:=by
          rcases Nat.decEq k j with h | h
          ·exact absurd he (hdist k j p q hk hqj h)
          ·exact h
         subst this;rw[hif] at hLk;cases hLk),
        g2 q.1 (fun k p hk he=>by
         obtain⟨hk1,hk2⟩:=take_some k p hk;exact hdist k j p q hk2 hqj (by omega) he)]
      ·have:=hok.looks i _ hiN hio q.1 ht j hjN hji hdj'
       by_cases hlt2:j<i
       ·simp only[hlt2,if_true] at this
        have hlj:=hd.reach this h3;rw[hL.yes j q hqj hlj];exact(g1 j q (by rw[List.getElem?_take,if_pos hlt2];exact hqj)).symm
       ·simp only[hlt2,if_false] at this
        have hnl:listed.getD j false=false:=by
         cases hb:listed.getD j false with
         | false=>rfl
         | true=>
          have:=hd.reach this (fun o ho k hk=>hd.down j o ho hb k hk);rw[hif] at this;cases this
        rw[hL.no q.1 (fun k p hk hLk he=>by
          have:k=j:=by
           rcases Nat.decEq k j with h | h
           ·exact absurd he (hdist k j p q hk hqj h)
           ·exact h
          subst this;rw[hnl] at hLk;cases hLk),
         g2 q.1 (fun k p hk he=>by
          obtain⟨hk1,hk2⟩:=take_some k p hk;exact hdist k j p q hk2 hqj (by omega) he)]
     ·have hno:∀(k:Nat) p,ps[k]? =some p→p.1≠t:=fun k p hk e=>hex ⟨k,p,hk,e⟩
      rw[hL.no t (fun k p hk _=>hno k p hk),g2 t (fun k p hk=>hno k p (take_some k p hk).2)]
    have hst:=hstep S' (by rw[zMC,hL.blks]) hag;unfold wpOpIn;simp only[List.getElem?_toArray,hio];refine hst a w _ Q hs fun a' w' hs'=>?_;refine ih _ (S'.put ps[i].1 ps[i].2) a' w' (hd.set h3) (by have:=zXW hlf;omega) (fun k hk hkl=>?_) ⟨hL.blks,fun k p hk hLk=>?_,fun t ht=>?_⟩ hs'
    ·rw[zJB hlt,if_neg (by omega)];exact hN k hk hkl
    ·rw[zJB hlt] at hLk
     rw[zBD];by_cases e:i=k
     ·subst e
      rw[hp] at hk;cases hk;simp
     ·simp only[e,if_false] at hLk
      rw[if_neg (hdist i k _ p hp hk e)];exact hL.yes k p hk hLk
    ·rw[zBD,if_neg (ht i _ hp (by rw[zJB hlt];simp))]
     exact hL.no t fun k p hk hLk=>ht k p hk (by rw[zJB hlt];split<;>simp_all)
   ·have hallN:∀k,k<i→listed.getD k false=true:=fun k hk=>hd.reach (hok.tail i _ (by omega) hio k hk) h3
    have hiN2:i=N:=by
     rcases Nat.lt_or_ge N i with h | h
     ·have:=hallN N h;rw[hN N (Nat.le_refl _) (by omega)] at this;cases this
     ·omega
    have hst:=tailof fun k hk=>hallN k (by omega);have htail:=z1P (P:=P) (r:=r) hok hq (fuel+1) N listed (zLA S ps) a w (Nat.le_refl _) hd hu (fun k hk=>⟨fun hk2=>(by
      rcases Nat.lt_or_ge k N with h | h
      ·exact h
      ·rw[hN k h hk] at hk2;cases hk2),fun hk2=>hallN k (by omega)⟩) hB hst
    exact htail.2 i hi
theorem zLB {id:Nat} {K:Exit→AState→Prop} {S:AState} (N:Nat) (hm:P.follows .mixedOrders=true) (hok:zSF l N=true)
  (h:DA P r E l.toArray (l.take N) S (fun S1=>Sq P r E l.toArray (l.drop N) S1 (K .normal))):Avc P r E (.region id l.toArray true) K S:=by
 intro a w hs;have hk:=zUK hok;obtain⟨ps,h1,h2,h3⟩:=DA.list _ h;have hpl:ps.length=N:=by rw[h1,List.length_take];have:=hk.le;omega
 refine wpIn_region_any hm (zZS hk (J:=K .normal) (fun S' a' w' hj hs'=>⟨S',hj,hs'⟩) S ps hpl (fun i o p hi ho hp=>h3 i o p (by rw[List.getElem?_take,if_pos hi];exact ho) hp) h2 _ _ S a _ ⟨by simp,fun i o _ hi=>?_⟩ ?_ (fun i _ hi=>by simp[hi]) ⟨rfl,fun i p _ hi=>?_,fun t _=>rfl⟩ (zUM hs))
 ·simp[Array.getD_eq_getD_getElem?,Array.getElem?_replicate] at hi
  split at hi<;>simp at hi
 ·simp[unl]
 ·simp[Array.getD_eq_getD_getElem?,Array.getElem?_replicate] at hi
  split at hi<;>simp at hi
end
end Go.AV
namespace Go.AV
open Go.RowKit
def di (n:Int):DV:= .v (.int .i64 n)
def db (b:Bool):DV:= .v (.bool b)
def DV.ints (l:List Int):DV:= .sl 1 (l.map di)
theorem w64 {n:Int} (h1: -9223372036854775808≤n) (h2:n≤9223372036854775807):IntKind.i64.wrap n=n:=IntWalk.i64_in _ (by omega)
def Cov (S:AState):List (Nat×AV)→Prop
 | []=>True
 | p::r=>S.get p.1=p.2∧Cov S r
def zMD (S:AState):List (Nat×Blk)→Prop
 | []=>True
 | p::r=>S.blk p.1=p.2∧zMD S r
theorem zF {E : Env} {S S' : AState} (ht : Cov S S'.tmps) (hb : zMD S S'.blks) (hgh : ∀ C w, E.fr S.ghost C w → E.fr S'.ghost C w := by exact fun _ _ h => h) : zGG E S S' := by
  have h1 : ∀ l, Cov S l → ∀ p ∈ l, S.get p.1 = p.2 := by
    intro l
    induction l with
    | nil => intro _ p hp; cases hp
    | cons q l ih => intro h p hp; rcases List.mem_cons.1 hp with rfl | hp
                     · exact h.1
                     · exact ih h.2 p hp
  have h2 : ∀ l, zMD S l → ∀ p ∈ l, S.blk p.1 = p.2 := by
    intro l
    induction l with
    | nil => intro _ p hp; cases hp
    | cons q l ih => intro h p hp; rcases List.mem_cons.1 hp with rfl | hp
                     · exact h.1
                     · exact ih h.2 p hp
  exact z41 (fun p hp => .inl (h1 _ ht p hp)) (h2 _ hb) hgh
section
variable {P:Program} {r:Option Nat} {E:Env} {S:AState} {d:Nat} {ty:TypeId} {pos:String} {af:Array Edge} {g:Option (Nat×Bool)}
theorem zH1 {x:Operand} {y:AV} (hn:d<E.n) (hx:S.ev x=y):AOp P r E S ⟨some d,.move x,ty,pos,af,g⟩ d y:=hx▸z7V hn
theorem zHE {x:Operand} {y:AV} (hn:d<E.n) (hx:S.ev x=y):AOp P r E S ⟨some d,.assign x,ty,pos,af,g⟩ d y:=hx▸z1O hn
theorem zA {x:Operand} {y:DV} (hn:d<E.n) (hx:S.ev x= .d y):AOp P r E S ⟨some d,.move x,ty,pos,af,g⟩ d (.d y):=zH1 hn hx
theorem zS {x:Operand} {i:Nat} (hn:d<E.n) (hx:S.ev x= .row i):AOp P r E S ⟨some d,.move x,ty,pos,af,g⟩ d (.row i):=zH1 hn hx
theorem zAA {x:Operand} {c:List DV} (hn:d<E.n) (hx:S.ev x= .tup c):AOp P r E S ⟨some d,.move x,ty,pos,af,g⟩ d (.tup c):=zH1 hn hx
theorem zC {x:Operand} {y:DV} (hn:d<E.n) (hx:S.ev x= .d y):AOp P r E S ⟨some d,.assign x,ty,pos,af,g⟩ d (.d y):=zHE hn hx
theorem yA {x:Operand} {i:Nat} (hn:d<E.n) (hx:S.ev x= .row i):AOp P r E S ⟨some d,.assign x,ty,pos,af,g⟩ d (.row i):=zHE hn hx
section
variable {ops:Array Oper} {o:Oper} {rest:List Oper} {J:AState→Prop} {j t:Nat} {want b c:Bool} {x:AV}
theorem zO (hg:o.guard=some (j,want)) (hj:(ops[j]?).bind (·.dst)=some t) (hd:o.dst=some d) (hn:d<E.n) (hnt:t<E.n) (ht:S.get t= .d (.v (.bool b)))
    (h:gd want b=true→AOp P r E S o d x) (k:Sq P r E ops rest (S.put d (.cond (gd want b) x)) J):Sq P r E ops (o::rest) S J:=z7Z (zUJ hg hj hd hn hnt ht h) k
theorem x4 (hg:o.guard=some (j,want)) (hj:(ops[j]?).bind (·.dst)=some t) (hd:o.dst=some d) (hn:d<E.n) (hnt:t<E.n) (ht:S.get t= .cond c (.d (.v (.bool b))))
    (h:(c&&gd want b)=true→AOp P r E S o d x) (k:Sq P r E ops rest (S.put d (.cond (c&&gd want b) x)) J):Sq P r E ops (o::rest) S J:=z7Z (zQ0 hg hj hd hn hnt ht h) k
theorem kT (hg:o.guard=some (j,want)) (hj:(ops[j]?).bind (·.dst)=some t) (hd:o.dst=some d) (hn:d<E.n) (hnt:t<E.n) (ht:S.get t= .d (.v (.bool b)))
    (h:gd want b=true→AOp P r E S o d x) (k:DA P r E ops rest (S.put d (.cond (gd want b) x)) J):DA P r E ops (o::rest) S J:=z70 (zUJ hg hj hd hn hnt ht h) k
theorem xX (hg:o.guard=some (j,want)) (hj:(ops[j]?).bind (·.dst)=some t) (hd:o.dst=some d) (hn:d<E.n) (hnt:t<E.n) (ht:S.get t= .cond c (.d (.v (.bool b))))
    (h:(c&&gd want b)=true→AOp P r E S o d x) (k:DA P r E ops rest (S.put d (.cond (c&&gd want b) x)) J):DA P r E ops (o::rest) S J:=z70 (zQ0 hg hj hd hn hnt ht h) k
end
def z97 (P:Program) (r:Option Nat) (E:Env) (y:Code) (K:Exit→AState→Prop):Exit→AState→Prop
 | .normal,S=>Avc P r E y K S
 | e,S=>K e S
theorem zB {x y:Code} {K:Exit→AState→Prop} (h:Avc P r E x (z97 P r E y K) S):Avc P r E (.seq x y) K S:=
 z40 fun J hJ=>zT9 h fun e S' hK=>by
  cases e with
  | normal=>exact hJ S' hK
  | _=>exact hK
theorem kA {id:Nat} {l:List Oper} {K:Exit→AState→Prop} (hm:P.follows .mixedOrders=true) (hok:zSF l l.length=true) (h:DA P r E l.toArray l S (K .normal)):Avc P r E (.region id l.toArray true) K S:=
 zLB l.length hm hok (by rw[List.take_length,List.drop_length];exact h)
theorem zJC {c:Operand} {x y:Code} {K:Exit→AState→Prop} {b:Bool} (hc:S.ev c= .d (.v (.bool b))) (h:(b=true→Avc P r E x K S)∧(b=false→Avc P r E y K S)):Avc P r E (.cond c x y) K S:=
 z1M hc h.1 h.2
end
def AState.app (S:AState) (id:Nat) (news:List DV):AState:=S.setBlk id ((S.blk id).appended news)
section
variable {P:Program} {r:Option Nat} {E:Env} {S:AState} {d:Nat} {ty:TypeId} {pos:String} {af:Array Edge} {g:Option (Nat×Bool)}
theorem z1Q (S:AState) (id:Nat) (news:List DV):(S.kill id).app id news=(S.kill id).setBlk id (zNZ id (S.blk id) |>.appended news):=by unfold AState.app;rw[zGD]
theorem z1R {t e size bytes:Nat} {z:Value} {s x:Operand} {id:Nat} {sh:Bool} {cells news:List DV} {n m:Nat} (hn:d<E.n) (hT:SlTy P t e size bytes z) (hs:S.ev s= .row id) (hb:S.blk id= .row e size sh cells)
  (hx:S.dv (S.ev x)=some (.sl size news)) (hl:cells.length=n*size) (hl2:news.length=m*size) (hby:0<bytes) (hbytes:(n+m)*bytes≤140737488355328) (hE:E.wrB=true) (hnm:E.nm id=none):
  j9 P r E ⟨some d,.call {callee:= .builtin .append,args:= #[s,x],argTypes:= #[t,t]},ty,pos,af,g⟩ S ((((S.shareAV (S.ev x)).kill id).app id news).put d (.row id)):=by
 have h63:n+m≤maxLen:=by
  have:(n+m)*1≤(n+m)*bytes:=Nat.mul_le_mul_left _ hby;simp only[maxLen];omega
 have:=zUA (P:=P) (r:=r) (ty:=ty) (pos:=pos) (af:=af) (g:=g) hn hT hs hb hx hl hl2 hbytes h63 hE hnm;rw[z1Q];obtain⟨sh',hb'⟩:=zKB (x:=S.ev x) hb;rw[hb'] at this ⊢;exact this
theorem zW1 {t e size bytes:Nat} {z:Value} {s x:Operand} {id:Nat} {sh:Bool} {cells news:List DV} {n m:Nat} (hn:d<E.n) (hT:SlTy P t e size bytes z) (hs:S.ev s= .row id) (hb:S.blk id= .row e size sh cells)
  (hx:S.ev x= .d (.sl size news)) (hl:cells.length=n*size) (hl2:news.length=m*size) (hby:0<bytes) (hbytes:(n+m)*bytes≤140737488355328) (hE:E.wrB=true) (hnm:E.nm id=none):
  j9 P r E ⟨some d,.call {callee:= .builtin .append,args:= #[s,x],argTypes:= #[t,t]},ty,pos,af,g⟩ S (((S.kill id).app id news).put d (.row id)):=by
 have:=z1R (P:=P) (r:=r) (ty:=ty) (pos:=pos) (af:=af) (g:=g) hn hT hs hb (by rw[hx];rfl) hl hl2 hby hbytes hE hnm
 rw[hx] at this;exact this
theorem x5 {t:TypeId} {x y:Operand} {id off eb:Nat} {cells:List AV} {u:DV} (hT:OneTy P t) (hx:S.ev x= .ptr id off) (hb:S.blk id= .box eb cells) (hlt:off<cells.length)
  (hy:S.ev y= .d u) (h1:(AV.d u).one=true) (hE:E.wrB=true):j9 P r E ⟨none,.store t x y,ty,pos,af,g⟩ S (S.setBlk id (.box eb (cells.set off (.d u)))):=by
 have:=zGE (P:=P) (r:=r) (E:=E) (ty:=ty) (pos:=pos) (af:=af) (g:=g) (y:=y) hT hx hb hlt (by rw[hy];exact h1) (by rw[hy];rfl) hE
 rwa [hy] at this
theorem zB8 {t:TypeId} {x y:Operand} {id off eb i:Nat} {cells:List AV} (hT:OneTy P t) (hx:S.ev x= .ptr id off) (hb:S.blk id= .box eb cells) (hlt:off<cells.length)
  (hy:S.ev y= .row i) (h1:zT8 S (.row i)=true) (hE:E.wrB=true):j9 P r E ⟨none,.store t x y,ty,pos,af,g⟩ S (S.setBlk id (.box eb (cells.set off (.row i)))):=by
 have:=zGE (P:=P) (r:=r) (E:=E) (ty:=ty) (pos:=pos) (af:=af) (g:=g) (y:=y) hT hx hb hlt (by rw[hy];rfl) (by rw[hy];exact h1) hE
 rwa [hy] at this
theorem z72 {f:FuncId} {xs:List Operand} {ats:Array TypeId} {avs:List AV} {ds rs:List DV} (hn:d<E.n) (hev:xs.map S.ev=avs) (hds:S.dvL avs=some ds) (hc:zU P f ds rs) (hG:E.gdt=uO P:=by rfl):
  j9 P r E ⟨some d,.call {callee:= .value (.func f),args:=xs.toArray,argTypes:=ats},ty,pos,af,g⟩ S ((S.shareL avs).put d (zOO rs)):=by
 subst hev;exact zQW hn hds hc hG
theorem SatAt.newImm {A:Act} {w:World} {I:Im} {ρ:Nat→Value} {C:Nat→Prop} (hs:SatAt E S A w I ρ C) {e size n:Nat} {xs:List Value} {cells:List DV} (hl:cells.length=n*size) (hpw:Reps w I xs cells) (h1:∀x∈xs,x.oneCell'=true):
  ∃I':Im,SatAt E S A (w.alloc (.cells xs.toArray e)) I' ρ C∧Rep (w.alloc (.cells xs.toArray e)) I' (.slice (some ⟨w.heap.size,0,none⟩) n n) (.sl size cells):=by
 have hI:∀b j,I b j→b<w.heap.size:=fun b j h=>(hs.old b j h).1;have hg:=hs.grow (w':=w.alloc (.cells xs.toArray e)) ((Below.refl _ _).alloc (Nat.le_refl _) _)
 let I':Im:=fun b j=>I b j∨b=w.heap.size
 have hsub:∀b j,I b j→I' b j:=fun _ _ h=> .inl h;refine⟨I',hg.widen (B:=w.heap.size) hsub (fun b j hi=>?_) (fun i b hi hb=>(hs.blt i b hi hb).2) (E.size _ _ _ hs.frame) (fun b hc=>E.csize _ _ _ hs.frame b hc),?_⟩
 ·rcases hi with hi | hi
  ·exact⟨by simp;have:=hI b j hi;omega,.inl hi⟩
  ·exact⟨by simp;omega,.inr (by omega)⟩
 ·by_cases h0:n=0
  ·subst h0
   have:cells= []:=List.eq_nil_of_length_eq_zero (by simpa using hl);subst this;exact .nil _ _ _
  ·refine .sl _ 0 n n size xs cells (by omega) (Nat.le_refl _) hl hpw.1 (fun j x hj=>⟨?_,.inr rfl⟩) h1 (hpw.mono (zDW _ hI) hsub).2
   rw[Nat.zero_add,World.cell?_alloc_new];simpa using hj
theorem z1S {t e size bytes:Nat} {z:Value} {len:Nat} {ps:List (Nat×Operand)} {ds:List DV} (hn:d<E.n) (hT:SlTy P t e size bytes z) (hseq:ps=zAV 0 (ps.map Prod.snd)) (hlen:ps.length=len)
    (hds:unD ((ps.map Prod.snd).map S.ev)=some ds) (hok:ds.all (okDV size)=true) (hsz:len*size≤16777216):
    j9 P r E ⟨some d,.buildSlice t len ps.toArray,ty,pos,af,g⟩ S (S.put d (.d (.sl size (ds.flatMap vH)))):=
  zDL (by simp) fun A w I ρ C hs=>by
    generalize hxs:ps.map Prod.snd=xs at hseq hds;obtain⟨hd1,hd2⟩:=zEB S hds;obtain⟨I1,h1,h2,h3⟩:=SatAt.dvL _ hs (u7 hs xs) hd1;rw[hd2] at h2;obtain⟨a1,a2,a3,a4⟩:=zMA h3 hok;have hvl:(xs.map A.eval).length=len:=by rw[←hlen,←hxs];simp
    have hdl:ds.length=len:=by rw[←h3.1];exact hvl
    obtain⟨I2,hsat,hrep⟩:=h2.newImm (e:=e) (size:=size) (n:=len) (by rw[a4,hdl]) a1 a2;refine⟨.slice (some ⟨w.heap.size,0,none⟩) len len,_,?_,I2,_,C,hsat.put hn hrep⟩;obtain⟨i,hi,hz,hsi,hby⟩:=hT.info;have hfill:=zUC size (xs.map A.eval) 0 ((Array.range (len*size)).map ((if len*size=0 then (#[]:Array Value) else z.cells)[· % (if len*size=0 then (#[]:Array Value) else z.cells).size]!)) a3 (by simp[←hvl]);have hlk:ps.toArray.map (fun p:Nat×Operand=>(p.1,A.eval p.2))=(zAV 0 (xs.map A.eval)).toArray:=by
      rw[hseq,List.map_toArray,zIE]
    have hnot:¬(len*size > 2 ^ 24):=by omega
    simp only[Nat.zero_mul,List.take_zero,List.nil_append,Nat.zero_add,hvl] at hfill;rw[List.drop_of_length_le (by simp)] at hfill;simp only[List.append_nil] at hfill ⊢;simp only[execOp,Instr.buildSlice,Sem.run_bind,run_underlying hT.und,Result.andThen_ok,hT.size w,hnot,if_false,Sem.run_pure];by_cases h0:len*size=0
    · have hl0:len=0:=by
        rcases Nat.mul_eq_zero.1 h0 with h | h
        · exact h
        · have:=hT.pos;omega
      have hx0:xs= []:=List.eq_nil_of_length_eq_zero (by simpa[hl0] using hvl);subst hx0;subst hl0;simp[hlk,zAV,Instr.fill,newRow,Array.range_zero']
    · simp only[h0,if_false] at hfill ⊢
      simp[zeroValue,typeInfo,hi,hz,hlk,hfill,newRow]
theorem uK {t e size bytes:Nat} {z:Value} {len:Nat} {ps:List (Nat×Operand)} {ds cells:List DV} (hn:d<E.n) (hT:SlTy P t e size bytes z) (hseq:ps=zAV 0 (ps.map Prod.snd)) (hlen:ps.length=len)
  (hds:unD ((ps.map Prod.snd).map S.ev)=some ds) (hok:ds.all (okDV size)=true) (hsz:len*size≤16777216) (hc:ds.flatMap vH=cells):
  AOp P r E S ⟨some d,.buildSlice t len ps.toArray,ty,pos,af,g⟩ d (.d (.sl size cells)):=
 ⟨rfl,hn,fun S' h=>by
  subst hc;have he:(ps.map Prod.snd).map S'.ev=(ps.map Prod.snd).map S.ev:=List.map_congr_left fun x hx=>h.ev (by simp[Op.operands];simpa using hx)
  exact z1S hn hT hseq hlen (by rw[he];exact hds) hok hsz⟩
end
end Go.AV
namespace Go.AV
open Go.RowKit
def dby (n:Int):DV:= .v (.int .u8 n)
def DV.bytes (l:List Int):DV:= .sl 1 (l.map dby)
section
variable {P:Program} {r:Option Nat} {E:Env} {S:AState} {d:Nat} {ty:TypeId} {pos:String} {af:Array Edge} {g:Option (Nat×Bool)}
theorem z1T {k:IntKind} {x y:Operand} {a b:Int} {ats:Array TypeId} (hn:d<E.n) (hx:S.ev x= .d (.v (.int k a))) (hy:S.ev y= .d (.v (.int k b))):
  AOp P r E S ⟨some d,.call {callee:= .builtin .min,args:= #[x,y],argTypes:=ats},ty,pos,af,g⟩ d (.d (.v (.int k (min a b)))):=
 ⟨rfl,hn,fun S' h=>jQ rfl hn (by simp) fun A w I ρ C hs=>by
  have hx':=(h.ev (x:=x) (by simp[Op.operands,Call.operands])).trans hx;have hy':=(h.ev (x:=y) (by simp[Op.operands,Call.operands])).trans hy;simp only[execOp,resolve,List.map_toArray,List.map_cons,List.map_nil,hs.val hx',hs.val hy'];simp[invoke,builtin,Builtin.min_,Builtin.min2];split<;>omega⟩
theorem zXX {k:IntKind} {x y:Operand} {a b:Int} {ats:Array TypeId} (hn:d<E.n) (hx:S.ev x= .d (.v (.int k a))) (hy:S.ev y= .d (.v (.int k b))):
  AOp P r E S ⟨some d,.call {callee:= .builtin .max,args:= #[x,y],argTypes:=ats},ty,pos,af,g⟩ d (.d (.v (.int k (max a b)))):=
 ⟨rfl,hn,fun S' h=>jQ rfl hn (by simp) fun A w I ρ C hs=>by
  have hx':=(h.ev (x:=x) (by simp[Op.operands,Call.operands])).trans hx;have hy':=(h.ev (x:=y) (by simp[Op.operands,Call.operands])).trans hy;simp only[execOp,resolve,List.map_toArray,List.map_cons,List.map_nil,hs.val hx',hs.val hy'];simp[invoke,builtin,Builtin.max_,Builtin.max2];split<;>omega⟩
theorem z1U {t:TypeId} {x ix:Operand} {s:ByteArray} {k:Nat} {kk:IntKind} {i:Int} (hn:d<E.n) (hu:P.underlying t=some .string) (hx:S.ev x= .d (.v (.string s))) (hi:S.ev ix= .d (.v (.int kk i))) (hk:i=(k:Int)) (hlt:k<s.size):
  AOp P r E S ⟨some d,.index t x ix,ty,pos,af,g⟩ d (.d (.v (.int .u8 (s.data.toList.getD k 0).toNat))):=
 ⟨rfl,hn,fun S' h=>jQ rfl hn (by simp) fun A w I ρ C hs=>by
  subst hk;have hx':=(h.ev (x:=x) (by simp[Op.operands])).trans hx;have hi':=(h.ev (x:=ix) (by simp[Op.operands])).trans hi;have h1:s[k]? =some (s.data.toList.getD k 0):=by
   have h2:k<s.data.size:=hlt;have:s[k]? =some s[k]:=by simp[getElem?_pos,hlt]
   rw[this];simp only[List.getD,Array.getElem?_toList,Array.getElem?_eq_getElem h2];rfl
  simp only[execOp,hs.val hx',hs.val hi'];simp[Instr.index,asIntOf,run_underlying hu,h1]⟩
theorem zEC (w:World) (k:IntKind) (i y:Nat) (code:BoundsCode) (h:i≤y):(Instr.sliceBound (.int k i) y code).run P w= .ok i w:=by simp[Instr.sliceBound,asIntOf,h]
structure Bd (S:AState) (n:Nat) (lo hi:Option Operand) (l h:Nat):Prop where
 lo:match lo with
  | none=>l=0
  | some x=> ∃k i,S.ev x= .d (.v (.int k i))∧i=(l:Int)
 hi:match hi with
  | none=>h=n
  | some x=> ∃k i,S.ev x= .d (.v (.int k i))∧i=(h:Int)
 le:l≤h
 len:h≤n
theorem zQ4 (w:World) {t e size:Nat} (hu:P.underlying t=some (.slice e)) (hsz:(sizeOf e).run P w= .ok size w) (A:Option Addr) (n c l h:Nat) (lo hi:Option Value) (hlo:lo=none∧l=0∨∃k,lo=some (.int k l)) (hhi:hi=none∧h=n∨∃k,hi=some (.int k h))
    (hle:l≤h) (hn:h≤n) (hc:n≤c):(Instr.sliceAt t (.slice A n c) lo hi none).run P w= .ok (.slice (if c=l then A else A.map (·.add (l*size))) (h-l) (c-l)) w:=by
  have hb:(Instr.sliceBounds true n c lo hi none).run P w= .ok (l,h,c) w:=by
    rcases hlo with ⟨rfl,rfl⟩ | ⟨k,rfl⟩<;>rcases hhi with ⟨rfl,rfl⟩ | ⟨k',rfl⟩
    · simp[Instr.sliceBounds]
    · simp[Instr.sliceBounds,zEC (P:=P) w k' h c _ (by omega)]
    · simp[Instr.sliceBounds,zEC (P:=P) w k l h _ hle]
    · simp[Instr.sliceBounds,zEC (P:=P) w k' h c _ (by omega),zEC (P:=P) w k l h _ hle]
  simp[Instr.sliceAt,Instr.slice,run_underlying hu,hb,hsz]
theorem Bd.vals {n l h:Nat} {lo hi:Option Operand} (hb:Bd S n lo hi l h) {A:Act} {w:World} {I:Im} {ρ:Nat→Value} {C:Nat→Prop} (hs:SatAt E S A w I ρ C):
  (lo.map A.eval=none∧l=0∨∃k,lo.map A.eval=some (.int k l))∧(hi.map A.eval=none∧h=n∨∃k,hi.map A.eval=some (.int k h)):=by
 constructor
 ·cases lo with
  | none=>exact .inl ⟨rfl,hb.lo⟩
  | some x=>obtain⟨k,i,h1,rfl⟩:=hb.lo;exact .inr ⟨k,by simp[hs.val h1]⟩
 ·cases hi with
  | none=>exact .inl ⟨rfl,hb.hi⟩
  | some x=>obtain⟨k,i,h1,rfl⟩:=hb.hi;exact .inr ⟨k,by simp[hs.val h1]⟩
theorem Bd.agree {n l h:Nat} {lo hi:Option Operand} {t:TypeId} {x:Operand} {mx:Option Operand} {S':AState} (hb:Bd S n lo hi l h) (ha:Agree S S' ⟨some d,.slice t x lo hi mx,ty,pos,af,g⟩):Bd S' n lo hi l h:=by
 refine⟨?_,?_,hb.le,hb.len⟩;cases lo with
 | none=>exact hb.lo
 | some y=>obtain⟨k,i,h1,h2⟩:=hb.lo;exact⟨k,i,(ha.ev (by simp[Op.operands])).trans h1,h2⟩
 cases hi with
 | none=>exact hb.hi
 | some y=>obtain⟨k,i,h1,h2⟩:=hb.hi;exact⟨k,i,(ha.ev (by simp[Op.operands])).trans h1,h2⟩
theorem zZT {w:World} {I:Im} {A:Option Addr} {n c l h size:Nat} {cells:List DV} (hr:Rep w I (.slice A n c) (.sl size cells)) (hl:cells.length=n*size) (hp:0<size) (hle:l≤h) (hn:h≤n):
    Rep w I (.slice (if c=l then A else A.map (·.add (l*size))) (h-l) (c-l)) (.sl size ((cells.take (h*size)).drop (l*size))):=by
  by_cases h0:h-l=0
  · have:(cells.take (h*size)).drop (l*size)= []:=by
      apply List.drop_of_length_le;rw[List.length_take];have:h*size≤l*size:=Nat.mul_le_mul_right _ (by omega);omega
    rw[this,h0];exact .nil _ _ _
  · obtain⟨A',n',c',xs,hv,hcap,hl',hpw,h1,hcc⟩:=Rep.sl_inv hr
    cases hv;obtain⟨b,off,rfl,hc2⟩:=hcc (by omega);rw[if_neg (by omega)];simp only[Option.map_some,zE1];have hhn:h*size≤n*size:=Nat.mul_le_mul_right _ hn;have hlen:((cells.take (h*size)).drop (l*size)).length=(h-l)*size:=by
      rw[List.length_drop,List.length_take,hl,Nat.sub_mul];omega
    have hpw2:=(hpw.take (h*size)).drop (l*size);refine .sl b (off+l*size) (h-l) (c-l) size ((xs.take (h*size)).drop (l*size)) _ (by omega) (by omega) hlen hpw2.1 (fun j x hj=>?_) (fun x hx=>h1 x (List.mem_of_mem_take (List.mem_of_mem_drop hx))) hpw2.2;rw[List.getElem?_drop,List.getElem?_take] at hj;split at hj
    · rw[Nat.add_assoc];exact hc2 _ x hj
    · cases hj
theorem zQ5 {t e size bytes:Nat} {z:Value} {x:Operand} {lo hi:Option Operand} {cells cells':List DV} {n l h:Nat} (hn:d<E.n) (hT:SlTy P t e size bytes z) (hx:S.ev x= .d (.sl size cells)) (hl:cells.length=n*size)
  (hb:Bd S n lo hi l h) (hc:(cells.take (h*size)).drop (l*size)=cells'):AOp P r E S ⟨some d,.slice t x lo hi none,ty,pos,af,g⟩ d (.d (.sl size cells')):=
 ⟨rfl,hn,fun S' ha=>kC rfl hn (by simp) fun A w I ρ C hs=>by
  have h1:=hs.ev x;rw[(ha.ev (x:=x) (by simp[Op.operands])).trans hx] at h1;have h1':Rep w I (A.eval x) (.sl size cells):=h1;obtain⟨A',n',c,xs,hv,hcap,hl',_⟩:=Rep.sl_inv h1';obtain rfl:=zHP hl' hl hT.pos;obtain⟨hlo,hhi⟩:=(hb.agree ha).vals hs;subst hc;rw[hv] at h1';refine⟨_,?_,zZT h1' hl hT.pos hb.le hb.len⟩;simp only[execOp,hv,Sem.run_bind,Option.map_none,zQ4 w hT.und (hT.size w) A' n' c l h _ _ hlo hhi hb.le hb.len hcap];rfl⟩
theorem z43 {w:World} {I:Im} {ρ:Nat→Value} {M:Nat→Prop} {id e size:Nat} {sh:Bool} {cells:List DV} {n:Nat} (h:BlkOk w I ρ M id (.row e size sh cells)) (hl:cells.length=n*size):
  ∃A c,ρ id= .slice A n c∧n≤c∧(0<n→∃b,blockOf (ρ id)=some b∧A=some ⟨b,0,none⟩):=by
 obtain⟨h0,n',xs,hl',hown,_⟩:=h;obtain rfl:=zHP hl' hl h0.1;rcases hown.2 with ⟨hn,rfl⟩ | ⟨gb,cap,cur,hn,_,_,hnc,_⟩
 ·exact⟨_,_,hn,by omega,fun h=>absurd h (by omega)⟩
 ·exact⟨_,_,hn,hnc,fun _=>⟨gb,by rw[hn];rfl,rfl⟩⟩
theorem zUP {t e size bytes:Nat} {z:Value} {x:Operand} {lo hi:Option Operand} {id:Nat} {sh:Bool} {cells:List DV} {n l h:Nat} (hn:d<E.n) (hT:SlTy P t e size bytes z) (hx:S.ev x= .row id) (hbk:S.blk id= .row e size sh cells) (hl:cells.length=n*size)
    (hb:Bd S n lo hi l h):AOp P r E S ⟨some d,.slice t x lo hi none,ty,pos,af,g⟩ d (.rs id (l*size) (h-l)):=
  ⟨rfl,hn,fun S' ha=>kC rfl hn (by simp) fun A w I ρ C hs=>by
    have h1:=hs.ev x;rw[(ha.ev (x:=x) (by simp[Op.operands])).trans hx] at h1;have hv:A.eval x= ρ id:=h1;have hk:=hs.blks id;rw[(ha.blk id).trans hbk] at hk;obtain⟨A',c,hρ,hcap,hadr⟩:=z43 hk hl;obtain⟨hlo,hhi⟩:=(hb.agree ha).vals hs;have hlen:=hb.len;have hle:=hb.le;refine⟨_,?_,(if c=l then A' else A'.map (·.add (l*size))),c-l,rfl,by omega,fun h0=>?_⟩
    · simp only[execOp,hv,hρ,Sem.run_bind,Option.map_none,zQ4 w hT.und (hT.size w) A' n c l h _ _ hlo hhi hb.le hb.len hcap]
      rfl
    · obtain⟨b,hb1,hb2⟩:=hadr (by omega)
      refine⟨b,hb1,?_⟩;rw[if_neg (by omega),hb2];simp[zE1]⟩
def spl (cells:List DV) (off:Nat) (news:List DV):List DV:=cells.take off++news++cells.drop (off+news.length)
theorem zXY {elem:TypeId} {x:Operand} {u:DV} (hn:d<E.n) (hx:S.ev x= .d u) (h1:(AV.d u).one=true) (hnm:E.nm d=none):
  j9 P r E ⟨some d,.box elem x,ty,pos,af,g⟩ S (((S.kill d).setBlk d (.box elem [.d u])).put d (.ptr d 0)):=
 zDL (by simp) fun A w I ρ C hs=>by
  have h:=hs.ev x;rw[hx] at h;have hone:=zSE hs.blks h h1 (by intro _ e;cases e)
  have hb:=hs.newBox (id:=d) (e:=elem) (arr:= #[A.eval x]) (cells:=[.d u]) (Pw.cons h Pw.nil) (by simpa using hone) hnm;refine⟨.pointer (some ⟨w.heap.size,0,none⟩),w.alloc (.cells #[A.eval x] elem),?_,I,_,C,hb.put hn ⟨w.heap.size,by simp[upd,blockOf],rfl⟩⟩;simp only[execOp,Instr.box,newVar,zJS hone];simp[newRow]
theorem kO {t id e:Nat} {cells:List AV} {ds:List DV} (hn:t<E.n) (ht:S.get t= .ptr id 0) (hb:S.blk id= .box e cells) (hd:unD cells=some ds):zGG E S ((S.setBlk id .none).put t (.d (.pt ds))):=by
 rintro a w ⟨I,ρ,C,h⟩
 have hk:=h.blks id;rw[hb] at hk;obtain⟨b,arr,hρ,hM,hh,h1,hpw,hI⟩:=hk;have hne:S.blk id≠ .none:=by rw[hb];simp
 have hbt:=h.blt id b hne (by rw[hρ];rfl)
 have hreps:Reps w I arr.toList ds:=by
  clear hb hh h1;generalize arr.toList=xs at hpw
  induction cells generalizing xs ds with
  | nil=>simp[unD] at hd;subst hd;have:xs= []:=List.eq_nil_of_length_eq_zero hpw.1;subst this;exact Pw.nil
  | cons c cells ih=>
   cases xs with
   | nil=>have:=hpw.1;simp at this
   | cons x xs=>
    cases c with
    | d y=>
     simp only[unD] at hd;cases hu:unD cells with
     | none=>simp[hu] at hd
     | some ys=>
      simp[hu] at hd;subst hd;exact Pw.cons (hpw.2 0 x (.d y) rfl rfl) (ih hu xs ⟨by have:=hpw.1;simpa using this,fun j u z hu hz=>hpw.2 (j+1) u z (by simpa using hu) (by simpa using hz)⟩)
    | _=>simp[unD] at hd
 let I':Im:=fun b' j=>I b' j∨b'=b
 have hsub:∀b j,I b j→I' b j:=fun _ _ h=> .inl h;have key:∀i,(S.setBlk id .none).blk i≠ .none→S.blk i≠ .none∧i≠id:=by
  intro i hi;rw[jB] at hi;by_cases e:id=i;subst e;simp at hi;simp only[e,if_false] at hi;exact⟨hi,fun e'=>e e'.symm⟩
 refine⟨I',ρ,C,⟨fun u=>?_,fun i=>?_,fun i i' b' hn' hi hi'=>h.dist i i' b' hn' (key i hi).1 (key i' hi').1,by rw[zDA _ _ hn];exact h.frame,fun b j hi=>hsub b j (h.sub b j hi),fun b' j hi=>?_,h.size,h.defers,fun b' j hi=>?_,fun i b' hi hb'=>h.cB i b' (key i hi).1 hb',fun i v hv hi=>h.nm i v hv (key i hi).1⟩⟩
 rw[zBD];by_cases e:t=u;subst e;simp only[if_true];have:=h.tmps t;rw[ht] at this;obtain⟨b',hb',hv⟩:=this;rw[hρ] at hb';simp[blockOf] at hb';subst hb';rw[hv];have hr':=hreps.mono (xB I w) hsub;exact Rep.pt b 0 arr.toList ds hreps.1 (fun j x hj=>⟨by rw[Nat.zero_add,cell_of_row w b j arr e (0,0) hh];simpa using hj,.inr rfl⟩) h1 hr'.2
 simp only[e,if_false];exact(h.tmps u).mono (xB I w) hsub;show BlkOk w I' ρ E.mine i ((S.setBlk id .none).blk i);by_cases e:id=i;subst e;rw[jB];simp only[if_true];trivial;rw[jB,if_neg e];refine(h.blks i).widenI hsub fun b2 j hx hbo hi=>?_;rcases hi with hi | hi
 exact hi;subst hi;exact absurd hbo (h.dist id i b2 e hne hx (by rw[hρ];rfl))
 rcases hi with hi | hi;exact h.old b' j hi;subst hi;exact⟨hbt.2,.inr hbt.1⟩;rcases hi with hi | hi;exact h.cI b' j hi;subst hi;exact h.cB id b' hne (by rw[hρ];rfl)
theorem zZU {t:TypeId} {x:Operand} {cells:List DV} {e:DV} (hn:d<E.n) (hT:OneTy P t) (hx:S.ev x= .d (.pt cells)) (hc:cells[0]? =some e):
  AOp P r E S ⟨some d,.load t x,ty,pos,af,g⟩ d (.d e):=
 ⟨rfl,hn,fun S' ha=>kC rfl hn (by simp) fun A w I ρ C hs=>by
  have h:=hs.ev x;rw[(ha.ev (x:=x) (by simp[Op.operands])).trans hx] at h;have h':Rep w I (A.eval x) (.pt cells):=h;generalize hv:A.eval x=v at h';cases h' with
  | pt b o xs cells hxl hcc h1 hr=>
   have hlt:0<xs.length:=by rw[hxl];exact(List.getElem?_eq_some_iff.1 hc).1
   have hx':=List.getElem?_eq_getElem hlt;refine⟨xs[0],?_,hr 0 _ e hx' hc⟩;have:=(hcc 0 _ hx').1;simp only[Nat.add_zero] at this;simp only[execOp,hv,Sem.run_bind,zE4 w hT b o _ this];rfl⟩
theorem zKP {f:FuncId} {caps:List Operand} {ds:List DV} (hn:d<E.n) (hd:unD (caps.map S.ev)=some ds):
  AOp P r E S ⟨some d,.makeFunc (.func f) #[] caps.toArray,ty,pos,af,g⟩ d (.d (.fn f ds)):=
 ⟨rfl,hn,fun S' ha=>kC rfl hn (by simp) fun A w I ρ C hs=>by
  have he:caps.map S'.ev=caps.map S.ev:=List.map_congr_left fun x hx=>ha.ev (by simp[Op.operands];simpa using hx)
  rw[←he] at hd;obtain⟨h1,h2⟩:=zEB S' hd;have hreps:Reps w I (caps.map A.eval) ds:=by
   have:=u7 hs caps;generalize caps.map A.eval=vs at this ⊢;generalize caps.map S'.ev=avs at this hd;clear h1 h2 he
   induction avs generalizing vs ds with
   | nil=>simp[unD] at hd;subst hd;have:vs= []:=List.eq_nil_of_length_eq_zero this.1;subst this;exact Pw.nil
   | cons c cells ih=>
    cases vs with
    | nil=>have:=this.1;simp at this
    | cons x xs=>
     cases c with
     | d y=>
      simp only[unD] at hd;cases hu:unD cells with
      | none=>simp[hu] at hd
      | some ys=>
       simp[hu] at hd;subst hd;exact Pw.cons (this.2 0 x (.d y) rfl rfl) (ih xs ⟨by have:=this.1;simpa using this,fun j u z hu hz=>this.2 (j+1) u z (by simpa using hu) (by simpa using hz)⟩ hu)
     | _=>simp[unD] at hd
  refine⟨.func (.func f) #[] (caps.map A.eval).toArray,?_,.fn f _ ds hreps.1 hreps.2⟩;simp[execOp,Instr.makeFunc]⟩
theorem z44 {f:FuncId} {x:Operand} {xs:List Operand} {ats:Array TypeId} {caps ds rs:List DV} (hn:d<E.n) (hx:S.ev x= .d (.fn f caps)) (hds:unD (xs.map S.ev)=some ds) (hc:zU P f (ds++caps) rs) (hG:E.gdt=uO P:=by rfl):
  AOp P r E S ⟨some d,.call {callee:= .value x,args:=xs.toArray,argTypes:=ats},ty,pos,af,g⟩ d (zOO rs):=
 ⟨rfl,hn,fun S' ha=>by
  have he:xs.map S'.ev=xs.map S.ev:=List.map_congr_left fun x hx=>ha.ev (by simp[Op.operands,Call.operands,hx]);rw[←he] at hds;obtain⟨hd1,hd2⟩:=zEB S' hds
  rintro A w K Q ⟨I,ρ,C,hs⟩ hk
  obtain⟨⟨fn,hf,hname,hbody⟩,hcall⟩:=hc;obtain⟨I1,h1,h2,h3⟩:=SatAt.dvL _ hs (u7 hs xs) hd1;rw[hd2] at h2;have hxv:=hs.ev x;rw[(ha.ev (x:=x) (by simp[Op.operands,Call.operands])).trans hx] at hxv;have hxv':Rep w I (A.eval x) (.fn f caps):=hxv;generalize hvx:A.eval x=vx at hxv';cases hxv' with
  | fn f cvs caps hcx hcr=>
   have hcr':Reps w I1 cvs caps:=⟨hcx,fun j u z hu hz=>(hcr j u z hu hz).mono (xB I w) h1⟩;have hcl:=hcall w I1 (xs.map A.eval++cvs) (fun b j hi=>(h2.old b j hi).1) (hG▸h2.gl) (Pw.append h3 hcr');refine⟨fun f _=>trivial,?_⟩;rw[Oper.semAt_eq _ _ _ (by simp)];have hrun:(execOp A.eval ⟨some d,.call {callee:= .value x,args:=xs.toArray,argTypes:=ats},ty,pos,af,g⟩).run P w= .ok (.enter f (xs.map A.eval++cvs).toArray) w:=by
    simp only[execOp,resolve,hvx,Deferred.ofValue];have hn1:¬fn.name= "runtime.NumGoroutine" :=by simpa using hname
    have hn2:¬fn.body=none:=by intro e;simp[e] at hbody
    simp[invoke,callFunc,hf,hn1,hn2,List.map_toArray]
   rw[hrun];refine⟨by simp[fen,Fence.wide],?_⟩;show CallsIn Fence.wide 0 P f _ w _;refine callsIn_wide.2 (hcl.mono ?_)
   rintro e w' ⟨v,I',rfl,hb,hsub,hnew,hret⟩
   refine hk _ _ ⟨I',ρ,C,SatAt.put ?_ hn (zHC hret)⟩;have h4:=h2.grow hb;exact h4.widen hsub hnew (fun i b hi hbk=>(h2.blt i b hi hbk).2) (E.size _ _ _ h2.frame) (fun b hc=>E.csize _ _ _ h2.frame b hc)⟩
end
end Go.AV
namespace Go.AV
open Go.RowKit
section
variable {P:Program} {r:Option Nat} {E:Env} {S:AState} {d:Nat} {ty:TypeId} {pos:String} {af:Array Edge} {g:Option (Nat×Bool)}
def DV.isV:DV→Bool
 | .v _=>true
 | _=>false
def Env.own (w0:World) (I0:Im) (v:Value) (n:Nat) (hn:n≤1000000):Env where
 B:=w0.heap.size
 I0:=I0
 n:=n
 fr:=fun _ C w=>(w0.grownBy w v.ownBlock∧Same I0 w0 w)∧(∀b j,I0 b j→b<w0.heap.size)∧∀b,¬C b
 wrB:=true
 nle:=hn
 mine:=fun b=>w0.heap.size≤b∨v.ownBlock=some b
 mineB:=fun _ h=> .inl h
 nm:=fun _=>none
 size:=fun _ _ _ h=>h.1.1.size
 csize:=fun _ _ _ h b hb=>absurd hb (h.2.2 b)
 grow:=fun _ _ w w' h hb=>⟨⟨⟨hb.os.trans h.1.1.os,hb.tape.trans h.1.1.tape,hb.output.trans h.1.1.output,Nat.le_trans h.1.1.size hb.size,fun k hk hne=>(hb.block k (Nat.lt_of_lt_of_le hk h.1.1.size)).trans (h.1.1.block k hk hne)⟩,
  fun b j hi=>(KeepB.of (hb.block b (Nat.lt_of_lt_of_le (h.2.1 b j hi) h.1.1.size))).trans (h.1.2 b j hi)⟩,h.2⟩
 wr:=fun _ _ _ w w' row h hg hr hs=>⟨⟨⟨hg.os.trans h.1.1.os,hg.tape.trans h.1.1.tape,hg.output.trans h.1.1.output,Nat.le_trans h.1.1.size hg.size,fun k hk hne=>(hg.block k (Nat.lt_of_lt_of_le hk h.1.1.size) (fun e=>by
   rcases (hr k e).1 with h1 | h1
   ·omega
   ·exact hne h1.symm)).trans (h.1.1.block k hk hne)⟩,fun b j hi=>(hs b j hi).trans (h.1.2 b j hi)⟩,h.2⟩
 turn:=fun _ _ _ w w' l h hl ht hs=>⟨⟨⟨ht.os.trans h.1.1.os,ht.tape.trans h.1.1.tape,ht.output.trans h.1.1.output,by rw[ht.size];exact h.1.1.size,fun k hk hne=>(ht.blk k (by omega)).trans (h.1.1.block k hk hne)⟩,fun b j hi=>(hs b j hi).trans (h.1.2 b j hi)⟩,h.2⟩
 gdt:=fun _=>none
 gl:=fun _ _ _ _=>GlI.none
end
end Go.AV


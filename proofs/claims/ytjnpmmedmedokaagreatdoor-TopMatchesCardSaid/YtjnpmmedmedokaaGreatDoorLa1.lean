/- The layer of abstract values: what a temporary holds, said once; every rule of it is proved from the model. Conditions: none. -/
import Derived.WalkKit
import Derived.TacticsIn
import Derived.OrdersIn
import Derived.RangeFuncLeaves
import Derived.Deep.AppendLies
import Derived.Below
import Derived.LoopNIn
import Derived.IntWalk
import Derived.Laws.BytesArg
import Derived.RangeFuncIn
set_option linter.unusedSimpArgs false
set_option linter.unusedVariables false
set_option linter.unnecessarySimpa false
namespace Go
open Go.RowKit
theorem cP:type_of% @cond_false:=@cond_false
theorem cQ:type_of% @cond_true:=@cond_true
theorem cS:type_of% @List.eq_nil_of_length_eq_zero:=@List.eq_nil_of_length_eq_zero
theorem cU:type_of% @Array.getElem?_eq_some_iff:=@Array.getElem?_eq_some_iff
theorem cV:type_of% @List.getElem?_eq_getElem:=@List.getElem?_eq_getElem
theorem cW:type_of% @Sem.run_bind:=@Sem.run_bind
theorem cX:type_of% @Result.andThen_ok:=@Result.andThen_ok
theorem cY:type_of% @if_false:=@if_false
theorem cZ:type_of% @List.length_append:=@List.length_append
theorem c8:type_of% @decide_eq_true_eq:=@decide_eq_true_eq
theorem c9:type_of% @List.getElem?_eq_some_iff:=@List.getElem?_eq_some_iff
theorem dA:type_of% @List.drop_eq_getElem_cons:=@List.drop_eq_getElem_cons
theorem dB:type_of% @List.append_assoc:=@List.append_assoc
theorem dC:type_of% @decide_eq_false_iff_not:=@decide_eq_false_iff_not
theorem dD:type_of% @decide_true:=@decide_true
theorem dE:type_of% @List.drop_of_length_le:=@List.drop_of_length_le
theorem dF:type_of% @Nat.le_refl:=@Nat.le_refl
theorem dG:type_of% @Bool.not_true:=@Bool.not_true
theorem dH:type_of% @if_true:=@if_true
theorem dI:type_of% @decide_false:=@decide_false
theorem dJ:type_of% @Array.getD_eq_getD_getElem?:=@Array.getD_eq_getD_getElem?
theorem dK:type_of% @if_pos:=@if_pos
theorem dL:type_of% @run_underlying:=@run_underlying
theorem dM:type_of% @Bool.and_eq_true:=@Bool.and_eq_true
theorem dN:type_of% @List.mem_cons:=@List.mem_cons
theorem dO:type_of% @Bool.not_false:=@Bool.not_false
theorem dP:type_of% @List.length_cons:=@List.length_cons
theorem dQ:type_of% @if_neg:=@if_neg
theorem dR:type_of% @Bool.false_eq_true:=@Bool.false_eq_true
theorem dS:type_of% @List.nil_append:=@List.nil_append
theorem dT:type_of% @Bool.true_and:=@Bool.true_and
theorem dU:type_of% @Sem.run_pure:=@Sem.run_pure
theorem dV:type_of% @Bool.false_and:=@Bool.false_and
theorem dW:type_of% @List.getElem?_append_right:=@List.getElem?_append_right
theorem dX:type_of% @List.getElem?_map:=@List.getElem?_map
theorem dY:type_of% @Nat.mul_le_mul_right:=@Nat.mul_le_mul_right
theorem dZ:type_of% @Array.getElem?_setIfInBounds_ne:=@Array.getElem?_setIfInBounds_ne
theorem d5:type_of% @List.getElem?_append_left:=@List.getElem?_append_left
theorem d6:type_of% @List.length_nil:=@List.length_nil
theorem d7:type_of% @Nat.le_trans:=@Nat.le_trans
theorem d8:type_of% @List.getElem?_take:=@List.getElem?_take
theorem d9:type_of% @List.length_take:=@List.length_take
theorem ek:type_of% @List.flatMap_cons:=@List.flatMap_cons
theorem em:type_of% @List.take_append_drop:=@List.take_append_drop
theorem et:type_of% @List.drop_zero:=@List.drop_zero
theorem ey:type_of% @List.map_cons:=@List.map_cons
theorem ez:type_of% @List.append_nil:=@List.append_nil
theorem eA:type_of% @Bool.and_eq_false_iff:=@Bool.and_eq_false_iff
theorem eC:type_of% @List.all_eq_true:=@List.all_eq_true
theorem eD:type_of% @Nat.zero_add:=@Nat.zero_add
theorem eE:type_of% @List.getElem_mem:=@List.getElem_mem
theorem eF:type_of% @List.mem_of_mem_take:=@List.mem_of_mem_take
theorem eG:type_of% @Nat.add_mul:=@Nat.add_mul
theorem eH:type_of% @List.map_toArray:=@List.map_toArray
theorem eJ:type_of% @List.mem_map:=@List.mem_map
theorem eK:type_of% @Array.length_toList:=@Array.length_toList
theorem eM:type_of% @List.length_drop:=@List.length_drop
theorem eN:type_of% @List.mem_append:=@List.mem_append
theorem eO:type_of% @List.getElem?_drop:=@List.getElem?_drop
theorem eP:type_of% @Nat.lt_of_lt_of_le:=@Nat.lt_of_lt_of_le
theorem eQ:type_of% @Sum.elim_inl:=@Sum.elim_inl
theorem eT:type_of% @List.mem_of_getElem?:=@List.mem_of_getElem?
theorem eU:type_of% @List.mem_of_mem_drop:=@List.mem_of_mem_drop
theorem eV:type_of% @false_iff:=@false_iff
theorem eW:type_of% @List.getElem?_toArray:=@List.getElem?_toArray
theorem eX:type_of% @Option.map_some:=@Option.map_some
theorem eY:type_of% @List.length_map:=@List.length_map
theorem eZ:type_of% @List.mem_singleton:=@List.mem_singleton
theorem e6:type_of% @List.length_pos_iff:=@List.length_pos_iff
theorem e7:type_of% @cell_of_row:=@cell_of_row
theorem e9:type_of% @Option.map_eq_some_iff:=@Option.map_eq_some_iff
theorem fa:type_of% @Bool.false_or:=@Bool.false_or
theorem fA:type_of% @List.mem_filter:=@List.mem_filter
theorem fB:type_of% @List.getElem_of_mem:=@List.getElem_of_mem
theorem fC:type_of% @Bool.or_eq_false_iff:=@Bool.or_eq_false_iff
theorem fD:type_of% @Option.some.injEq:=@Option.some.injEq
theorem fE:type_of% @List.pairwise_cons:=@List.pairwise_cons
theorem fF:type_of% @List.map_nil:=@List.map_nil
theorem fG:type_of% @List.getD_eq_getElem?_getD:=@List.getD_eq_getElem?_getD
theorem fH:type_of% @Nat.add_zero:=@Nat.add_zero
theorem fI:type_of% @Nat.lt_or_ge:=@Nat.lt_or_ge
theorem fJ:type_of% @Array.getElem?_eq_getElem:=@Array.getElem?_eq_getElem
theorem fK:type_of% @List.mem_of_find?_eq_some:=@List.mem_of_find?_eq_some
theorem fN:type_of% @List.reverse_reverse:=@List.reverse_reverse
theorem fO:type_of% @List.mem_range:=@List.mem_range
theorem fP:type_of% @Bool.and_false:=@Bool.and_false
theorem fQ:type_of% @Bool.and_self:=@Bool.and_self
theorem fR:type_of% @List.cons_append:=@List.cons_append
theorem fS:type_of% @List.map_congr_left:=@List.map_congr_left
theorem fT:type_of% @List.getElem?_eq_none:=@List.getElem?_eq_none
theorem fU:type_of% @Bool.or_eq_true:=@Bool.or_eq_true
theorem fV:type_of% @List.ext_getElem?:=@List.ext_getElem?
theorem fW:type_of% @Bool.not_eq_true':=@Bool.not_eq_true'
theorem fX:type_of% @List.any_eq_true:=@List.any_eq_true
theorem fY:type_of% @Int.tmod_eq_emod_of_nonneg:=@Int.tmod_eq_emod_of_nonneg
theorem fZ:type_of% @List.size_toArray:=@List.size_toArray
theorem gt:type_of% @List.mem_or_eq_of_mem_set:=@List.mem_or_eq_of_mem_set
theorem gu:type_of% @Option.map_none:=@Option.map_none
theorem gv:type_of% @Nat.add_assoc:=@Nat.add_assoc
theorem gw:type_of% @Int.le_refl:=@Int.le_refl
theorem gx:type_of% @List.set_eq_take_append_cons_drop:=@List.set_eq_take_append_cons_drop
theorem gy:type_of% @callsIn_wide:=@callsIn_wide
theorem gz:type_of% @Nat.zero_mul:=@Nat.zero_mul
theorem gA:type_of% @List.take_of_length_le:=@List.take_of_length_le
theorem gB:type_of% @List.getElem_append_right:=@List.getElem_append_right
theorem gC:type_of% @Nat.mul_one:=@Nat.mul_one
theorem gD:type_of% @Bool.eq_iff_iff:=@Bool.eq_iff_iff
theorem gE:type_of% @List.range_eq_range':=@List.range_eq_range'
theorem gG:type_of% @Option.isSome_iff_exists:=@Option.isSome_iff_exists
theorem gH:type_of% @decide_eq_false:=@decide_eq_false
theorem gI:type_of% @List.any_eq_false:=@List.any_eq_false
theorem gJ:type_of% @List.flatten_cons:=@List.flatten_cons
theorem gK:type_of% @Array.toList_modify:=@Array.toList_modify
theorem gL:type_of% @List.length_reverse:=@List.length_reverse
theorem gN:type_of% @List.take_left:=@List.take_left
theorem gO:type_of% @Option.getD_some:=@Option.getD_some
theorem gP:type_of% @Bool.not_eq_true:=@Bool.not_eq_true
theorem gQ:type_of% @List.flatMap_nil:=@List.flatMap_nil
theorem gR:type_of% @wpIn_mono:=@wpIn_mono
theorem gS:type_of% @Bool.true_or:=@Bool.true_or
theorem gU:type_of% @List.map_append:=@List.map_append
theorem gV:type_of% @Nat.min_eq_left:=@Nat.min_eq_left
theorem gW:type_of% @List.length_singleton:=@List.length_singleton
theorem gX:type_of% @Nat.le_of_ble_eq_true:=@Nat.le_of_ble_eq_true
theorem gY:type_of% @Option.some.inj:=@Option.some.inj
theorem gZ:type_of% @List.length_filter_le:=@List.length_filter_le
theorem g0:type_of% @List.head?_cons:=@List.head?_cons
theorem g3:type_of% @Int.tdiv_eq_ediv_of_nonneg:=@Int.tdiv_eq_ediv_of_nonneg
theorem g4:type_of% @Nat.beq_eq:=@Nat.beq_eq
theorem g5:type_of% @List.getElem?_eq_none_iff:=@List.getElem?_eq_none_iff
theorem g6:type_of% @List.pairwise_iff_getElem:=@List.pairwise_iff_getElem
theorem g7:type_of% @Nat.zero_le:=@Nat.zero_le
theorem g8:type_of% @heap_alloc_new:=@heap_alloc_new
theorem g9:type_of% @List.mapM_cons:=@List.mapM_cons
theorem hF:type_of% @List.drop_length:=@List.drop_length
theorem hJ:type_of% @Bool.or_self:=@Bool.or_self
theorem hO:type_of% @List.ext_getElem:=@List.ext_getElem
theorem hP:type_of% @List.filter_cons:=@List.filter_cons
theorem hQ:type_of% @Nat.mul_le_mul_left:=@Nat.mul_le_mul_left
theorem hU:type_of% @List.filter_cons_of_pos:=@List.filter_cons_of_pos
theorem hY:type_of% @List.all_cons:=@List.all_cons
theorem hZ:type_of% @World.grownBy.refl:=@World.grownBy.refl
theorem ia:type_of% @List.foldl_cons:=@List.foldl_cons
theorem ib:type_of% @List.find?_cons:=@List.find?_cons
theorem ic:type_of% @setRow_heap:=@setRow_heap
theorem ie:type_of% @Array.toList_push:=@Array.toList_push
theorem ii:type_of% @List.getElem?_set:=@List.getElem?_set
theorem ij:type_of% @World.ownsRow_nil:=@World.ownsRow_nil
theorem ik:type_of% @List.take_zero:=@List.take_zero
theorem im:type_of% @List.singleton_append:=@List.singleton_append
theorem io:type_of% @Nat.eq_of_beq_eq_true:=@Nat.eq_of_beq_eq_true
theorem iq:type_of% @Array.getElem?_mapIdx:=@Array.getElem?_mapIdx
theorem ir:type_of% @decide_eq_true:=@decide_eq_true
theorem iu:type_of% @List.mem_cons_of_mem:=@List.mem_cons_of_mem
theorem iv:type_of% @and_self:=@and_self
theorem iw:type_of% @List.pairwise_append:=@List.pairwise_append
theorem iy:type_of% @List.range'_succ:=@List.range'_succ
theorem iz:type_of% @Prod.mk.injEq:=@Prod.mk.injEq
theorem iA:type_of% @List.sum_cons:=@List.sum_cons
theorem iB:type_of% @List.cons.injEq:=@List.cons.injEq
end Go
namespace Go.AV
open Go.RowKit
inductive DV where
 | v (u:Value)
 | sl (size:Nat) (cells:List DV)
 | agg (cells:List DV)
 | pt (cells:List DV)
 | fn (f:FuncId) (caps:List DV)
 | bm (f:FuncId) (fs:List DV)
 | mp (ks:List Value) (vs:List DV)
structure Born (ents:Array MapEntry) (clock:Nat):Prop where
 nd:(ents.toList.map (·.born)).Nodup
 lt:∀x∈ents.toList,x.born<clock
theorem Born.nil:Born #[] 0:=⟨List.nodup_nil,λx h=>by simp at h⟩
theorem Born.push {ents:Array MapEntry} {c:Nat} {k v:Value} (h:Born ents c):Born (ents.push {key:=k,val:=v,born:=c}) (c+1):=by
 refine⟨?_,λx hx=>?_⟩;simp only[ie,gU,ey,fF];refine List.nodup_append.2 ⟨h.nd,by simp,λa z b hb e=>?_⟩;simp at hb;subst hb;subst e;obtain⟨x,hx,e⟩:=eJ.1 z;have:=h.lt x hx;omega;rw[ie,eN] at hx;rcases hx with hx | hx
 have:=h.lt x hx;omega;simp at hx;subst hx;exact Nat.lt_succ_self _
theorem Born.modify {ents:Array MapEntry} {c i:Nat} {f:MapEntry->MapEntry} (h:Born ents c) (z:∀y,(f y).born=y.born):Born (ents.modify i f) c:=by
 have e:(ents.modify i f).toList.map (·.born)=ents.toList.map (·.born):=by
  rw[gK];apply fV;intro j;simp only[dX,List.getElem?_modify];split;cases ents.toList[j]? <;> simp[z];cases ents.toList[j]? <;> simp
 refine⟨by rw[e];exact h.nd,λx D=>?_⟩
 have:x.born∈(ents.modify i f).toList.map (·.born):=eJ.2 ⟨x,D,rfl⟩;rw[e] at this;obtain⟨y,G,k⟩:=eJ.1 this;rw[<-k];exact h.lt y G
abbrev Im:=Nat->Nat->Prop
inductive Rep (w:World) (I:Im):Value->DV->Prop
  | v (u:Value):Rep w I u (.v u)
  | nil (A:Option Addr) (c size:Nat):Rep w I (.slice A 0 c) (.sl size [])
  | sl (b off n c size:Nat) (xs:List Value) (cells:List DV) (hn:0<n) (hcap:n<=c) (hl:cells.length=n*size) (hx:xs.length=cells.length)
      (hc:∀(j:Nat) x,xs[j]? =some x->w.cell? ⟨b,off+j,none⟩=some x/\I b (off+j)) (h1:∀x∈xs,x.oneCell'=true)
      (hr:∀(j:Nat) x d,xs[j]? =some x->cells[j]? =some d->Rep w I x d):Rep w I (.slice (some ⟨b,off,none⟩) n c) (.sl size cells)
  | agg (xs:List Value) (cells:List DV) (hx:xs.length=cells.length) (h1:∀x∈xs,x.oneCell'=true)
      (hr:∀(j:Nat) x d,xs[j]? =some x->cells[j]? =some d->Rep w I x d):Rep w I (.agg xs.toArray) (.agg cells)
  | pt (b off:Nat) (xs:List Value) (cells:List DV) (hx:xs.length=cells.length)
      (hc:∀(j:Nat) x,xs[j]? =some x->w.cell? ⟨b,off+j,none⟩=some x/\I b (off+j)) (h1:∀x∈xs,x.oneCell'=true)
      (hr:∀(j:Nat) x d,xs[j]? =some x->cells[j]? =some d->Rep w I x d):Rep w I (.pointer (some ⟨b,off,none⟩)) (.pt cells)
  | fn (f:FuncId) (xs:List Value) (caps:List DV) (hx:xs.length=caps.length)
      (hr:∀(j:Nat) x d,xs[j]? =some x->caps[j]? =some d->Rep w I x d):Rep w I (.func (.func f) #[] xs.toArray) (.fn f caps)
  | bm (f:FuncId) (xs:List Value) (fs:List DV) (hx:xs.length=fs.length)
      (hr:∀(j:Nat) x d,xs[j]? =some x->fs[j]? =some d->Rep w I x d):Rep w I (.func (.func f) xs.toArray #[]) (.bm f fs)
  | mp (b clock:Nat) (ents:Array MapEntry) (vs:List DV) (hh:w.heap[b]? =some (.map ents clock)) (hI:I b 0) (hx:ents.size=vs.length)
      (hr:∀(j:Nat) x d,ents.toList[j]? =some x->vs[j]? =some d->Rep w I x.val d) (hN:Born ents clock):Rep w I (.map (some b)) (.mp (ents.toList.map (·.key)) vs)
structure KeepB (w w':World) (b j:Nat):Prop where
 cell:w'.cell? ⟨b,j,none⟩=w.cell? ⟨b,j,none⟩
 map:∀ents c,w.heap[b]? =some (.map ents c)->w'.heap[b]? =some (.map ents c)
theorem KeepB.refl {w:World} {b j:Nat}:KeepB w w b j:=⟨rfl,λ_ _ h=>h⟩
theorem KeepB.trans {w w1 w2:World} {b j:Nat} (h:KeepB w1 w2 b j) (k:KeepB w w1 b j):KeepB w w2 b j:=⟨h.cell.trans k.cell,λe c q=>h.map e c (k.map e c q)⟩
theorem KeepB.of {w w':World} {b j:Nat} (h:w'.heap[b]? =w.heap[b]?):KeepB w w' b j:=⟨World.cell?_of_block (a:=⟨b,j,none⟩) h,λ_ _ q=>h.trans q⟩
theorem KeepB.ofCell {w w':World} {b j:Nat} {arr:Array Value} {e:Nat} {k:Nat×Nat} (hb:w.heap[b]? =some (.cells arr e k)) (h:w'.cell? ⟨b,j,none⟩=w.cell? ⟨b,j,none⟩):KeepB w w' b j:=⟨h,λ_ _ q=>by rw[hb] at q;cases q⟩
def Same (I:Im) (w w':World):Prop:= ∀b j,I b j->KeepB w w' b j
theorem Rep.mono {w w':World} {I I':Im} {v:Value} {d:DV} (h:Rep w I v d) (hs:Same I w w') (Z:∀b j,I b j->I' b j):Rep w' I' v d:=by
 induction h with
 | v u=>exact .v u
 | nil A c size=>exact .nil A c size
 | sl b off n c size xs cells hn T hl k G O Y z=>
  exact .sl b off n c size xs cells hn T hl k (λj x H=>⟨(hs _ _ (G j x H).2).cell.trans (G j x H).1,Z _ _ (G j x H).2⟩) O z
 | agg xs cells k O Y z=>exact .agg xs cells k O z
 | pt b off xs cells k G O Y z=>
  exact .pt b off xs cells k (λj x H=>⟨(hs _ _ (G j x H).2).cell.trans (G j x H).1,Z _ _ (G j x H).2⟩) O z
 | fn f xs K k Y z=>exact .fn f xs K k z
 | bm f xs fs k Y z=>exact .bm f xs fs k z
 | mp b D ents vs hh hb k Y hN z=>exact .mp b D ents vs ((hs _ _ hb).map _ _ hh) (Z _ _ hb) k z hN
def Pw {h k:Type} (R: h->k->Prop) (xs:List h) (ys:List k):Prop:=
 xs.length=ys.length/\∀(j:Nat) x y,xs[j]? =some x->ys[j]? =some y->R x y
section
variable {α β:Type} {R R': α->β->Prop} {xs xs':List α} {ys ys':List β}
theorem Pw.imp (h:Pw R xs ys) (z:∀x y,R x y->R' x y):Pw R' xs ys:=⟨h.1,λj x d D k=>z _ _ (h.2 j x d D k)⟩
theorem Pw.nil:Pw R [] []:=⟨rfl,λj x d h=>by simp at h⟩
theorem Pw.cons {x: α} {y: β} (h:R x y) (D:Pw R xs ys):Pw R (x::xs) (y::ys):=by
 refine⟨by simp[D.1],λj y e z k=>?_⟩;cases j with
 | zero=>simp at z k;subst z;subst k;exact h
 | succ j=>simp at z k;exact D.2 j y e z k
theorem Pw.append (h:Pw R xs ys) (k:Pw R xs' ys'):Pw R (xs++xs') (ys++ys'):=by
 refine⟨by simp[h.1,k.1],λj x d D z=>?_⟩;by_cases G:j<xs.length;rw[d5 G] at D;rw[d5 (h.1▸G)] at z;exact h.2 j x d D z;rw[dW (by omega)] at D;rw[dW (by rw[<-h.1];omega)] at z
 rw[<-h.1] at z;exact k.2 _ x d D z
theorem Pw.take (h:Pw R xs ys) (n:Nat):Pw R (xs.take n) (ys.take n):=by refine⟨by simp[h.1],λj x y k D=>?_⟩;rw[d8] at k D;split at k;rename_i z;rw[dK z] at D;exact h.2 j x y k D;cases k
theorem Pw.drop (h:Pw R xs ys) (n:Nat):Pw R (xs.drop n) (ys.drop n):=by refine⟨by simp[h.1],λj x y k z=>?_⟩;rw[eO] at k z;exact h.2 _ x y k z
theorem Pw.set (h:Pw R xs ys) {x: α} {y: β} (G:R x y) (n:Nat):Pw R (xs.set n x) (ys.set n y):=by refine⟨by simp[h.1],λj u v k z=>?_⟩;rw[ii] at k z;by_cases e:n=j;subst e;by_cases D:n<xs.length;simp[D] at k;rw[h.1] at D;simp[D] at z;subst k;subst z;exact G;simp[D] at k;simp[e] at k z;exact h.2 j u v k z
end
abbrev Reps (w:World) (I:Im) (xs:List Value) (ds:List DV):Prop:=Pw (Rep w I) xs ds
theorem Reps.mono {w w':World} {I k:Im} {xs:List Value} {ds:List DV} (h:Reps w I xs ds) (G:Same I w w') (z:∀b j,I b j->k b j):Reps w' k xs ds:=
 h.imp λ_ _ D=>D.mono G z
inductive Cap where
 | top
 | d (x:DV)
 | ptr (id off:Nat)
 | row (id:Nat)
inductive AV where
 | top
 | d (x:DV)
 | row (id:Nat)
 | ptr (id off:Nat)
 | ip (cells:List DV) (off:Nat)
 | tup (ds:List DV)
 | cond (g:Bool) (x:AV)
 | gh (k:Nat)
 | rs (id off n:Nat)
 | clo (f:FuncId) (caps:List Cap)
 | tupc (xs:List Cap)
 | wp (id off:Nat)
 | ws (id off n:Nat) (tight:Bool)
 | aggc (xs:List Cap)
inductive Blk where
 | none
 | row (e size:Nat) (sh:Bool) (cells:List DV)
 | box (e:Nat) (cells:List AV)
 | map (es:List (Value×DV))
 | it (es:List (Value×DV)) (q:List Nat)
 | win (e size k:Nat) (cells:List DV)
structure AState where
 tmps:List (Nat×AV)
 blks:List (Nat×Blk)
def look {z:Type} (h: z):List (Nat×z)->Nat->z
 | [],_=>h
 | (i,x)::r,k=>if Nat.beq i k then x else look h r k
theorem kB {D:Type} (z: D) (i:Nat) (x: D) (r:List (Nat×D)) (k:Nat):look z ((i,x)::r) k=if i=k then x else look z r k:=by simp only[look];by_cases h:i=k<;>simp[h,g4]
def AState.get (S:AState) (t:Nat):AV:=look .top S.tmps t
def AState.blk (S:AState) (id:Nat):Blk:=look .none S.blks id
def AState.put (S:AState) (t:Nat) (x:AV):AState:={S with tmps:=(t,x)::S.tmps}
def AState.setBlk (S:AState) (id:Nat) (b:Blk):AState:={S with blks:=(id,b)::S.blks}
theorem zAE (S:AState) (t u:Nat) (x:AV):(S.put t x).get u=if t=u then x else S.get u:=kB _ _ _ _ _
theorem yCO (S:AState) (t u:Nat) (x:AV):(S.put t x).blk u=S.blk u:=rfl
theorem yB (S:AState) (t u:Nat) (x:Blk):(S.setBlk t x).blk u=if t=u then x else S.blk u:=kB _ _ _ _ _
theorem zRY (S:AState) (t u:Nat) (x:Blk):(S.setBlk t x).get u=S.get u:=rfl
def GT:Nat:=1000000
def AState.ghost (S:AState):Nat:=match S.get GT with
 | .gh k=>k
 | _=>0
def isData:Obj->Bool
 | .cells _ _ _=>true
 | .map _ _=>true
 | .mapIter _ _ _ _=>true
 | _=>false
structure Turned (l:Nat) (w w':World):Prop where
 os:w'.os=w.os
 tape:w'.tape=w.tape
 output:w'.output=w.output
 size:w'.heap.size=w.heap.size
 blk:∀k,k≠l->w'.heap[k]? =w.heap[k]?
 no:∀o,w.heap[l]? =some o->isData o=false
 no':∀o,w'.heap[l]? =some o->isData o=false
structure Chg (w w':World) (O:Nat->Prop):Prop where
 os:w'.os=w.os
 tape:w'.tape=w.tape
 output:w'.output=w.output
 size:w.heap.size<=w'.heap.size
 block:∀k,k<w.heap.size->¬O k->w'.heap[k]? =w.heap[k]?
theorem Chg.of {w w':World} {row:Option Nat} (h:w.grownBy w' row):Chg w w' (λb=>row=some b):=
 ⟨h.os,h.tape,h.output,h.size,λk z D=>h.block k z (λe=>D e.symm)⟩
def GlI (h:Nat->Option (List Value)) (w:World) (I:Im):Prop:= ∀g zs,h g=some zs->∀j,w.cell? ⟨g,j,none⟩=zs[j]?/\I g j
theorem GlI.sub {k:Nat->Option (List Value)} {w:World} {I z:Im} (h:GlI k w I) (G:∀b j,I b j->z b j):GlI k w z:=λg zs D j=>⟨(h g zs D j).1,G _ _ (h g zs D j).2⟩
theorem GlI.none {w:World} {I:Im}:GlI (λ_=>none) w I:=λ_ _ h=>by cases h
structure Env where
 B:Nat
 I0:Im
 n:Nat
 fr:Nat->(Nat->Prop)->World->Prop
 wrB:Bool
 nle:n<=1000000
 mine:Nat->Prop
 mineB:∀b,B<=b->mine b
 nm:Nat->Option Value
 size:∀k C w,fr k C w->B<=w.heap.size
 csize:∀k C w,fr k C w->∀b,C b->b<w.heap.size
 grow:∀k C w w',fr k C w->Below w.heap.size w w'->fr k C w'
 wr:wrB=true->∀k C w w' O,fr k C w->Chg w w' O->(∀b,O b->mine b/\¬C b/\∃o,w.heap[b]? =some o/\isData o=true)->Same I0 w w'->fr k C w'
 turn:wrB=true->∀k C w w' l,fr k C w->B<=l->Turned l w w'->Same I0 w w'->fr k C w'
 gdt:Nat->Option (List Value)
 gl:∀k C w,fr k C w->GlI gdt w I0
def blockOf:Value->Option Nat
 | .slice (some a) _ _=>some a.block
 | .pointer (some a)=>some a.block
 | .map (some b)=>some b
 | _=>none
section
variable (w:World) (I:Im) (ρ:Nat->Value)
def HoldsC:Value->Cap->Prop
 | _,.top=>True
 | v,.d x=>Rep w I v x
 | v,.row id=>v= ρ id
 | v,.ptr id off=> ∃b,blockOf (ρ id)=some b/\v= .pointer (some ⟨b,off,none⟩)
def Holds:Value->AV->Prop
 | _,.top=>True
 | v,.d x=>Rep w I v x
 | v,.row id=>v= ρ id
 | v,.ptr id off=> ∃b,blockOf (ρ id)=some b/\v= .pointer (some ⟨b,off,none⟩)
 | v,.ip cells k=> ∃b off xs,v= .pointer (some ⟨b,off+k,none⟩)/\Reps w I xs cells/\(∀x∈xs,x.oneCell'=true)/\(∀(j:Nat) x,xs[j]? =some x->w.cell? ⟨b,off+j,none⟩=some x/\I b (off+j))
 | v,.tup ds=> ∃xs,v= .tuple xs.toArray/\Reps w I xs ds
 | v,.cond g x=>(g=true->Holds v x)/\(g=false->v=undef)
 | _,.gh _=>True
 | v,.rs id off n=> ∃A c,v= .slice A n c/\n<=c/\(0<n->∃b,blockOf (ρ id)=some b/\A=some ⟨b,off,none⟩)
 | v,.clo f h=> ∃xs,v= .func (.func f) #[] xs.toArray/\Pw (HoldsC w I ρ) xs h
 | v,.tupc cs=> ∃xs,v= .tuple xs.toArray/\Pw (HoldsC w I ρ) xs cs
 | v,.aggc cs=> ∃xs,v= .agg xs.toArray/\Pw (HoldsC w I ρ) xs cs/\∀x∈xs,x.oneCell'=true
 | v,.wp id off=> ∃b o n c,ρ id= .slice (some ⟨b,o,none⟩) n c/\v= .pointer (some ⟨b,o+off,none⟩)
 | v,.ws id off n tt=> ∃A c,v= .slice A n c/\n<=c/\(tt=true->c=n)/\(0<n->∃b o n0 c0,ρ id= .slice (some ⟨b,o,none⟩) n0 c0/\A=some ⟨b,o+off,none⟩)
def BlkOk (M:Nat->Prop) (id:Nat):Blk->Prop
  | .none=>True
  | .row e size G cells=>(0<size/\∀g,(ρ id).ownBlock=some g->M g)/\∃n xs,cells.length=n*size/\w.ownsRow 0 e size (ρ id) n xs/\(∀x∈xs,x.oneCell'=true)/\Reps w I xs cells/\
      (∀g j,(ρ id).ownBlock=some g->I g j->G=true/\j<cells.length)
  | .box e cells=> ∃b arr,ρ id= .pointer (some ⟨b,0,none⟩)/\M b/\w.heap[b]? =some (.cells arr e (0,0))/\(∀x∈arr.toList,x.oneCell'=true)/\
      Pw (Holds w I ρ) arr.toList cells/\(∀j,¬I b j)
  | .map es=> ∃b ents h,ρ id= .map (some b)/\M b/\w.heap[b]? =some (.map ents h)/\Pw (λ(x:MapEntry) (y:Value×DV)=>x.key=y.1/\Rep w I x.val y.2) ents.toList es/\(∀j,¬I b j)/\Born ents h
  | .it es q=> ∃b D ents h z,ρ id= .pointer (some ⟨b,0,none⟩)/\M b/\w.heap[b]? =some (.mapIter (some D) h z h)/\(∀j,¬I b j)/\w.heap[D]? =some (.map ents h)/\I D 0/\
      Pw (λ(x:MapEntry) (y:Value×DV)=>x.key=y.1/\Rep w I x.val y.2) ents.toList es/\Born ents h/\z.toList.map some=q.map λi=>(ents[i]?).map (·.born)
  | .win e size k cells=> ∃A n c xs,ρ id= .slice A n c/\n<=c/\0<size/\cells.length=n*size/\Reps w I xs cells/\(∀x∈xs,x.oneCell'=true)/\
      ((A=none/\n=0)\/∃b off arr,A=some ⟨b,off,none⟩/\M b/\w.heap[b]? =some (.cells arr e (0,0))/\off+n*size<=arr.size/\(∀(j:Nat) x,xs[j]? =some x->arr[off+j]? =some x)/\(∀j,off<=j->j<off+n*size->I b j->j<off+k*size))
end
structure DefOk (B:Nat) (wrB:Bool) (C:Nat->Prop) (w:World) (ds:List Deferred):Prop where
 each:∀d∈ds,∃r,d.target= .collected r/\B<=r/\¬C r/\w.heap[r]? =some (.deferred (some []))
 dist:ds.Pairwise λd e=> ∀r,d.target= .collected r->e.target≠ .collected r
 wr:ds≠[]->wrB=true
theorem DefOk.nil {B:Nat} {k:Bool} {C:Nat->Prop} {w:World}:DefOk B k C w []:=⟨by simp,.nil,λh=>absurd rfl h⟩
theorem DefOk.keep {B:Nat} {k:Bool} {C:Nat->Prop} {w w':World} {ds:List Deferred} (h:DefOk B k C w ds) (O:∀r:Nat,w.heap[r]? =some (Obj.deferred (some []))->w'.heap[r]? =some (Obj.deferred (some []))):DefOk B k C w' ds:=
 ⟨λd K=>let ⟨r,D,G,z,H⟩:=h.each d K;⟨r,D,G,z,O r H⟩,h.dist,h.wr⟩
structure SatAt (E:Env) (S:AState) (a:Act) (w:World) (I:Im) (ρ:Nat->Value) (C:Nat->Prop):Prop where
 tmps:∀t,Holds w I ρ (a.tmps.getD t undef) (S.get t)
 blks:∀id,BlkOk w I ρ E.mine id (S.blk id)
 dist:∀id id' b,id≠id'->S.blk id≠ .none->S.blk id'≠ .none->blockOf (ρ id)=some b->blockOf (ρ id')≠some b
 frame:E.fr S.ghost C w
 sub:∀b j,E.I0 b j->I b j
 old:∀b j,I b j->b<w.heap.size/\(E.I0 b j\/E.mine b)
 size:a.tmps.size=E.n
 defers:DefOk E.B E.wrB C w a.defers
 cI:∀b j,I b j->¬C b
 cB:∀id b,S.blk id≠ .none->blockOf (ρ id)=some b->¬C b
 nm:∀id v,E.nm id=some v->S.blk id≠ .none->ρ id=v
def Sat (E:Env) (S:AState) (a:Act) (w:World):Prop:= ∃I ρ C,SatAt E S a w I ρ C
theorem SatAt.gl {E:Env} {S:AState} {a:Act} {w:World} {I:Im} {ρ:Nat->Value} {C:Nat->Prop} (h:SatAt E S a w I ρ C):GlI E.gdt w I:=(E.gl _ _ _ h.frame).sub h.sub
theorem zBX (S:AState) {t:Nat} (x:AV) {E:Env} (h:t<E.n):(S.put t x).ghost=S.ghost:=by
 have k:t≠GT:=by have:=E.nle;unfold GT;omega
 unfold AState.ghost;rw[zAE,dQ k]
def AV.un:AV->AV
 | .cond true x=>x.un
 | y=>y
def AState.ev (S:AState):Operand->AV
 | .tmp t=>(S.get t).un
 | .const v=> .d (.v v)
 | .func f=> .d (.v (.func (.func f) #[] #[]))
 | .global _=> .top
theorem Holds.un {w:World} {I:Im} {ρ:Nat->Value} {v:Value}:∀{x:AV},Holds w I ρ v x->Holds w I ρ v x.un:=by
 intro x
 induction x with
 | cond g x k=>
  intro h;cases g with
  | false=>exact h
  | true=>exact k (h.1 rfl)
 | _=>exact id
theorem SatAt.ev {E:Env} {S:AState} {a:Act} {w:World} {I:Im} {ρ:Nat->Value} {C:Nat->Prop} (h:SatAt E S a w I ρ C) (x:Operand):Holds w I ρ (a.eval x) (S.ev x):=by
 cases x with
 | tmp t=>exact(h.tmps t).un
 | const v=>exact .v v
 | func f=>exact .v _
 | global g=>trivial
theorem SatAt.val {E:Env} {S:AState} {a:Act} {w:World} {I:Im} {ρ:Nat->Value} {C:Nat->Prop} (h:SatAt E S a w I ρ C) {x:Operand} {v:Value} (k:S.ev x= .d (.v v)):a.eval x=v:=by have:=h.ev x;rw[k] at this;generalize a.eval x=u at this ⊢;cases this;rfl
theorem SatAt.put {E:Env} {S:AState} {a:Act} {w:World} {I:Im} {ρ:Nat->Value} {C:Nat->Prop} (h:SatAt E S a w I ρ C) {d:Nat} {v:Value} {x:AV} (z:d<E.n) (D:Holds w I ρ v x):
  SatAt E (S.put d x) (a.put (some d) v) w I ρ C:=by
 refine⟨λt=>?_,h.blks,h.dist,by rw[zBX S x z];exact h.frame,h.sub,h.old,by simp[Act.put,h.size],h.defers,h.cI,h.cB,h.nm⟩
 rw[zAE];by_cases k:d=t
 ·subst k
  simp only[dH,Act.put];rw[dJ,Array.getElem?_setIfInBounds_self_of_lt (by rw[h.size];exact z)]
  exact D
 ·simp only[k,cY,Act.put]
  have:=h.tmps t;rw[dJ] at this ⊢;rw[dZ k];exact this
def fen (r:Option Nat):Fence:={Fence.wide with round:=r}
def jA (P:Program) (r:Option Nat) (E:Env) (o:Oper) (S S':AState):Prop:=
 ∀a w (K:Act->World->Prop) (Q:Exit->Act->World->Prop),Sat E S a w->(∀h w',Sat E S' h w'->K h w')->o.wpIn (fen r) 0 P a w K Q
section
variable {P:Program} {r:Option Nat} {E:Env} {S:AState}
theorem uE {o:Oper} {S':AState} (k:∀c,o.op≠ .defer c)
  (h:∀a w I ρ C,SatAt E S a w I ρ C->∃v w',(execOp a.eval o).run P w= .ok (.value v) w'/\Sat E S' (a.put o.dst v) w'):jA P r E o S S':=by
 rintro a w K Q ⟨I,ρ,C,G⟩ z
 obtain⟨v,w',D,H⟩:=h a w I ρ C G;refine⟨λf _=>trivial,?_⟩;rw[Oper.semAt_eq _ _ _ k,D];exact z _ _ H
theorem zQ {o:Oper} {d:Nat} {x:AV} (D:o.dst=some d) (G:d<E.n) (k:∀c,o.op≠ .defer c)
  (h:∀a w I ρ C,SatAt E S a w I ρ C->∃v,(execOp a.eval o).run P w= .ok (.value v) w/\Holds w I ρ v x):jA P r E o S (S.put d x):=
 uE k λa w I ρ C z=>by
  obtain⟨v,H,K⟩:=h a w I ρ C z;exact⟨v,w,H,I,ρ,C,by rw[D];exact z.put G K⟩
variable {d:Nat} {ty:TypeId} {pos:String} {af:Array Edge} {g:Option (Nat×Bool)}
theorem z4N {x:Operand} (h:d<E.n):jA P r E ⟨some d,.move x,ty,pos,af,g⟩ S (S.put d (S.ev x)):=
 zQ rfl h (by simp) λa w I ρ C k=>⟨a.eval x,by simp[execOp],k.ev x⟩
theorem zXX {x:Operand} (h:d<E.n):jA P r E ⟨some d,.assign x,ty,pos,af,g⟩ S (S.put d (S.ev x)):=
 zQ rfl h (by simp) λa w I ρ C k=>⟨a.eval x,by simp[execOp],k.ev x⟩
theorem k9 {o:Oper} {v:Value} (z:o.dst=some d) (D:d<E.n) (k:∀c,o.op≠ .defer c)
  (h:∀a w I ρ C,SatAt E S a w I ρ C->(execOp a.eval o).run P w= .ok (.value v) w):jA P r E o S (S.put d (.d (.v v))):=
 zQ z D k λa w I ρ C G=>⟨v,h a w I ρ C G,.v v⟩
section ints
variable {k:IntKind} {x y:Operand} {a b:Int} {tx tz:TypeId} (hn:d<E.n) (hx:S.ev x= .d (.v (.int k a))) (hy:S.ev y= .d (.v (.int k b)))
include hn hx hy
theorem z69:jA P r E ⟨some d,.binOp .lss tx x y tz,ty,pos,af,g⟩ S (S.put d (.d (.v (.bool (decide (a<b)))))):=
 k9 rfl hn (by simp) λA w I ρ C h=>by
  simp only[execOp,h.val hx,h.val hy];simp[binOp,eqGuard,Op.intCmp]
theorem z7A:jA P r E ⟨some d,.binOp .leq tx x y tz,ty,pos,af,g⟩ S (S.put d (.d (.v (.bool (decide (a<=b)))))):=
 k9 rfl hn (by simp) λA w I ρ C h=>by
  simp only[execOp,h.val hx,h.val hy];simp[binOp,eqGuard,Op.intCmp]
theorem z7B:jA P r E ⟨some d,.binOp .gtr tx x y tz,ty,pos,af,g⟩ S (S.put d (.d (.v (.bool (decide (b<a)))))):=
 k9 rfl hn (by simp) λA w I ρ C h=>by
  simp only[execOp,h.val hx,h.val hy];simp[binOp,eqGuard,Op.intCmp]
theorem z7C:jA P r E ⟨some d,.binOp .geq tx x y tz,ty,pos,af,g⟩ S (S.put d (.d (.v (.bool (decide (b<=a)))))):=
 k9 rfl hn (by simp) λA w I ρ C h=>by
  simp only[execOp,h.val hx,h.val hy];simp[binOp,eqGuard,Op.intCmp]
theorem z7D:jA P r E ⟨some d,.binOp .eql tx x y tz,ty,pos,af,g⟩ S (S.put d (.d (.v (.bool (decide (a=b)))))):=
 k9 rfl hn (by simp) λA w I ρ C h=>by
  simp only[execOp,h.val hx,h.val hy];have:(a==b)=decide (a=b):=rfl;simp[binOp,eqGuard,Op.intCmp,this]
theorem z7E:jA P r E ⟨some d,.binOp .neq tx x y tz,ty,pos,af,g⟩ S (S.put d (.d (.v (.bool (!decide (a=b)))))):=
 k9 rfl hn (by simp) λA w I ρ C h=>by
  simp only[execOp,h.val hx,h.val hy];have:(a != b)= !decide (a=b):=rfl;simp[binOp,eqGuard,Op.intCmp,this]
end ints
theorem z7F {k Y:IntKind} {x y:Operand} {a:Int} {m:Nat} {tx tz:TypeId} (K:d<E.n) (O:S.ev x= .d (.v (.int k a))) (T:S.ev y= .d (.v (.int Y (m:Int))))
  (H:m<=k.bits):jA P r E ⟨some d,.binOp .shr tx x y tz,ty,pos,af,g⟩ S (S.put d (.d (.v (.int k (a/2 ^ m))))):=
 k9 rfl K (by simp) λA w I ρ C h=>by
  simp only[execOp,h.val O,h.val T];have z:¬((m:Int)<0):=by omega
  have D:min m k.bits=m:=gV H;have G:a.fdiv (2 ^ m)=a/2 ^ m:=Int.fdiv_eq_ediv_of_nonneg a (Int.le_of_lt (Int.pow_pos (by decide)));simp[binOp,eqGuard,Op.shift,z,D,G]
theorem z7G {x:Operand} {b:Bool} {tx:TypeId} (h:d<E.n) (z:S.ev x= .d (.v (.bool b))):jA P r E ⟨some d,.unOp .not tx x,ty,pos,af,g⟩ S (S.put d (.d (.v (.bool (!b))))):=
 k9 rfl h (by simp) λA w I ρ C k=>by
  simp only[execOp,k.val z];simp[Op.unary]
theorem zTT {c:Operand} {t:Nat} {b h:Bool} (H:d<E.n) (G:S.ev c= .d (.v (.bool b))) (K:S.get t= .cond b (.d (.v (.bool h)))):
  jA P r E ⟨some d,.pick c (.tmp t) (.const (.bool false)),ty,pos,af,g⟩ S (S.put d (.d (.v (.bool (b&&h))))):=
 k9 rfl H (by simp) λA w I ρ C D=>by
  have z:=D.tmps t;rw[K] at z;simp only[execOp,D.val G];cases b with
  | false=>simp[asBool,Act.eval]
  | true=>
   have k:=z.1 rfl;generalize O:A.tmps.getD t undef=v at k;cases k;simp only[Act.eval,O];simp[asBool]
theorem zV1 {c:Operand} {t:Nat} {b h:Bool} (H:d<E.n) (G:S.ev c= .d (.v (.bool b))) (K:S.get t= .cond (!b) (.d (.v (.bool h)))):
  jA P r E ⟨some d,.pick c (.const (.bool true)) (.tmp t),ty,pos,af,g⟩ S (S.put d (.d (.v (.bool (b ||h))))):=
 k9 rfl H (by simp) λA w I ρ C D=>by
  have z:=D.tmps t;rw[K] at z;simp only[execOp,D.val G];cases b with
  | true=>simp[asBool,Act.eval]
  | false=>
   have k:=z.1 rfl;generalize O:A.tmps.getD t undef=v at k;cases k;simp only[Act.eval,O];simp[asBool]
section strs
variable {x y:Operand} {a b:ByteArray} {tx tz:TypeId} (hn:d<E.n) (hx:S.ev x= .d (.v (.string a))) (hy:S.ev y= .d (.v (.string b)))
include hn hx hy
theorem zRZ {k:BinOp} {v:Value} (H:k≠ .shl/\k≠ .shr) (h:∀w,(Op.stringOp k a b).run P w= .ok v w):jA P r E ⟨some d,.binOp k tx x y tz,ty,pos,af,g⟩ S (S.put d (.d (.v v))):=
 k9 rfl hn (by simp) λA w I ρ C z=>by
  simp only[execOp,z.val hx,z.val hy];have D:(eqGuard k tx x y (.string a) (.string b)).run P w= .ok () w:=by cases k<;>simp[eqGuard]
  have G:binOp k tx (.string a) (.string b)=Op.stringOp k a b:=by cases k<;>simp_all [binOp]
  simp[D,G,h]
theorem z4O:jA P r E ⟨some d,.binOp .eql tx x y tz,ty,pos,af,g⟩ S (S.put d (.d (.v (.bool (a.toList==b.toList))))):=zRZ hn hx hy (by simp) (λ_=>by simp[Op.stringOp])
theorem z4P:jA P r E ⟨some d,.binOp .neq tx x y tz,ty,pos,af,g⟩ S (S.put d (.d (.v (.bool (!(a.toList==b.toList)))))):=zRZ hn hx hy (by simp) (λ_=>by simp[Op.stringOp])
theorem z4Q:jA P r E ⟨some d,.binOp .lss tx x y tz,ty,pos,af,g⟩ S (S.put d (.d (.v (.bool (Op.bytesLess a.toList b.toList))))):=zRZ hn hx hy (by simp) (λ_=>by simp[Op.stringOp])
end strs
theorem zTU {k z:IntKind} {x:Operand} {a:Int} {D td:TypeId} {ds:TypeDesc} (H:d<E.n) (K:P.underlying D=some ds) (G:P.underlying td=some (.int z)) (O:S.ev x= .d (.v (.int k a))):
  jA P r E ⟨some d,.convert D td x,ty,pos,af,g⟩ S (S.put d (.d (.v (.int z (z.wrap a))))):=
 k9 rfl H (by simp) λA w I ρ C h=>by
  simp only[execOp,h.val O];simp[convert,dL K,dL G,Conv.intToInt]
theorem zV2 {x:Operand} {i:Nat} {ds:List DV} {e:DV} (D:d<E.n) (K:S.ev x= .tup ds) (hi:ds[i]? =some e):jA P r E ⟨some d,.extract x i,ty,pos,af,g⟩ S (S.put d (.d e)):=
 zQ rfl D (by simp) λA w I ρ C G=>by
  have h:=G.ev x;rw[K] at h;obtain⟨xs,H,z⟩:=h;have k:i<xs.length:=by rw[z.1];exact(c9.1 hi).1
  refine⟨xs[i],?_,z.2 i _ e (cV k) hi⟩;simp only[execOp,H];simp[Instr.extract,cV k]
end
def Cap.mentions (id:Nat):Cap->Bool
 | .row i=>Nat.beq i id
 | .ptr i _=>Nat.beq i id
 | _=>false
def AV.mentions (id:Nat):AV->Bool
 | .row i=>Nat.beq i id
 | .ptr i _=>Nat.beq i id
 | .rs i _ _=>Nat.beq i id
 | .wp i _=>Nat.beq i id
 | .ws i _ _ _=>Nat.beq i id
 | .clo _ h=>h.any (Cap.mentions id)
 | .tupc h=>h.any (Cap.mentions id)
 | .aggc h=>h.any (Cap.mentions id)
 | .cond _ x=>x.mentions id
 | _=>false
def zDM (id:Nat) (x:AV):AV:=if x.mentions id then .top else x
def zRA (id:Nat):Blk->Blk
 | .box e cells=> .box e (cells.map (zDM id))
 | b=>b
def AState.kill (S:AState) (id:Nat):AState:=
 {tmps:=S.tmps.map λp=>(p.1,zDM id p.2),blks:=S.blks.map λp=>(p.1,zRA id p.2)}
theorem zN2 {z:Type} (h: z) (f: z->z) (D:f h=h) (l:List (Nat×z)) (k:Nat):look h (l.map λp=>(p.1,f p.2)) k=f (look h l k):=by
 induction l with
 | nil=>simp[look,D]
 | cons p l G=>obtain⟨i,x⟩:=p;simp only[ey,kB,G];split<;>rfl
theorem zXY (S:AState) (id t:Nat):(S.kill id).get t=zDM id (S.get t):=zN2 _ _ rfl _ _
theorem zGK (S:AState) (id i:Nat):(S.kill id).blk i=zRA id (S.blk i):=zN2 _ _ rfl _ _
theorem yCP (id:Nat) (x:AV):(match zDM id x with | .gh k=>k | _=>0)=(match x with | .gh k=>k | _=>0):=by
 unfold zDM;by_cases h:x.mentions id=true;simp only[h,dH];cases x<;>first | rfl | (simp[AV.mentions] at h)
 simp only[h];rfl
def upd (ρ:Nat->Value) (id:Nat) (v:Value):Nat->Value:=λi=>if i=id then v else ρ i
theorem HoldsC.upd {w w':World} {I k:Im} {ρ:Nat->Value} {v:Value} {x:Cap} (h:HoldsC w I ρ v x) (G:Same I w w') (D:∀b j,I b j->k b j) (id:Nat) (u:Value) (z:x.mentions id=false):
  HoldsC w' k (upd ρ id u) v x:=by
 cases x with
 | top=>trivial
 | d y=>exact Rep.mono h G D
 | row i=>
  have:i≠id:=by intro e;subst e;simp[Cap.mentions] at z
  simpa[HoldsC,Go.AV.upd,this] using h
 | ptr i off=>
  have:i≠id:=by intro e;subst e;simp[Cap.mentions] at z
  simpa[HoldsC,Go.AV.upd,this] using h
theorem HoldsC.updL {w w':World} {I k:Im} {ρ:Nat->Value} {xs:List Value} {cs:List Cap} (h:Pw (HoldsC w I ρ) xs cs) (H:Same I w w') (D:∀b j,I b j->k b j) (id:Nat) (u:Value) (G:cs.any (Cap.mentions id)=false):
  Pw (HoldsC w' k (Go.AV.upd ρ id u)) xs cs:=⟨h.1,λj x c K z=>(h.2 j x c K z).upd H D id u (by
   have:=gI.1 G c (eT z);simpa using this)⟩
theorem HoldsC.mono {w w':World} {I k:Im} {ρ:Nat->Value} {v:Value} {x:Cap} (h:HoldsC w I ρ v x) (D:Same I w w') (z:∀b j,I b j->k b j):HoldsC w' k ρ v x:=by
 cases x with
 | top=>trivial
 | d y=>exact Rep.mono h D z
 | row i=>exact h
 | ptr i off=>exact h
theorem Holds.upd {w w':World} {I T:Im} {ρ:Nat->Value} {v:Value} {x:AV} (h:Holds w I ρ v x) (K:Same I w w') (H:∀b j,I b j->T b j) (id:Nat) (u:Value):
  Holds w' T (upd ρ id u) v (zDM id x):=by
 unfold zDM;by_cases z:x.mentions id=true
 ·simp[z,Holds]
 ·simp only[z]
  show Holds w' T (Go.AV.upd ρ id u) v x
  induction x with
  | top=>trivial
  | d y=>exact Rep.mono h K H
  | row i=>
   have:i≠id:=by intro e;subst e;simp[AV.mentions] at z
   simpa[Holds,Go.AV.upd,this] using h
  | ptr i off=>
   have:i≠id:=by intro e;subst e;simp[AV.mentions] at z
   simpa[Holds,Go.AV.upd,this] using h
  | ip cells k=>
   obtain⟨b,off,xs,D,hr,Y,Z⟩:=h;exact⟨b,off,xs,D,hr.mono K H,Y,λj y hj=>⟨(K _ _ (Z j y hj).2).cell.trans (Z j y hj).1,H _ _ (Z j y hj).2⟩⟩
  | tup ds=>obtain⟨xs,D,hr⟩:=h;exact⟨xs,D,hr.mono K H⟩
  | cond g y ih=>exact⟨λhg=>ih (h.1 hg) (by simpa[AV.mentions] using z),h.2⟩
  | gh k=>trivial
  | rs i off n=>
   have:i≠id:=by intro e;subst e;simp[AV.mentions] at z
   simpa[Holds,Go.AV.upd,this] using h
  | clo f G=>
   obtain⟨xs,D,O⟩:=h;exact⟨xs,D,HoldsC.updL O K H id u (by simpa[AV.mentions] using z)⟩
  | tupc G=>
   obtain⟨xs,D,O⟩:=h;exact⟨xs,D,HoldsC.updL O K H id u (by simpa[AV.mentions] using z)⟩
  | aggc G=>
   obtain⟨xs,D,O,Y⟩:=h;exact⟨xs,D,HoldsC.updL O K H id u (by simpa[AV.mentions] using z),Y⟩
  | wp i off=>
   have:i≠id:=by intro e;subst e;simp[AV.mentions] at z
   simpa[Holds,Go.AV.upd,this] using h
  | ws i off n tt=>
   have:i≠id:=by intro e;subst e;simp[AV.mentions] at z
   simpa[Holds,Go.AV.upd,this] using h
theorem Holds.mono {w w':World} {I I':Im} {ρ:Nat->Value} {v:Value} {x:AV} (h:Holds w I ρ v x) (H:Same I w w') (G:∀b j,I b j->I' b j):Holds w' I' ρ v x:=by
 induction x with
 | top=>trivial
 | d y=>exact Rep.mono h H G
 | row i=>exact h
 | ptr i off=>exact h
 | ip cells k=>
  obtain⟨b,off,xs,z,Z,O,T⟩:=h;exact⟨b,off,xs,z,Z.mono H G,O,λj y Y=>⟨(H _ _ (T j y Y).2).cell.trans (T j y Y).1,G _ _ (T j y Y).2⟩⟩
 | tup ds=>obtain⟨xs,z,Z⟩:=h;exact⟨xs,z,Z.mono H G⟩
 | cond g y ih=>exact⟨λhg=>ih (h.1 hg),h.2⟩
 | gh k=>trivial
 | rs i off n=>exact h
 | clo f D=>obtain⟨xs,z,K⟩:=h;exact⟨xs,z,K.imp λ_ _ h=>h.mono H G⟩
 | tupc D=>obtain⟨xs,z,K⟩:=h;exact⟨xs,z,K.imp λ_ _ h=>h.mono H G⟩
 | aggc D=>obtain⟨xs,z,K,O⟩:=h;exact⟨xs,z,K.imp λ_ _ h=>h.mono H G,O⟩
 | wp i off=>exact h
 | ws i off n tt=>exact h
theorem zME {w w':World} {B e size n:Nat} {v:Value} {xs:List Value} (h:w.ownsRow B e size v n xs) (hb:∀g,v.ownBlock=some g->w'.heap[g]? =w.heap[g]?):w'.ownsRow B e size v n xs:=by
 refine⟨h.1,?_⟩;rcases h.2 with H | ⟨g,k,z,rfl,D,G,rest⟩
 exact .inl H;exact .inr ⟨g,k,z,rfl,D,by rw[hb g rfl];exact G,rest⟩
theorem zAF {v:Value} {g:Nat} (h:v.ownBlock=some g):blockOf v=some g:=by unfold Value.ownBlock at h;split at h;simpa[blockOf] using h;cases h
theorem BlkOk.mono {w w':World} {I:Im} {ρ:Nat->Value} {M:Nat->Prop} {i:Nat} {x:Blk} (h:BlkOk w I ρ M i x) (Z:Same I w w')
  (hb:∀b,blockOf (ρ i)=some b->w'.heap[b]? =w.heap[b]?):BlkOk w' I ρ M i x:=by
 cases x with
 | none=>trivial
 | row e size sh cells=>
  obtain⟨h0,n,xs,hl,ac,h1,G,K⟩:=h;exact⟨h0,n,xs,hl,zME ac (λg hg=>hb g (zAF hg)),h1,G.mono Z (λ_ _ h=>h),K⟩
 | box e cells=>
  obtain⟨b,arr,D,H,O,h1,G,K⟩:=h;exact⟨b,arr,D,H,by rw[hb b (by rw[D];rfl)];exact O,h1,G.imp λ_ _ h=>h.mono Z (λ_ _ h=>h),K⟩
 | map es=>
  obtain⟨b,ents,z,D,H,O,G,K⟩:=h;exact⟨b,ents,z,D,H,by rw[hb b (by rw[D];rfl)];exact O,G.imp λ_ _ h=>⟨h.1,h.2.mono Z (λ_ _ h=>h)⟩,K⟩
 | it es q=>
  obtain⟨b,bm,ents,z,ad,D,H,O,K,hm,ab,G,hN,hq⟩:=h;exact⟨b,bm,ents,z,ad,D,H,by rw[hb b (by rw[D];rfl)];exact O,K,(Z _ _ ab).map _ _ hm,ab,G.imp λ_ _ h=>⟨h.1,h.2.mono Z (λ_ _ h=>h)⟩,hN,hq⟩
 | win e size k cells=>
  obtain⟨A,n,c,xs,D,ah,hp,hl,G,h1,Y⟩:=h;refine⟨A,n,c,xs,D,ah,hp,hl,G.mono Z (λ_ _ h=>h),h1,?_⟩;rcases Y with Y | ⟨b,off,arr,Y,H,O,T⟩
  ·exact .inl Y
  ·exact .inr ⟨b,off,arr,Y,H,by rw[hb b (by rw[D,Y];rfl)];exact O,T⟩
theorem BlkOk.upd {w w':World} {I:Im} {ρ:Nat->Value} {M:Nat->Prop} {i:Nat} {x:Blk} (h:BlkOk w I ρ M i x) (hs:Same I w w')
  (hb:∀b,blockOf (ρ i)=some b->w'.heap[b]? =w.heap[b]?) {id:Nat} (am:i≠id) (u:Value):BlkOk w' I (upd ρ id u) M i (zRA id x):=by
 have D:Go.AV.upd ρ id u i= ρ i:=by simp[Go.AV.upd,am]
 cases x with
 | none=>trivial
 | row e size sh cells=>
  obtain⟨h0,n,xs,hl,ag,h1,H,T⟩:=h;refine⟨by rw[D];exact h0,n,xs,hl,?_,h1,H.mono hs (λ_ _ h=>h),?_⟩
  ·rw[D];exact zME ag (λg hg=>hb g (zAF hg))
  ·rw[D];exact T
 | box e cells=>
  obtain⟨b,arr,G,O,Y,h1,H,T⟩:=h;refine⟨b,arr,by rw[D];exact G,O,by rw[hb b (by rw[G];rfl)];exact Y,h1,⟨by simpa using H.1,λj y av hj K=>?_⟩,T⟩
  rw[dX] at K;cases hc:cells[j]? with
  | none=>simp[hc] at K
  | some ai=>
   simp[hc] at K;subst K;exact(H.2 j y ai hj hc).upd hs (λ_ _ h=>h) id u
 | map es=>
  obtain⟨b,ents,z,G,O,Y,H,T⟩:=h;exact⟨b,ents,z,by rw[D];exact G,O,by rw[hb b (by rw[G];rfl)];exact Y,H.imp λ_ _ h=>⟨h.1,h.2.mono hs (λ_ _ h=>h)⟩,T⟩
 | it es q=>
  obtain⟨b,bm,ents,z,ah,G,O,Y,T,hm,ad,H,hN,hq⟩:=h;exact⟨b,bm,ents,z,ah,by rw[D];exact G,O,by rw[hb b (by rw[G];rfl)];exact Y,T,(hs _ _ ad).map _ _ hm,ad,H.imp λ_ _ h=>⟨h.1,h.2.mono hs (λ_ _ h=>h)⟩,hN,hq⟩
 | win e size k cells=>
  obtain⟨A,n,c,xs,G,al,hp,hl,H,h1,hA⟩:=h;refine⟨A,n,c,xs,by rw[D];exact G,al,hp,hl,H.mono hs (λ_ _ h=>h),h1,?_⟩
  rcases hA with hA | ⟨b,off,arr,hA,O,Y,Z⟩
  ·exact .inl hA
  ·exact .inr ⟨b,off,arr,hA,O,by rw[hb b (by rw[G,hA];rfl)];exact Y,Z⟩
theorem BlkOk.widenI {w:World} {I I':Im} {ρ:Nat->Value} {M:Nat->Prop} {i:Nat} {x:Blk} (h:BlkOk w I ρ M i x) (z:∀b j,I b j->I' b j)
  (hx:∀b j,x≠ .none->blockOf (ρ i)=some b->I' b j->I b j):BlkOk w I' ρ M i x:=by
 have hs:Same I w w:=λ_ _ _=>KeepB.refl;cases x with
 | none=>trivial
 | row e size sh cells=>
  obtain⟨h0,n,xs,hl,aa,O,K,H⟩:=h;exact⟨h0,n,xs,hl,aa,O,K.mono hs z,λg j hg hi=>H g j hg (hx g j (by simp) (zAF hg) hi)⟩
 | box e cells=>
  obtain⟨b,arr,G,T,Y,O,K,H⟩:=h;exact⟨b,arr,G,T,Y,O,K.imp λ_ _ h=>h.mono hs z,λj hi=>H j (hx b j (by simp) (by rw[G];rfl) hi)⟩
 | map es=>
  obtain⟨b,ents,D,G,T,Y,K,H⟩:=h;exact⟨b,ents,D,G,T,Y,K.imp λ_ _ h=>⟨h.1,h.2.mono hs z⟩,λj hi=>H.1 j (hx b j (by simp) (by rw[G];rfl) hi),H.2⟩
 | it es q=>
  obtain⟨b,bm,ents,D,ad,G,T,Y,H,hm,ai,K,hN,hq⟩:=h;exact⟨b,bm,ents,D,ad,G,T,Y,λj hi=>H j (hx b j (by simp) (by rw[G];rfl) hi),hm,z _ _ ai,K.imp λ_ _ h=>⟨h.1,h.2.mono hs z⟩,hN,hq⟩
 | win e size k cells=>
  obtain⟨A,n,c,xs,G,aj,hp,hl,K,O,Z⟩:=h;refine⟨A,n,c,xs,G,aj,hp,hl,K.mono hs z,O,?_⟩;rcases Z with Z | ⟨b,off,arr,Z,T,Y,hf,hc,H⟩
  ·exact .inl Z
  ·exact .inr ⟨b,off,arr,Z,T,Y,hf,hc,λj O h2 hi=>H j O h2 (hx b j (by simp) (by rw[G,Z];rfl) hi)⟩
theorem BlkOk.mineM {w:World} {I:Im} {ρ:Nat->Value} {M Y:Nat->Prop} {i:Nat} {x:Blk} (h:BlkOk w I ρ M i x)
  (K:∀b,x≠ .none->blockOf (ρ i)=some b->M b->Y b):BlkOk w I ρ Y i x:=by
 cases x with
 | none=>trivial
 | row e size sh cells=>
  obtain⟨Z,rest⟩:=h;exact⟨⟨Z.1,λg hg=>K g (by simp) (zAF hg) (Z.2 g hg)⟩,rest⟩
 | box e cells=>
  obtain⟨b,arr,D,G,rest⟩:=h;exact⟨b,arr,D,K b (by simp) (by rw[D];rfl) G,rest⟩
 | map es=>
  obtain⟨b,ents,z,D,G,rest⟩:=h;exact⟨b,ents,z,D,K b (by simp) (by rw[D];rfl) G,rest⟩
 | it es q=>
  obtain⟨b,bm,ents,z,O,D,G,rest⟩:=h;exact⟨b,bm,ents,z,O,D,K b (by simp) (by rw[D];rfl) G,rest⟩
 | win e size k cells=>
  obtain⟨A,n,c,xs,D,T,hp,hl,hr,h1,H⟩:=h;refine⟨A,n,c,xs,D,T,hp,hl,hr,h1,?_⟩;rcases H with H | ⟨b,off,arr,H,G,rest⟩
  ·exact .inl H
  ·exact .inr ⟨b,off,arr,H,K b (by simp) (by rw[D,H];rfl) G,rest⟩
theorem SatAt.blt {E:Env} {S:AState} {a:Act} {w:World} {I:Im} {ρ:Nat->Value} {C:Nat->Prop} (h:SatAt E S a w I ρ C):∀i b,S.blk i≠ .none->blockOf (ρ i)=some b->E.mine b/\b<w.heap.size:=by
 intro i b hi hb;have:=h.blks i;cases K:S.blk i with
 | none=>exact absurd K hi
 | row e size sh cells=>
  rw[K] at this;obtain⟨hM,n,xs,hl,T,_⟩:=this;rcases T.2 with ⟨hn,_⟩ | ⟨g,ab,ac,z,G,D,_⟩
  rw[hn] at hb;simp[blockOf] at hb;have Z:=hM.2 g (by rw[z];rfl)
  rw[z] at hb;simp[blockOf] at hb;subst hb;exact⟨Z,(cU.1 D).1⟩
 | box e cells=>
  rw[K] at this;obtain⟨Y,arr,z,G,D,_⟩:=this;rw[z] at hb;simp[blockOf] at hb;subst hb;exact⟨G,(cU.1 D).1⟩
 | map es=>
  rw[K] at this;obtain⟨Y,ents,H,z,G,D,_⟩:=this;rw[z] at hb;simp[blockOf] at hb;subst hb;exact⟨G,(cU.1 D).1⟩
 | it es q=>
  rw[K] at this;obtain⟨Y,bm,ents,H,aa,z,G,D,_⟩:=this;rw[z] at hb;simp[blockOf] at hb;subst hb;exact⟨G,(cU.1 D).1⟩
 | win e size k cells=>
  rw[K] at this;obtain⟨A,n,c,xs,z,_,_,_,_,_,O⟩:=this;rcases O with ⟨O,_⟩ | ⟨Y,off,arr,O,G,D,_⟩
  rw[z,O] at hb;simp[blockOf] at hb;rw[z,O] at hb;simp[blockOf] at hb;subst hb;exact⟨G,(cU.1 D).1⟩
theorem SatAt.grow {E:Env} {S:AState} {a:Act} {w w':World} {I:Im} {ρ:Nat->Value} {C:Nat->Prop} (h:SatAt E S a w I ρ C) (hb:Below w.heap.size w w'):SatAt E S a w' I ρ C:=by
 have D:Same I w w':=λb j hi=>KeepB.of (hb.block b (h.old b j hi).1);refine⟨λt=>(h.tmps t).mono D (λ_ _ h=>h),λi=>?_,h.dist,E.grow _ _ _ _ h.frame hb,h.sub,λb j hi=>⟨eP (h.old b j hi).1 hb.size,(h.old b j hi).2⟩,h.size,h.defers.keep λr z=>(hb.block r (cU.1 z).1).trans z,h.cI,h.cB,h.nm⟩;cases G:S.blk i with
 | none=>trivial
 | _=>
  rw[<-G];exact(h.blks i).mono D (λb k=>hb.block b (h.blt i b (by rw[G];simp) k).2)
theorem SatAt.cellBlk {E:Env} {S:AState} {a:Act} {w:World} {I:Im} {ρ:Nat->Value} {C:Nat->Prop} (h:SatAt E S a w I ρ C) {id b:Nat} (aa:S.blk id≠ .none) (z:blockOf (ρ id)=some b):∃o,w.heap[b]? =some o/\isData o=true:=by
 have:=h.blks id;cases K:S.blk id with
 | none=>exact absurd K aa
 | row e size sh cells=>
  rw[K] at this;obtain⟨_,n,xs,hl,T,_⟩:=this;rcases T.2 with ⟨hn,_⟩ | ⟨g,ac,ad,D,Y,G,_⟩
  rw[hn] at z;simp[blockOf] at z;rw[D] at z;simp[blockOf] at z;subst z;exact⟨_,G,rfl⟩
 | box e cells=>
  rw[K] at this;obtain⟨Z,arr,D,Y,G,_⟩:=this;rw[D] at z;simp[blockOf] at z;subst z;exact⟨_,G,rfl⟩
 | map es=>
  rw[K] at this;obtain⟨Z,ents,H,D,Y,G,_⟩:=this;rw[D] at z;simp[blockOf] at z;subst z;exact⟨_,G,rfl⟩
 | it es q=>
  rw[K] at this;obtain⟨Z,bm,ents,H,ab,D,Y,G,_⟩:=this;rw[D] at z;simp[blockOf] at z;subst z;exact⟨_,G,rfl⟩
 | win e size k cells=>
  rw[K] at this;obtain⟨A,n,c,xs,D,_,_,_,_,_,O⟩:=this;rcases O with ⟨O,_⟩ | ⟨Z,off,arr,O,Y,G,_⟩
  rw[D,O] at z;simp[blockOf] at z;rw[D,O] at z;simp[blockOf] at z;subst z;exact⟨_,G,rfl⟩
theorem SatAt.modify {E:Env} {S:AState} {a:Act} {w w':World} {I:Im} {ρ:Nat->Value} {C:Nat->Prop} (h:SatAt E S a w I ρ C) {id b:Nat} {x:Blk} (T:w.grownBy w' (some b))
  (z:S.blk id≠ .none) (H:blockOf (ρ id)=some b) (hs:Same I w w') (hx:BlkOk w' I ρ E.mine id x) (hE:E.wrB=true):SatAt E (S.setBlk id x) a w' I ρ C:=by
 have D:∃o,w.heap[b]? =some o/\isData o=true:=h.cellBlk z H;refine⟨λt=>(h.tmps t).mono hs (λ_ _ h=>h),λi=>?_,λi i' O aa hi Z hb=>?_,E.wr hE _ _ _ _ _ h.frame (Chg.of T) (λk hk=>by cases hk;exact⟨(h.blt id _ z H).1,h.cB id _ z H,D⟩) (λb j hi=>hs b j (h.sub b j hi)),h.sub,
  λb j hi=>⟨eP (h.old b j hi).1 T.size,(h.old b j hi).2⟩,h.size,h.defers.keep λr Y=>(T.block r (cU.1 Y).1 (λe=>by cases e;obtain⟨o,hc,hd⟩:=D;rw[hc] at Y;cases Y;cases hd)).trans Y,h.cI,λi O hi G=>?_,λi v hv hi=>h.nm i v hv ?_⟩
 ·rw[yB]
  by_cases e:id=i
  ·subst e;simpa using hx
  ·simp only[e,cY]
   cases hb:S.blk i with
   | none=>trivial
   | _=>
    rw[<-hb];have K:S.blk i≠ .none:=by rw[hb];simp
    exact(h.blks i).mono hs (λO G=>T.block O (h.blt i O K G).2 (λhe=>h.dist i id O (λe'=>e e'.symm) K z G (by rw[H,he])))
 ·have key:∀i,(S.setBlk id x).blk i≠ .none->S.blk i≠ .none:=by
   intro i hi;rw[yB] at hi;by_cases e:id=i
   ·subst e;exact z
   ·simpa[e] using hi
  exact h.dist i i' O aa (key i hi) (key i' Z) hb
 ·refine h.cB i O ?_ G
  rw[yB] at hi;by_cases e:id=i
  ·subst e;exact z
  ·simpa[e] using hi
 ·rw[yB] at hi
  by_cases e:id=i
  ·subst e;exact z
  ·simpa[e] using hi
theorem SatAt.update {E:Env} {S:AState} {a:Act} {w w':World} {I:Im} {ρ:Nat->Value} {C:Nat->Prop} (h:SatAt E S a w I ρ C) {row:Option Nat} (Z:w.grownBy w' row) {id:Nat} {u:Value} {x:Blk}
  (z:∀k,row=some k->S.blk id≠ .none/\blockOf (ρ id)=some k)
  (hs:Same I w w') (hu:∀b,blockOf u=some b->w.heap.size<=b\/(S.blk id≠ .none/\blockOf (ρ id)=some b)) (hx:BlkOk w' I (upd ρ id u) E.mine id x) (hE:row=none\/E.wrB=true) (am:E.nm id=none):
  SatAt E ((S.kill id).setBlk id x) a w' I (upd ρ id u) C:=by
 have aj:E.fr ((S.kill id).setBlk id x).ghost C w':=by
  have ak:((S.kill id).setBlk id x).ghost=S.ghost:=by
   unfold AState.ghost;rw[zRY,zXY];exact yCP id _
  rw[ak];rcases hE with rfl | hE
  ·exact E.grow _ _ _ _ h.frame ⟨Z.os,Z.tape,Z.output,Z.size,λk hk=>Z.block k hk (by simp)⟩
  ·exact E.wr hE _ _ _ _ _ h.frame (Chg.of Z) (λk hk=>⟨(h.blt id k (z k hk).1 (z k hk).2).1,h.cB id k (z k hk).1 (z k hk).2,h.cellBlk (z k hk).1 (z k hk).2⟩) (λb j hi=>hs b j (h.sub b j hi))
 have blt:∀i b,S.blk i≠ .none->blockOf (ρ i)=some b->b<w.heap.size:=λi b hi hb=>(h.blt i b hi hb).2;refine⟨λt=>?_,λi=>?_,λi O b K hi ad hb=>?_,aj,h.sub,λb j hb=>⟨eP (h.old b j hb).1 Z.size,(h.old b j hb).2⟩,h.size,h.defers.keep λr hr=>(Z.block r (cU.1 hr).1 (λe=>by
  obtain⟨T,Y⟩:=z r e.symm;obtain⟨o,hc,hd⟩:=h.cellBlk T Y;rw[hc] at hr;cases hr;cases hd)).trans hr,h.cI,λi b hi hb=>?_,λi v hv hi=>?_⟩
 ·rw[zRY,zXY]
  exact(h.tmps t).upd hs (λ_ _ h=>h) id u
 ·rw[yB]
  by_cases e:id=i
  ·subst e;simpa using hx
  ·simp only[e,cY]
   rw[zGK];cases hb:S.blk i with
   | none=>trivial
   | _=>
    rw[<-hb];refine(h.blks i).upd hs (λb G=>?_) (λD=>e D.symm) u;have ab:S.blk i≠ .none:=by rw[hb];simp
    refine Z.block b (blt i b ab G) (λhe=>?_);obtain⟨T,Y⟩:=z b he.symm;exact h.dist i id b (λD=>e D.symm) ab T G Y
 ·have key:∀i,((S.kill id).setBlk id x).blk i≠ .none->i≠id->S.blk i≠ .none:=by
   intro i hi hn;rw[yB,dQ (λe=>hn e.symm),zGK] at hi;intro e;rw[e] at hi;exact hi rfl
  have H:∀i,i≠id->upd ρ id u i= ρ i:=λi hn=>by simp[upd,hn]
  have ac:upd ρ id u id=u:=by simp[upd]
  by_cases e:i=id
  ·have D:O≠id:=λD=>K (e.trans D.symm)
   subst e;rw[ac] at hb;rw[H O D];intro G;rcases hu b hb with ah | ⟨T,Y⟩
   ·have:=blt O b (key O ad D) G;omega
   ·exact h.dist i O b K T (key O ad D) Y G
  ·by_cases D:O=id
   ·subst D
    rw[H i e] at hb;rw[ac];intro G;rcases hu b G with ah | ⟨T,Y⟩
    ·have:=blt i b (key i hi e) hb;omega
    ·exact h.dist i O b K (key i hi e) T hb Y
   ·rw[H i e] at hb
    rw[H O D];exact h.dist i O b K (key i hi e) (key O ad D) hb
 ·by_cases e:i=id
  ·subst e
   have G:blockOf u=some b:=by simpa[upd] using hb
   rcases hu b G with T | ⟨T,Y⟩
   ·intro hc
    have:=E.csize _ _ _ h.frame _ hc;omega
   ·exact h.cB i b T Y
  ·refine h.cB i b ?_ (by simpa[upd,e] using hb)
   rw[yB,dQ (λD=>e D.symm),zGK] at hi;intro D;rw[D] at hi;exact hi rfl
 ·have K:i≠id:=λe=>by rw[e,am] at hv;cases hv
  have:upd ρ id u i= ρ i:=by simp[upd,K]
  rw[this];refine h.nm i v hv ?_;rw[yB,dQ (λD=>K D.symm),zGK] at hi;intro D;rw[D] at hi;exact hi rfl
open Go.RowKit
structure OneTy (P:Program) (t:TypeId):Prop where
 agg:∀w,(isAgg t).run P w= .ok false w
 size:∀w,(sizeOf t).run P w= .ok 1 w
structure AggTy (P:Program) (t n:Nat):Prop where
 agg:∀w,(isAgg t).run P w= .ok true w
 size:∀w,(sizeOf t).run P w= .ok n w
structure SlTy (P:Program) (t e size bytes:Nat) (z:Value):Prop where
 und:P.underlying t=some (.slice e)
 info:∃i,P.info? e=some i/\i.zero=some z/\i.size=size/\i.bytes=bytes
 zs:z.cells.size=size
 pos:0<size
 one:∀c∈z.cells.toList,c.oneCell'=true
theorem OneTy.of {P:Program} {t:TypeId} {ds:TypeDesc} (k:P.underlying t=some ds) (z:(match ds with | .struct _ | .array _ _=>true | _=>false)=false) (hi:(P.info? t).map (·.size)=some 1):OneTy P t:=by
 refine⟨λw=>?_,λw=>?_⟩
 · cases ds<;>simp_all [isAgg,dL k]
 ·
  cases h:P.info? t with
  | none=>simp[h] at hi
  | some i=>simp[h] at hi;simp[sizeOf,typeInfo,h,hi]
theorem AggTy.of {P:Program} {t n:Nat} {ds:TypeDesc} (k:P.underlying t=some ds) (z:(match ds with | .struct _ | .array _ _=>true | _=>false)=true) (hi:(P.info? t).map (·.size)=some n):AggTy P t n:=by
 refine⟨λw=>?_,λw=>?_⟩
 · cases ds<;>simp_all [isAgg,dL k]
 ·
  cases h:P.info? t with
  | none=>simp[h] at hi
  | some i=>simp[h] at hi;simp[sizeOf,typeInfo,h,hi]
theorem SlTy.of {P:Program} {t e size bytes:Nat} {z:Value} (H:P.underlying t=some (.slice e)) (hi:(P.info? e).map (λi=>(i.zero,i.size,i.bytes))=some (some z,size,bytes))
  (K:z.cells.size=size) (G:0<size) (k:z.cells.toList.all Value.oneCell'=true):SlTy P t e size bytes z:=by
 refine⟨H,?_,K,G,λc D=>eC.1 k c D⟩;cases h:P.info? e with
 | none=>simp[h] at hi
 | some i=>simp[h] at hi;exact⟨i,rfl,hi.1,hi.2.1,hi.2.2⟩
theorem SlTy.size {P:Program} {t e size bytes:Nat} {z:Value} (h:SlTy P t e size bytes z) (w:World):(sizeOf e).run P w= .ok size w:=by obtain⟨i,hi,_,k,_⟩:=h.info;simp[sizeOf,typeInfo,hi,k]
theorem vU (b off j:Nat):(⟨b,off,none⟩:Addr).add j=⟨b,off+j,none⟩:=by unfold Addr.add;split<;>simp_all
theorem Rep.sl_inv {w:World} {I:Im} {v:Value} {size:Nat} {cells:List DV} (h:Rep w I v (.sl size cells)):
  ∃A n c xs,v= .slice A n c/\n<=c/\cells.length=n*size/\Reps w I xs cells/\(∀x∈xs,x.oneCell'=true)/\
   (0<n->∃b off,A=some ⟨b,off,none⟩/\∀(j:Nat) x,xs[j]? =some x->w.cell? ⟨b,off+j,none⟩=some x/\I b (off+j)):=by
 cases h with
 | nil A c=>exact⟨A,0,c,[],rfl,by omega,by simp,Pw.nil,by simp,λh=>absurd h (by omega)⟩
 | sl b off n c size xs cells O k G K D z H=>exact⟨_,n,c,xs,rfl,by omega,G,⟨K,H⟩,z,λ_=>⟨b,off,rfl,D⟩⟩
theorem zFW {n m size:Nat} {cells:List DV} (h:cells.length=n*size) (k:cells.length=m*size) (z:0<size):n=m:=
 Nat.eq_of_mul_eq_mul_right z (h.symm.trans k)
section
variable {P:Program} {r:Option Nat} {E:Env} {S:AState} {d:Nat} {ty:TypeId} {pos:String} {af:Array Edge} {g:Option (Nat×Bool)}
theorem zRB (w:World) {t e:TypeId} (k:P.underlying t=some (.slice e)) (A:Option Addr) (n c:Nat) (x:Operand) (a:Act) (z:a.eval x= .slice A n c) (o:Oper)
  (h:o.op= .call {callee:= .builtin .len,args:= #[x],argTypes:= #[t]}):(execOp a.eval o).run P w= .ok (.value (.int .i64 n)) w:=by
 unfold execOp;simp only[h,resolve,eH,ey,fF,z];simp[invoke,builtin,Builtin.len_,dL k,goInt]
theorem z0V {t e size bytes:Nat} {z:Value} {x:Operand} {cells:List DV} {n:Nat} (K:d<E.n) (D:SlTy P t e size bytes z) (Y:S.ev x= .d (.sl size cells)) (H:cells.length=n*size):
  jA P r E ⟨some d,.call {callee:= .builtin .len,args:= #[x],argTypes:= #[t]},ty,pos,af,g⟩ S (S.put d (.d (.v (.int .i64 n)))):=
 k9 rfl K (by simp) λA w I ρ C O=>by
  have h:=O.ev x;rw[Y] at h;obtain⟨G,Z,c,xs,T,_,k,_⟩:=Rep.sl_inv h;obtain rfl:=zFW k H D.pos;exact zRB w D.und G Z c x A T _ rfl
theorem zV3 {t e size bytes:Nat} {z:Value} {x:Operand} {id:Nat} {sh:Bool} {cells:List DV} {n:Nat} (hn:d<E.n) (H:SlTy P t e size bytes z) (hx:S.ev x= .row id) (hb:S.blk id= .row e size sh cells) (hl:cells.length=n*size):
  jA P r E ⟨some d,.call {callee:= .builtin .len,args:= #[x],argTypes:= #[t]},ty,pos,af,g⟩ S (S.put d (.d (.v (.int .i64 n)))):=
 k9 rfl hn (by simp) λA w I ρ C O=>by
  have h:=O.ev x;rw[hx] at h;have k:=O.blks id;rw[hb] at k;obtain⟨h0,n',xs,K,D,_⟩:=k;obtain rfl:=zFW K hl H.pos;have T:A.eval x= ρ id:=h;rcases D.2 with ⟨G,rfl⟩ | ⟨gb,Y,Z,G,_⟩
  ·exact zRB w H.und _ _ _ x A (T.trans G) _ rfl
  ·exact zRB w H.und _ _ _ x A (T.trans G) _ rfl
theorem zV4 {t:TypeId} {x:Operand} {s:ByteArray} (h:d<E.n) (z:P.underlying t=some .string) (D:S.ev x= .d (.v (.string s))):
  jA P r E ⟨some d,.call {callee:= .builtin .len,args:= #[x],argTypes:= #[t]},ty,pos,af,g⟩ S (S.put d (.d (.v (.int .i64 s.size)))):=
 k9 rfl h (by simp) λAc w I ρ C k=>by
  simp only[execOp,resolve,eH,ey,fF,k.val D];simp[invoke,builtin,Builtin.len_,dL z,goInt]
theorem zHE (w:World) {t e size:Nat} (D:P.underlying t=some (.slice e)) (h:(sizeOf e).run P w= .ok size w) (b off n c:Nat) (G:IntKind) (k:Nat) (z:k<n):
  (Instr.indexAt t (.slice (some ⟨b,off,none⟩) n c) (.int G k)).run P w= .ok (.pointer (some ⟨b,off+k*size,none⟩)) w:=by
 simp[Instr.indexAt,asIntOf,dL D,h,vU,z]
theorem zV5 {t e size bytes:Nat} {z:Value} {x T:Operand} {cells:List DV} {n k:Nat} {Y:IntKind} {i:Int} (hn:d<E.n) (D:SlTy P t e size bytes z) (hx:S.ev x= .d (.sl size cells))
  (hi:S.ev T= .d (.v (.int Y i))) (hk:i=(k:Int)) (hl:cells.length=n*size) (K:k<n):
  jA P r E ⟨some d,.indexAddr t x T,ty,pos,af,g⟩ S (S.put d (.ip cells (k*size))):=
 zQ rfl hn (by simp) λA w I ρ C O=>by
  subst hk;have h:=O.ev x;rw[hx] at h;obtain⟨A',n',c,xs,hv,_,H,hr,Z,hc⟩:=Rep.sl_inv h;obtain rfl:=zFW H hl D.pos;obtain⟨b,off,rfl,G⟩:=hc (by omega);refine⟨_,?_,b,off,xs,rfl,hr,Z,G⟩;simp only[execOp,hv,O.val hi,cW,zHE w D.und (D.size w) b off n' c Y k K];rfl
theorem zR0 {t e size bytes:Nat} {z:Value} {x ix:Operand} {id:Nat} {sh:Bool} {cells:List DV} {n k:Nat} {kk:IntKind} {i:Int} (hn:d<E.n) (T:SlTy P t e size bytes z) (hx:S.ev x= .row id)
  (hb:S.blk id= .row e size sh cells) (hi:S.ev ix= .d (.v (.int kk i))) (hk:i=(k:Int)) (hl:cells.length=n*size) (G:k<n):
  jA P r E ⟨some d,.indexAddr t x ix,ty,pos,af,g⟩ S (S.put d (.ptr id (k*size))):=
 zQ rfl hn (by simp) λA w I ρ C Z=>by
  subst hk;have h:=Z.ev x;rw[hx] at h;have hv:A.eval x= ρ id:=h;have D:=Z.blks id;rw[hb] at D;obtain⟨h0,n',xs,Y,H,_⟩:=D;obtain rfl:=zFW Y hl T.pos;rcases H.2 with ⟨O,rfl⟩ | ⟨gb,K,ad,O,_⟩
  ·exact absurd G (by omega)
  ·refine⟨_,?_,gb,by rw[O];rfl,rfl⟩
   simp only[execOp,hv,O,Z.val hi,cW,zHE w T.und (T.size w) gb 0 n' K kk k G];simp
theorem zFG (w:World) {t:TypeId} (h:OneTy P t) (b off:Nat) (v:Value) (k:w.cell? ⟨b,off,none⟩=some v):(Instr.loadAt t (.pointer (some ⟨b,off,none⟩))).run P w= .ok v w:=by simp[Instr.loadAt,Instr.sureAddr,loadVar,h.agg,run_load,k]
theorem zCE (w:World) {t n:Nat} (h:AggTy P t n) (b off:Nat) (vs:List Value) (D:vs.length=n) (k:∀j v,vs[j]? =some v->w.cell? ⟨b,off+j,none⟩=some v):
  (Instr.loadAt t (.pointer (some ⟨b,off,none⟩))).run P w= .ok (.agg vs.toArray) w:=by
 subst D;have:=run_loadCells_list (P:=P) w ⟨b,off,none⟩ vs (λj v z=>by rw[vU];exact k j v z)
 simp[Instr.loadAt,Instr.sureAddr,loadVar,h.agg,h.size,this]
theorem zV6 {t:TypeId} {x:Operand} {cells:List DV} {off:Nat} {e:DV} (O:d<E.n) (K:OneTy P t) (Z:S.ev x= .ip cells off) (G:cells[off]? =some e):
  jA P r E ⟨some d,.load t x,ty,pos,af,g⟩ S (S.put d (.d e)):=
 zQ rfl O (by simp) λA w I ρ C T=>by
  have h:=T.ev x;rw[Z] at h;obtain⟨b,o,xs,Y,H,h1,z⟩:=h;have D:off<xs.length:=by rw[H.1];exact(c9.1 G).1
  have k:=cV D;refine⟨xs[off],?_,H.2 off _ e k G⟩;simp only[execOp,Y,cW,zFG w K b (o+off) _ (z off _ k).1];rfl
theorem zTV {t n:Nat} {x:Operand} {cells:List DV} {off:Nat} {es:List DV} (hn:d<E.n) (hT:AggTy P t n) (k:S.ev x= .ip cells off) (O:(cells.drop off).take n=es) (T:es.length=n):
  jA P r E ⟨some d,.load t x,ty,pos,af,g⟩ S (S.put d (.d (.agg es))):=
 zQ rfl hn (by simp) λA w I ρ C hs=>by
  have h:=hs.ev x;rw[k] at h;obtain⟨b,o,xs,hv,Y,Z,H⟩:=h;have z:((xs.drop off).take n).length=n:=by
   have:((cells.drop off).take n).length=n:=by rw[O];exact T
   simp only[d9,eM] at this ⊢;rw[Y.1];exact this
  refine⟨.agg ((xs.drop off).take n).toArray,?_,.agg _ _ (by rw[z,T]) (λx k=>Z x (eU (eF k))) (λj x e k G=>?_)⟩
  ·simp only[execOp,hv,cW]
   rw[zCE w hT b (o+off) _ z]
   ·rfl
   ·intro j v D
    rw[d8] at D;split at D
    ·rw[eO] at D
     rw[gv];exact(H _ v D).1
    ·cases D
  ·subst O
   rw[d8] at k G;split at k
   ·rename_i K
    rw[dK K] at G;rw[eO] at k G;exact Y.2 _ x e k G
   ·cases k
theorem zTW {t:TypeId} {x:Operand} {id off eb:Nat} {cells:List AV} {av:AV} (hn:d<E.n) (Z:OneTy P t) (hx:S.ev x= .ptr id off) (hb:S.blk id= .box eb cells) (O:cells[off]? =some av):
  jA P r E ⟨some d,.load t x,ty,pos,af,g⟩ S (S.put d av):=
 zQ rfl hn (by simp) λA w I ρ C Y=>by
  have h:=Y.ev x;rw[hx] at h;obtain⟨b,k,hv⟩:=h;have z:=Y.blks id;rw[hb] at z;obtain⟨K,arr,G,hB,hh,h1,T,hI⟩:=z;rw[G] at k;simp[blockOf] at k;subst k;have D:off<arr.size:=by rw[<-eK,T.1];exact(c9.1 O).1
  have H:arr[off]? =some arr[off]:=fJ D;refine⟨arr[off],?_,T.2 off _ av (by simp[D]) O⟩;simp only[execOp,hv,cW];rw[zFG w Z K off arr[off] (by rw[e7 w K off arr eb (0,0) hh];exact H)]
  rfl
theorem zUK {w:World} {I:Im} {ρ:Nat->Value} {M:Nat->Prop} {id e size:Nat} {Y:Bool} {cells:List DV} (h:BlkOk w I ρ M id (.row e size Y cells)) {b:Nat} (hb:blockOf (ρ id)=some b):
  ∃xs,Reps w I xs cells/\(∀x∈xs,x.oneCell'=true)/\∀(j:Nat) x,xs[j]? =some x->w.cell? ⟨b,j,none⟩=some x:=by
 obtain⟨Z,n',xs,O,k,z,T,_⟩:=h;refine⟨xs,T,z,λj x K=>?_⟩;rcases k.2 with ⟨z,rfl⟩ | ⟨H,D,G,z,_⟩
 ·rw[z] at hb;cases hb
 ·rw[z] at hb
  simp[blockOf] at hb;subst hb;have:=k.cells (g:=H) (by rw[z];rfl) j x K
  rw[vU] at this;simpa using this
theorem zTX {t:TypeId} {x:Operand} {id off e size:Nat} {sh:Bool} {cells:List DV} {y:DV} (Z:d<E.n) (Y:OneTy P t) (hx:S.ev x= .ptr id off) (hb:S.blk id= .row e size sh cells) (K:cells[off]? =some y):
  jA P r E ⟨some d,.load t x,ty,pos,af,g⟩ S (S.put d (.d y)):=
 zQ rfl Z (by simp) λA w I ρ C T=>by
  have h:=T.ev x;rw[hx] at h;obtain⟨b,H,hv⟩:=h;have k:=T.blks id;rw[hb] at k;obtain⟨xs,O,h1,D⟩:=zUK k H;have G:off<xs.length:=by rw[O.1];exact(c9.1 K).1
  have z:=cV G;refine⟨xs[off],?_,O.2 off _ y z K⟩;simp only[execOp,hv,cW,zFG w Y b off _ (D off _ z)];rfl
theorem zR1 {t n:Nat} {x:Operand} {id off e size:Nat} {sh:Bool} {cells es:List DV} (hn:d<E.n) (hT:AggTy P t n) (k:S.ev x= .ptr id off) (hb:S.blk id= .row e size sh cells)
  (Y:(cells.drop off).take n=es) (Z:es.length=n):
  jA P r E ⟨some d,.load t x,ty,pos,af,g⟩ S (S.put d (.d (.agg es))):=
 zQ rfl hn (by simp) λA w I ρ C hs=>by
  have h:=hs.ev x;rw[k] at h;obtain⟨b,T,hv⟩:=h;have D:=hs.blks id;rw[hb] at D;obtain⟨xs,hr,h1,K⟩:=zUK D T;have z:((xs.drop off).take n).length=n:=by
   have:((cells.drop off).take n).length=n:=by rw[Y];exact Z
   simp only[d9,eM] at this ⊢;rw[hr.1];exact this
  refine⟨.agg ((xs.drop off).take n).toArray,?_,.agg _ _ (by rw[z,Z]) (λx k=>h1 x (eU (eF k))) (λj x e k H=>?_)⟩
  ·simp only[execOp,hv,cW]
   rw[zCE w hT b off _ z]
   ·rfl
   ·intro j v G
    rw[d8] at G;split at G
    ·rw[eO] at G
     exact K _ v G
    ·cases G
  ·subst Y
   rw[d8] at k H;split at k
   ·rename_i O
    rw[dK O] at H;rw[eO] at k H;exact hr.2 _ x e k H
   ·cases k
theorem zER {o:Oper} {S':AState} (z:o.dst=none) (k:∀c,o.op≠ .defer c)
  (h:∀a w I ρ C,SatAt E S a w I ρ C->∃w',(execOp a.eval o).run P w= .ok .skip w'/\Sat E S' a w'):jA P r E o S S':=by
 rintro a w K Q ⟨I,ρ,C,H⟩ D
 obtain⟨w',G,O⟩:=h a w I ρ C H;refine⟨λf _=>trivial,?_⟩;rw[Oper.semAt_eq _ _ _ k,G];refine D _ _ ?_;rw[z];exact O
theorem zIK {v:Value} (h:v.oneCell'=true):v.cells= #[v]:=by cases v<;>simp_all [Value.oneCell',Value.cells]
theorem zR2 (w:World) {t:TypeId} (D:OneTy P t) {b off e:Nat} {arr:Array Value} {v:Value} (G:w.heap[b]? =some (.cells arr e (0,0))) (h:off<arr.size) (k:v.oneCell'=true):
  (Instr.storeAt t (.pointer (some ⟨b,off,none⟩)) v).run P w= .ok () (w.setRow b (arr.toList.set off v).toArray):=by
 have:=run_storeCells_at P b off e [v] 0 arr w G (by simp;omega) (by simpa using k)
 have z:arr.toList.take off++ [v]++arr.toList.drop (off+1)=arr.toList.set off v:=by
  rw[gx,dK (by simpa using h)];simp
 simp only[fH,gW,z] at this;simp[Instr.storeAt,Instr.sureAddr,storeVar,D.size,zIK k,this]
theorem zR3 (w:World) {t n:Nat} (z:AggTy P t n) {b off e:Nat} {arr:Array Value} {vs:List Value} (D:w.heap[b]? =some (.cells arr e (0,0))) (h:off+n<=arr.size) (G:vs.length=n) (k:∀v∈vs,v.oneCell'=true):
  (Instr.storeAt t (.pointer (some ⟨b,off,none⟩)) (.agg vs.toArray)).run P w= .ok () (w.setRow b (arr.toList.take off++vs++arr.toList.drop (off+n)).toArray):=by
 subst G;have:=run_storeCells_at P b off e vs 0 arr w D (by simpa using h) k;simp only[fH] at this;simp only[Instr.storeAt,Instr.sureAddr,storeVar,cW,dU,cX,z.size,Value.cells];simp[this]
theorem zAV (w:World) (b:Nat) (arr:Array Value):w.grownBy (w.setRow b arr) (some b):=
 ⟨rfl,rfl,rfl,by simp,λk _ h=>setRow_other w b k arr (λe=>h (by rw[e]))⟩
theorem wO {w:World} {I:Im} {b:Nat} {arr:Array Value} (h:∀j,¬I b j):Same I w (w.setRow b arr):=by intro k j hi;have:k≠b:=λe=>h j (e▸hi);exact KeepB.of (setRow_other w b k arr this)
def AV.one:AV->Bool
 | .d (.v u)=>u.oneCell'
 | .d (.sl _ _)=>true
 | .d (.pt _)=>true
 | .d (.fn _ _)=>true
 | .d (.bm _ _)=>true
 | .d (.mp _ _)=>true
 | .row _=>true
 | .ptr _ _=>true
 | .clo _ _=>true
 | _=>false
theorem zMU {w:World} {I:Im} {ρ:Nat->Value} {M:Nat->Prop} {S:AState} (hb:∀id,BlkOk w I ρ M id (S.blk id)) {v:Value} {av:AV} (h:Holds w I ρ v av) (T:av.one=true)
  (hr:∀id,av= .row id->S.blk id≠ .none):v.oneCell'=true:=by
 cases av with
 | d x=>
  cases x with
  | v u=>cases h;simpa[AV.one] using T
  | sl s c=>obtain⟨A,n,c,xs,rfl,_⟩:=Rep.sl_inv h;rfl
  | agg c=>simp[AV.one] at T
  | pt c=>cases h;rfl
  | fn f c=>cases h;rfl
  | bm f c=>cases h;rfl
  | mp ks vs=>cases h;rfl
 | row id=>
  have G:v= ρ id:=h;have z:=hb id;cases K:S.blk id with
  | none=>exact absurd K (hr id rfl)
  | row e size sh cells=>
   rw[K] at z;obtain⟨_,n,xs,hl,O,_⟩:=z;rcases O.2 with ⟨D,_⟩ | ⟨g,ab,ac,D,_⟩<;>rw[G,D]<;>rfl
  | box e cells=>
   rw[K] at z;obtain⟨Y,arr,D,_⟩:=z;rw[G,D];rfl
  | map es=>
   rw[K] at z;obtain⟨Y,ents,H,D,_⟩:=z;rw[G,D];rfl
  | it es q=>
   rw[K] at z;obtain⟨Y,bm,ents,H,aa,D,_⟩:=z;rw[G,D];rfl
  | win e size k cells=>
   rw[K] at z;obtain⟨A,n,c,xs,D,_⟩:=z;rw[G,D];rfl
 | ptr id off=>obtain⟨b,_,G⟩:=h;rw[G];rfl
 | clo f Z=>obtain⟨xs,G,_⟩:=h;rw[G];rfl
 | _=>simp[AV.one] at T
def zQA (S:AState):AV->Bool
 | .row id=>match S.blk id with | .none=>false | _=>true
 | _=>true
theorem zI3 {S:AState} {av:AV} (h:zQA S av=true):∀id,av= .row id->S.blk id≠ .none:=by
 rintro id rfl e
 simp[zQA,e] at h
theorem zGL {t:TypeId} {x y:Operand} {id off eb:Nat} {cells:List AV} (hT:OneTy P t) (hx:S.ev x= .ptr id off) (hb:S.blk id= .box eb cells) (ab:off<cells.length)
  (h1:(S.ev y).one=true) (hr:zQA S (S.ev y)=true) (hE:E.wrB=true):
  jA P r E ⟨none,.store t x y,ty,pos,af,g⟩ S (S.setBlk id (.box eb (cells.set off (S.ev y)))):=
 zER rfl (by simp) λA w I ρ C T=>by
  have h:=T.ev x;rw[hx] at h;obtain⟨b,D,hv⟩:=h;have H:=T.blks id;rw[hb] at H;obtain⟨G,arr,z,hB,hh,Z,O,Y⟩:=H;have aa:G=b:=by rw[z] at D;simpa[blockOf] using D
  subst aa;have hy:=T.ev y;have k:=zMU T.blks hy h1 (zI3 hr);have K:off<arr.size:=by rw[<-eK,O.1];exact ab
  refine⟨w.setRow G (arr.toList.set off (A.eval y)).toArray,?_,I,ρ,C,T.modify (zAV w G _) (by rw[hb];simp) D (wO Y) ⟨G,_,z,hB,ic w G arr _ eb _ hh,?_,?_,Y⟩ hE⟩
  ·simp only[execOp,hv,cW,zR2 w hT hh K k]
   rfl
  ·intro u hu
   simp only at hu;rcases gt hu with hu | hu
   ·exact Z u hu
   ·rw[hu];exact k
  ·exact(O.imp λ_ _ h=>h.mono (wO Y) (λ_ _ h=>h)).set (hy.mono (wO Y) (λ_ _ h=>h)) off
theorem zR4 {t:TypeId} {x y:Operand} {id off e size:Nat} {cells:List DV} {u:DV} (hT:OneTy P t) (hx:S.ev x= .ptr id off) (hb:S.blk id= .row e size false cells) (ab:off<cells.length)
  (hy:S.ev y= .d u) (h1:(AV.d u).one=true) (hE:E.wrB=true):
  jA P r E ⟨none,.store t x y,ty,pos,af,g⟩ S (S.setBlk id (.row e size false (cells.set off u))):=
 zER rfl (by simp) λA w I ρ C hs=>by
  have h:=hs.ev x;rw[hx] at h;obtain⟨b,k,hv⟩:=h;have Z:=hs.blks id;rw[hb] at Z;obtain⟨h0,n,xs,hl,G,ai,al,hI⟩:=Z;have T:=hs.ev y;rw[hy] at T;have D:=zMU hs.blks T h1 (by intro _ e;cases e)
  rcases G.2 with ⟨Y,_⟩ | ⟨K,ah,H,Y,hB,hh,ad,ak,aa,am⟩
  ·rw[Y] at k;cases k
  ·have aj:K=b:=by rw[Y] at k;simpa[blockOf] using k
   subst aj;have z:∀j,¬I K j:=λj hj=>by have:=(hI K j (by rw[Y];rfl) hj).1;cases this
   have ao:xs.length=n*size:=G.1;have ac:off<H.size:=by rw[aa];rw[hl] at ab;exact eP ab (dY _ ad)
   refine⟨w.setRow K (H.toList.set off (A.eval y)).toArray,?_,I,ρ,C,hs.modify (zAV w K _) (by rw[hb];simp) k (wO z) ⟨h0,n,xs.set off (A.eval y),by simp[hl],⟨by simp[ao],.inr ⟨K,ah,_,Y,hB,ic w K H _ e _ hh,ad,ak,?_,?_⟩⟩,?_,?_,?_⟩ hE⟩
   ·simp only[execOp,hv,cW,zR2 w hT hh ac D]
    rfl
   ·simp[aa]
   ·simp only[List.take_set,am]
   ·intro v an
    rcases gt an with hu | hu
    ·exact ai v hu
    ·rw[hu];exact D
   ·exact(al.imp λ_ _ h=>h.mono (wO z) (λ_ _ h=>h)).set (Rep.mono T (wO z) (λ_ _ h=>h)) off
   ·intro g' j O hi
    rw[Y] at O;simp[Value.ownBlock] at O;subst O;exact absurd hi (z j)
theorem zR5 (w:World) (o:Obj) {b:Nat} (h:b<w.heap.size):(w.alloc o).heap[b]? =w.heap[b]?:=(World.grownBy_alloc w o none).block b h (by simp)
theorem zGM (w:World) (o:Obj):w.grownBy (w.alloc o) none:=World.grownBy_alloc w o none
theorem zDN {w:World} {I:Im} (o:Obj) (h:∀b j,I b j->b<w.heap.size):Same I w (w.alloc o):=λb j hi=>KeepB.of (zR5 w o (h b j hi))
theorem SatAt.newRow {A:Act} {w:World} {I:Im} {ρ:Nat->Value} {C:Nat->Prop} (O:SatAt E S A w I ρ C) {id e size n c:Nat} {xs rest:List Value} {cells:List DV} (hp:0<size) (T:cells.length=n*size) (hc:n<=c) (G:c<=maxLen)
  (hr:rest.length=(c-n)*size) (z:Reps w I xs cells) (h1:∀x∈xs,x.oneCell'=true) (K:E.nm id=none):
  SatAt E ((S.kill id).setBlk id (.row e size false cells)) A (w.alloc (.cells (xs++rest).toArray e)) I (upd ρ id (.slice (some ⟨w.heap.size,0,none⟩) n c)) C:=by
 have D:∀b j,I b j->b<w.heap.size:=λb j h=>(O.old b j h).1;have k:xs.length=n*size:=by rw[z.1,T]
 refine O.update (zGM w _) (by simp) (zDN _ D) (λb hb=> .inl (by simp[blockOf] at hb;omega)) ⟨⟨hp,λg hg=>E.mineB g (by simp[upd,Value.ownBlock] at hg;have:=E.size _ _ _ O.frame;omega)⟩,n,xs,T,?_,h1,z.mono (zDN _ D) (λ_ _ h=>h),?_⟩ (.inl rfl) K
 ·have Y:upd ρ id (.slice (some ⟨w.heap.size,0,none⟩) n c) id= .slice (some ⟨w.heap.size,0,none⟩) n c:=by simp[upd]
  rw[Y];refine⟨k,.inr ⟨w.heap.size,c,_,rfl,g7 _,g8 w _,hc,G,?_,?_⟩⟩
  ·simp only[fZ,cZ,k,hr,<-eG]
   congr 1;omega
  ·rw[<-k]
   exact gN
 ·intro Z j H hi
  simp[upd,Value.ownBlock] at H;have:=D Z j hi;omega
theorem SatAt.newBox {A:Act} {w:World} {I:Im} {ρ:Nat->Value} {C:Nat->Prop} (O:SatAt E S A w I ρ C) {id e:Nat} {arr:Array Value} {cells:List AV} (z:Pw (Holds w I ρ) arr.toList cells) (T:∀x∈arr.toList,x.oneCell'=true) (K:E.nm id=none):
  SatAt E ((S.kill id).setBlk id (.box e (cells.map (zDM id)))) A (w.alloc (.cells arr e)) I (upd ρ id (.pointer (some ⟨w.heap.size,0,none⟩))) C:=by
 have G:∀b j,I b j->b<w.heap.size:=λb j h=>(O.old b j h).1;refine O.update (zGM w _) (by simp) (zDN _ G) (λb hb=> .inl (by simp[blockOf] at hb;omega)) ⟨w.heap.size,arr,by simp[upd],E.mineB _ (E.size _ _ _ O.frame),g8 w _,T,⟨by simpa using z.1,λj x av Z k=>?_⟩,λj Y=>by have:=G _ j Y;omega⟩ (.inl rfl) K
 rw[dX] at k;cases H:cells[j]? with
 | none=>simp[H] at k
 | some D=>
  simp[H] at k;subst k;exact(z.2 j x D Z H).upd (zDN _ G) (λ_ _ h=>h) id _
def dvs (vs:List Value):List AV:=vs.map λv=> .d (.v v)
theorem z4R (w:World) (I:Im) (ρ:Nat->Value) (vs:List Value):Pw (Holds w I ρ) vs (dvs vs):=by refine⟨by simp[dvs],λj x y k h=>?_⟩;simp[dvs,k] at h;subst h;exact .v x
theorem z7H (id:Nat) (vs:List Value):(dvs vs).map (zDM id)=dvs vs:=by simp[dvs,zDM,AV.mentions]
theorem yN {h:TypeId} {zs:List Value} (K:d<E.n) (D:((P.info? h).bind (·.zero)).map (·.cells.toList)=some zs) (H:zs.all Value.oneCell'=true) (G:E.nm d=none):
    jA P r E ⟨some d,.alloc h,ty,pos,af,g⟩ S (((S.kill d).setBlk d (.box h (dvs zs))).put d (.ptr d 0)):=
  uE (by simp) λA w I ρ C O=>by
    cases hi:P.info? h with
    | none=>simp[hi] at D
    | some i=>
      cases k:i.zero with
      | none=>simp[hi,k] at D
      | some z=>
        simp[hi,k] at D;have hb:=O.newBox (id:=d) (e:=h) (arr:=z.cells) (cells:=dvs zs) (by rw[D];exact z4R _ _ _ _) (by rw[D];exact λx T=>eC.1 H x T) G
        rw[z7H] at hb;refine⟨.pointer (some ⟨w.heap.size,0,none⟩),w.alloc (.cells z.cells h),?_,I,_,C,hb.put K ⟨w.heap.size,by simp[upd,blockOf],rfl⟩⟩;simp[execOp,Instr.alloc,zeroValue,typeInfo,hi,k,newVar,newRow]
end
open Go.RowKit
def AState.dv (S:AState):AV->Option DV
 | .d x=>some x
 | .row id=>match S.blk id with
  | .row _ size _ cells=>some (.sl size cells)
  | _=>none
 | _=>none
def AState.shareAV (S:AState):AV->AState
 | .row id=>match S.blk id with
  | .row e size _ cells=>S.setBlk id (.row e size true cells)
  | _=>S
 | _=>S
theorem zTY {w:World} {B e size n:Nat} {v:Value} {xs:List Value} (h:w.ownsRow B e size v n xs) {b:Nat} (hb:v.ownBlock=some b):∃arr D G,w.heap[b]? =some (.cells arr D G):=by rcases h.2 with ⟨K,_⟩ | ⟨g,k,z,O,T,H,_⟩;rw[K] at hb;simp[Value.ownBlock] at hb;rw[O] at hb;simp[Value.ownBlock] at hb;subst hb;exact⟨_,_,_,H⟩
theorem kM (I:Im) (w:World):Same I w w:=λ_ _ _=>KeepB.refl
theorem SatAt.shareRow {E:Env} {S:AState} {a:Act} {w:World} {I:Im} {ρ:Nat->Value} {C:Nat->Prop} (h:SatAt E S a w I ρ C) {id e size:Nat} {sh:Bool} {cells:List DV} (hb:S.blk id= .row e size sh cells):
  ∃O:Im,(∀b j,I b j->O b j)/\SatAt E (S.setBlk id (.row e size true cells)) a w O ρ C/\Rep w O (ρ id) (.sl size cells):=by
 have hk:=h.blks id;rw[hb] at hk;obtain⟨hp,n,xs,T,G,h1,H,hI⟩:=hk;have z:S.blk id≠ .none:=by rw[hb];simp
 let O:Im:=λb j=>I b j\/((ρ id).ownBlock=some b/\j<cells.length)
 have k:∀b j,I b j->O b j:=λb j hi=> .inl hi;refine⟨O,k,⟨λt=>(h.tmps t).mono (kM I w) k,λi=>?_,λi i' b K hi ab=>?_,h.frame,λb j hi=>k b j (h.sub b j hi),λb j hi=>?_,h.size,h.defers,λb j hi=>?_,λi b hi Z=>?_,λi v hv hi=>h.nm i v hv ?_⟩,?_⟩
 ·rw[yB]
  by_cases D:id=i
  ·subst D
   simp only[dH];refine⟨hp,n,xs,T,G,h1,H.mono (kM I w) k,λg j hg hi=>⟨rfl,?_⟩⟩;rcases hi with hi | ⟨_,hi⟩
   ·exact(hI g j hg hi).2
   ·exact hi
  ·simp only[D,cY]
   refine(h.blks i).widenI k λb j hx aa hi=>?_;rcases hi with hi | ⟨hi,_⟩
   ·exact hi
   ·exact absurd aa (h.dist id i b D z hx (zAF hi))
 ·have key:∀i,(S.setBlk id (.row e size true cells)).blk i≠ .none->S.blk i≠ .none:=by
   intro i hi;rw[yB] at hi;by_cases D:id=i
   ·subst D;exact z
   ·simpa[D] using hi
  exact h.dist i i' b K (key i hi) (key i' ab)
 ·rcases hi with hi | ⟨hi,_⟩
  ·exact h.old b j hi
  ·have:=h.blt id b z (zAF hi)
   exact⟨this.2,.inr this.1⟩
 ·rcases hi with hi | ⟨hi,_⟩
  ·exact h.cI b j hi
  ·exact h.cB id b z (zAF hi)
 ·refine h.cB i b ?_ Z
  rw[yB] at hi;by_cases D:id=i
  ·subst D;exact z
  ·simpa[D] using hi
 ·rw[yB] at hi
  by_cases D:id=i
  ·subst D;exact z
  ·simpa[D] using hi
 ·rcases G.2 with ⟨K,rfl⟩ | ⟨gb,Y,ak,K,hB,hh,ac,an,ao,ar⟩
  ·have:cells= []:=cS (by simpa using T)
   subst this;rw[K];exact .nil _ _ _
  ·rw[K]
   by_cases h0:n=0
   ·subst h0
    have:cells= []:=cS (by simpa using T);subst this;exact .nil _ _ _
   ·refine .sl gb 0 n Y size xs cells (by omega) ac T H.1 (λj x hj=>⟨?_,.inr ⟨by rw[K];rfl,?_⟩⟩) h1 (H.mono (kM I w) k).2
    ·have:=G.cells (g:=gb) (by rw[K];rfl) j x hj
     rw[vU] at this;exact this
    ·rw[<-H.1,eD]
     exact(c9.1 hj).1
theorem SatAt.dv {E:Env} {S:AState} {a:Act} {w:World} {I:Im} {ρ:Nat->Value} {C:Nat->Prop} (h:SatAt E S a w I ρ C) {v:Value} {x:AV} {y:DV} (K:Holds w I ρ v x) (D:S.dv x=some y):
  ∃G:Im,(∀b j,I b j->G b j)/\SatAt E (S.shareAV x) a w G ρ C/\Rep w G v y:=by
 cases x with
 | d z=>simp[AState.dv] at D;subst D;exact⟨I,λ_ _ h=>h,h,K⟩
 | row id=>
  simp only[AState.dv] at D;cases hb:S.blk id with
  | row e size Z cells=>
   rw[hb] at D;simp at D;subst D;obtain⟨G,O,T,Y⟩:=h.shareRow hb;have H:v= ρ id:=K;refine⟨G,O,?_,by rw[H];exact Y⟩
   simp only[AState.shareAV,hb];exact T
  | none=>rw[hb] at D;simp at D
  | box e c=>rw[hb] at D;simp at D
  | map es=>rw[hb] at D;simp at D
  | it es q=>rw[hb] at D;simp at D
  | win e s k c=>rw[hb] at D;simp at D
 | _=>simp[AState.dv] at D
theorem zR6 (S:AState) (x y:AV):(S.shareAV x).dv y=S.dv y:=by
 unfold AState.shareAV;split;rename_i id;split;rename_i e size k cells hb;cases y with
 | row i=>
  simp only[AState.dv,yB];by_cases h:id=i;subst h;simp[hb];simp[h]
 | _=>rfl
 rfl;rfl
def AState.dvL (S:AState):List AV->Option (List DV)
 | []=>some []
 | x::r=>match S.dv x,S.dvL r with
  | some y,some ys=>some (y::ys)
  | _,_=>none
def AState.shareL (S:AState):List AV->AState
 | []=>S
 | x::r=>(S.shareAV x).shareL r
theorem zUL (S:AState) (x:AV) (l:List AV):(S.shareAV x).dvL l=S.dvL l:=by
 induction l with
 | nil=>rfl
 | cons y l h=>simp only[AState.dvL,zR6,h]
theorem SatAt.dvL {E:Env} {a:Act} {w:World} {ρ:Nat->Value} {C:Nat->Prop} (l:List AV):∀{S:AState} {I:Im} (_:SatAt E S a w I ρ C) {vs:List Value} {ds:List DV} (_:Pw (Holds w I ρ) vs l) (_:S.dvL l=some ds),
  ∃H:Im,(∀b j,I b j->H b j)/\SatAt E (S.shareL l) a w H ρ C/\Reps w H vs ds:=by
 induction l with
 | nil=>
  intro S I h vs ds D k;simp[AState.dvL] at k;subst k;have:vs= []:=cS D.1;subst this;exact⟨I,λ_ _ h=>h,h,Pw.nil⟩
 | cons x l ih=>
  intro S I h vs ds D k;cases vs with
  | nil=>have:=D.1;simp at this
  | cons v vs=>
   simp only[AState.dvL] at k;cases G:S.dv x with
   | none=>simp[G] at k
   | some y=>
    cases K:S.dvL l with
    | none=>simp[G,K] at k
    | some ys=>
     simp[G,K] at k;subst k;obtain⟨T,Y,h2,h3⟩:=h.dv (D.2 0 v x rfl rfl) G;have O:Pw (Holds w T ρ) vs l:=⟨by have:=D.1;simpa using this,λj u z hu hz=>(D.2 (j+1) u z (by simpa using hu) (by simpa using hz)).mono (kM I w) Y⟩
     obtain⟨I2,Z,h5,h6⟩:=ih h2 O (by rw[zUL];exact K)
     exact⟨I2,λb j hi=>Z b j (Y b j hi),h5,Pw.cons (h3.mono (kM T w) Z) h6⟩
def zXZ (w:World) (I:Im) (v:Value):List DV->Prop
 | [y]=>Rep w I v y
 | ys=> ∃xs,v= .tuple xs.toArray/\Reps w I xs ys
def gdNames:List (String×List Value):=[("unicodetext/ordering.hangulRanges",[.int .i64 4352,.int .i64 4370,.int .i64 4449,.int .i64 4469,.int .i64 4520,.int .i64 4546,.int .i64 44032,.int .i64 55203]),("internal/strconv.uint64pow10",[.int .u64 1,.int .u64 10,.int .u64 100,.int .u64 1000,.int .u64 10000,.int .u64 100000,.int .u64 1000000,.int .u64 10000000,.int .u64 100000000,.int .u64 1000000000,.int .u64 10000000000,.int .u64 100000000000,.int .u64 1000000000000,.int .u64 10000000000000,.int .u64 100000000000000,.int .u64 1000000000000000,.int .u64 10000000000000000,.int .u64 100000000000000000,.int .u64 1000000000000000000,.int .u64 10000000000000000000])]
def zAU (P:Program) (g:Nat):Option (List Value):=(gdNames.find? λp=>P.globalNamed p.1==some g).map Prod.snd
def zH (P:Program) (f:FuncId) (ds z:List DV):Prop:=
 (∃k,P.funcs[f]? =some k/\(k.name== "runtime.NumGoroutine")=false/\k.body.isNone=false)/\
 ∀(w:World) (I:Im) (vs:List Value),(∀b j,I b j->b<w.heap.size)->GlI (zAU P) w I->Reps w I vs ds->
  Calls P f vs.toArray w λe w'=> ∃v h,e= .returned v/\Below w.heap.size w w'/\(∀b j,I b j->h b j)/\(∀b j,h b j->b<w'.heap.size/\(I b j\/w.heap.size<=b))/\zXZ w' h v z
def zR7:List DV->AV
 | [y]=> .d y
 | ys=> .tup ys
theorem zHF {w:World} {I:Im} {ρ:Nat->Value} {v:Value}:∀{k:List DV},zXZ w I v k->Holds w I ρ v (zR7 k)
 | [],h=>h
 | [_],h=>h
 | _::_::_,h=>h
section
variable {P:Program} {r:Option Nat} {E:Env} {S:AState} {d:Nat} {ty:TypeId} {pos:String} {af:Array Edge} {g:Option (Nat×Bool)}
theorem SatAt.widen {a:Act} {w:World} {I D:Im} {ρ:Nat->Value} {C:Nat->Prop} {B:Nat} (h:SatAt E S a w I ρ C) (z:∀b j,I b j->D b j) (k:∀b j,D b j->b<w.heap.size/\(I b j\/B<=b))
  (H:∀i b,S.blk i≠ .none->blockOf (ρ i)=some b->b<B) (O:E.B<=B) (K:∀b,C b->b<B):SatAt E S a w D ρ C:=by
 refine⟨λt=>(h.tmps t).mono (kM I w) z,λi=>?_,h.dist,h.frame,λb j hi=>z b j (h.sub b j hi),λb j hi=>⟨(k b j hi).1,?_⟩,h.size,h.defers,λb j hi=>?_,h.cB,h.nm⟩
 ·refine(h.blks i).widenI z λb j Y G hi=>?_
  rcases (k b j hi).2 with hi | hi
  ·exact hi
  ·have:=H i b Y G;omega
 ·rcases (k b j hi).2 with hi | hi
  ·exact(h.old b j hi).2
  ·exact .inr (E.mineB b (by omega))
 ·rcases (k b j hi).2 with hi | hi
  ·exact h.cI b j hi
  ·intro T;have:=K b T;omega
theorem uB {A:Act} {w:World} {I:Im} {ρ:Nat->Value} {C:Nat->Prop} (h:SatAt E S A w I ρ C) (xs:List Operand):Pw (Holds w I ρ) (xs.map A.eval) (xs.map S.ev):=by
 induction xs with
 | nil=>exact Pw.nil
 | cons x xs k=>exact Pw.cons (h.ev x) k
theorem zUM {f:FuncId} {xs:List Operand} {ats:Array TypeId} {ds rs:List DV} (hn:d<E.n) (ab:S.dvL (xs.map S.ev)=some ds) (Z:zH P f ds rs) (hG:E.gdt=zAU P:=by rfl):
  jA P r E ⟨some d,.call {callee:= .value (.func f),args:=xs.toArray,argTypes:=ats},ty,pos,af,g⟩ S ((S.shareL (xs.map S.ev)).put d (zR7 rs)):=by
 rintro A w K Q ⟨I,ρ,C,hs⟩ hk
 obtain⟨⟨fn,hf,z,h⟩,k⟩:=Z;obtain⟨I1,h1,D,h3⟩:=SatAt.dvL _ hs (uB hs xs) ab;have aa:=k w I1 (xs.map A.eval) (λb j hi=>(D.old b j hi).1) (hG▸D.gl) h3;refine⟨λf _=>trivial,?_⟩;rw[Oper.semAt_eq _ _ _ (by simp)];have O:(execOp A.eval ⟨some d,.call {callee:= .value (.func f),args:=xs.toArray,argTypes:=ats},ty,pos,af,g⟩).run P w= .ok (.enter f (xs.map A.eval).toArray) w:=by
  simp only[execOp,resolve,Act.eval,Deferred.ofValue];have ac:¬fn.name= "runtime.NumGoroutine" :=by simpa using z
  have ad:¬fn.body=none:=by intro e;simp[e] at h
  simp[invoke,callFunc,hf,ac,ad,eH]
 rw[O];refine⟨by simp[fen,Fence.wide],?_⟩;show CallsIn Fence.wide 0 P f _ w _;refine gy.2 (aa.mono ?_)
 rintro e w' ⟨v,I',rfl,hb,T,G,H⟩
 refine hk _ _ ⟨I',ρ,C,SatAt.put ?_ hn (zHF H)⟩;have h4:=D.grow hb;exact h4.widen T G (λi b hi Y=>(D.blt i b hi Y).2) (E.size _ _ _ D.frame) (λb Z=>E.csize _ _ _ D.frame b Z)
end
open Go.RowKit
def yHD (E:Env) (K:Exit->AState->Prop):Exit->Act->World->Prop:=λe a w=> ∃S,K e S/\Sat E S a w
def Avc (P:Program) (r:Option Nat) (E:Env) (c:Code) (K:Exit->AState->Prop) (S:AState):Prop:=
 ∀a w,Sat E S a w->c.wpIn (fen r) 0 P (yHD E K) a w
def zES (E:Env) (S S':AState):Prop:= ∀a w,Sat E S a w->Sat E S' a w
def yF3 (J:AState->Prop) (K:Exit->AState->Prop):Exit->AState->Prop
 | .normal,S=>J S
 | e,S=>K e S
def z7I (id:Nat) (K:Exit->AState->Prop):Exit->AState->Prop
 | .exit i,S=>if Nat.beq i id then K .normal S else K (.exit i) S
 | e,S=>K e S
def gd (h b:Bool):Bool:=match h with
 | true=>b
 | false=>!b
section
variable {P:Program} {r:Option Nat} {E:Env} {S S':AState} {K:Exit->AState->Prop} {J:AState->Prop} {ops:Array Oper} {rest:List Oper} {o:Oper} {d:Nat}
theorem SatAt.yield {a:Act} {w:World} {I:Im} {ρ:Nat->Value} {C:Nat->Prop} (z:SatAt E S a w I ρ C) {j t:Nat} {b:Bool} (D:(ops[j]?).bind (·.dst)=some t) (H:S.get t= .d (.v (.bool b))) (G:t<E.n):
    yielded ops a.tmps j=some b:=by
  have h:=z.tmps t;rw[H] at h;have k:t<a.tmps.size:=by rw[z.size];exact G
  have e:a.tmps.getD t undef=a.tmps[t]:=by simp[dJ,k]
  rw[e] at h;generalize O:a.tmps[t]=v at h;cases h;simp[yielded,D,k,O]
theorem SatAt.yield2 {a:Act} {w:World} {I:Im} {ρ:Nat->Value} {C:Nat->Prop} (D:SatAt E S a w I ρ C) {j t:Nat} {b c:Bool} (z:(ops[j]?).bind (·.dst)=some t) (O:S.get t= .cond c (.d (.v (.bool b)))) (H:t<E.n):
    yielded ops a.tmps j=if c then some b else none:=by
  have h:=D.tmps t;rw[O] at h;have k:t<a.tmps.size:=by rw[D.size];exact H
  have e:a.tmps.getD t undef=a.tmps[t]:=by simp[dJ,k]
  rw[e] at h;generalize G:a.tmps[t]=v at h;cases c with
  | true=>
    have h:=h.1 rfl;cases h;simp[yielded,z,k,G]
  | false=>
    have h:=h.2 rfl;subst h;simp[yielded,z,k,G,undef]
theorem zX0 {c:Code} {z:Exit->AState->Prop} (h:Avc P r E c K S) (G:∀e S,K e S->z e S):Avc P r E c z S:=λa w H=>
 gR (h a w H) λe _ _ ⟨S',D,k⟩=>⟨S',G e S' D,k⟩
theorem zL {c:Code} (z:zES E S S') (h:Avc P r E c K S'):Avc P r E c K S:=λa w k=>h a w (z a w k)
theorem yCQ {x y:Code} (h:∀J:AState->Prop,(∀S,Avc P r E y K S->J S)->Avc P r E x (yF3 J K) S):Avc P r E (.seq x y) K S:=λa w G=>
 wpIn_seq (gR (h _ (λ_ h=>h) a w G) λe D w' ⟨S',z,k⟩=>by
  cases e with
  | normal=>exact z D w' k
  | _=>exact⟨S',z,k⟩)
theorem z7J {c:Operand} {x y:Code} {b:Bool} (k:S.ev c= .d (.v (.bool b))) (G:b=true->Avc P r E x K S) (z:b=false->Avc P r E y K S):Avc P r E (.cond c x y) K S:=λa w D=>by obtain⟨I,ρ,C,h⟩:=D;exact wpIn_cond_split (h.val k) (λhb=>G hb a w ⟨I,ρ,C,h⟩) (λhb=>z hb a w ⟨I,ρ,C,h⟩)
theorem yI {id:Nat} {c:Code} (h:Avc P r E c (z7I id K) S):Avc P r E (.block id c) K S:=λa w D=>
 wpIn_block (gR (h a w D) λe G w' ⟨S',z,k⟩=>by
  cases e with
  | exit i=>
   simp only[z7I,g4] at z;simp only[Exit.inBlock];by_cases e:i=id;simp only[e,dH] at z ⊢;exact⟨S',z,k⟩;simp only[e,cY] at z ⊢;exact⟨S',z,k⟩
  | _=>exact⟨S',z,k⟩)
theorem zJ {id:Nat} (h:K (.exit id) S):Avc P r E (.exit id) K S:=λ_ _ k=>wpIn_exit ⟨S,h,k⟩
theorem yC (h:K .ret S):Avc P r E .ret K S:=λ_ _ k=>wpIn_ret ⟨S,h,k⟩
theorem zK (h:K .normal S):Avc P r E .skip K S:=λ_ _ k=>wpIn_skip ⟨S,h,k⟩
theorem z7K {c:Code} {ι:Type} (T: ι->AState) (k: ι->Prop) (G: ι->Nat) (D: ι) (Z:k D) (hS:zES E S (T D))
  (round:∀i,k i->Avc P r E c (yF3 (λS'=> ∃j,k j/\G j<G i/\zES E S' (T j)) K) (T i)):Avc P r E (.loop c) K S:=by
 intro a w H;have key:∀n i a w,k i->G i<n->Sat E (T i) a w->Code.roundsIn (fen r) 0 P c (yHD E K) n a w:=by
  intro n
  induction n with
  | zero=>intro i a w _ h;omega
  | succ n ih=>
   intro i a w hp hn H;rw[roundsIn_succ];exact gR (round i hp a w H) λe O w' ⟨S',Y,z⟩=>by
    cases e with
    | normal=>obtain⟨j,hj,ac,hw⟩:=Y;exact ih j O w' hj (by omega) (hw O w' z)
    | _=>exact⟨S',Y,z⟩
 exact wpIn_loop_rounds _ (key (G D+1) D a w Z (by omega) (hS a w H))
theorem yCR (Y:∀p∈S'.tmps,S.get p.1=p.2\/p.2= .top) (hb:∀p∈S'.blks,S.blk p.1=p.2) (H:∀C w,E.fr S.ghost C w->E.fr S'.ghost C w):zES E S S':=by
 have z:∀t,S'.get t= .top\/S.get t=S'.get t:=by
  intro t;unfold AState.get;generalize O:S'.tmps=l at Y;clear O
  induction l with
  | nil=>exact .inl rfl
  | cons p l Z=>
   obtain⟨i,x⟩:=p;rw[kB];by_cases e:i=t;simp only[e,dH];have:=Y (i,x) (by simp);simp only[e] at this;exact this.symm;simp only[e,cY];exact Z λq T=>Y q (by simp[T])
 have k:∀t,S'.blk t= .none\/S.blk t=S'.blk t:=by
  intro t;unfold AState.blk;generalize O:S'.blks=l at hb;clear O
  induction l with
  | nil=>exact .inl rfl
  | cons p l Z=>
   obtain⟨i,x⟩:=p;rw[kB];by_cases e:i=t;simp only[e,dH];have:=hb (i,x) (by simp);simp only[e] at this;exact .inr this;simp only[e,cY];exact Z λq T=>hb q (by simp[T])
 rintro a w ⟨I,ρ,C,h⟩
 refine⟨I,ρ,C,⟨λt=>?_,λi=>?_,λi i' b hn hi D=>?_,H _ _ h.frame,h.sub,h.old,h.size,h.defers,h.cI,λi b hi G=>?_,λi v hv hi=>h.nm i v hv ?_⟩⟩;rcases z t with e | e
 rw[e];trivial;rw[<-e];exact h.tmps t;rcases k i with e | e
 rw[e];trivial;rw[<-e];exact h.blks i;refine h.dist i i' b hn ?_ ?_;rcases k i with e | e
 exact absurd e hi;rw[e];exact hi;rcases k i' with e | e
 exact absurd e D;rw[e];exact D;refine h.cB i b ?_ G;rcases k i with e | e
 exact absurd e hi;rw[e];exact hi;rcases k i with e | e
 exact absurd e hi;rw[e];exact hi
theorem zBO {t:Nat} (id e size:Nat) (G:0<size) (D:t<E.n) (z:E.nm id=none) (H:S.get t= .d (.v (.slice none 0 0))):zES E S (((S.kill id).setBlk id (.row e size false [])).put t (.row id)):=by
 rintro a w ⟨I,ρ,C,h⟩
 have k:=h.update (hZ w none) (id:=id) (u:= .slice none 0 0) (x:= .row e size false []) (by simp) (kM I w) (by simp[blockOf])
  ⟨⟨G,by simp[upd,Value.ownBlock]⟩,0,[],by simp,by simp only[upd,dH];exact ij w _ e size,by simp,Pw.nil,by simp[upd,Value.ownBlock]⟩ (.inl rfl) z
 refine⟨I,_,C,⟨λu=>?_,k.blks,k.dist,by have:=k.frame;rw[zBX _ _ D];exact this,k.sub,k.old,k.size,k.defers,k.cI,k.cB,k.nm⟩⟩
 rw[zAE];by_cases e:t=u;subst e;simp only[dH];have:=h.tmps t;rw[H] at this;generalize a.tmps.getD t undef=v at this ⊢;cases this;simp[Holds,upd];simp only[e,cY];exact k.tmps u
def zKJ:List DV->Nat->List (Nat×AV)
 | [],_=>[]
 | x::r,k=>(k,.d x)::zKJ r (k+1)
theorem zUN (ds:List DV):∀(k t:Nat),(k<=t/\∃x,ds[t-k]? =some x/\look AV.top (zKJ ds k) t= .d x)\/look AV.top (zKJ ds k) t= .top:=by
 induction ds with
 | nil=>intro k t;exact .inr rfl
 | cons x ds G=>
  intro k t;simp only[zKJ,kB];by_cases e:k=t;subst e;simp;simp only[e,cY];rcases G (k+1) t with ⟨H,y,D,z⟩ | h
  refine .inl ⟨by omega,y,?_,z⟩;have:t-k=(t-(k+1))+1:=by omega
  rw[this];simpa using D;exact .inr h
def yKS (P:Program) (S:AState) (t:TypeId) (cells:List AV) (y:DV):Prop:=
 (OneTy P t/\∃av,cells= [av]/\S.dv av=some y)\/(∃ds,AggTy P t cells.length/\S.dvL cells=some ds/\y= .agg ds)
def RetS (P:Program) (S:AState):List ResultVar->List DV->Prop
 | [],ys=>ys= []
 | .tmp t::h,ys=> ∃y zs,ys=y::zs/\S.dv (S.get t).un=some y/\RetS P S h zs
 | .cell a t::h,ys=> ∃y zs id e cells,ys=y::zs/\(S.get a).un= .ptr id 0/\S.blk id= .box e cells/\yKS P S t cells y/\RetS P S h zs
def yM4 (P:Program) (h:Func) (k:List DV):Exit->AState->Prop
 | .ret,S | .normal,S=>RetS P S h.results.toList k
 | _,_=>False
theorem zUO (S:AState) (x:AV) (t:Nat):(S.shareAV x).get t=S.get t:=by unfold AState.shareAV;split;split<;>rfl;rfl
theorem z4S {S:AState} {x:AV} {id e:Nat} {cells:List AV} (h:S.blk id= .box e cells):(S.shareAV x).blk id= .box e cells:=by unfold AState.shareAV;split;rename_i i;split;rename_i z size D cs hb;rw[yB];by_cases k:i=id;subst k;rw[h] at hb;cases hb;simp[k,h];exact h;exact h
theorem RetS.share {S:AState} (x:AV):∀{l:List ResultVar} {ys:List DV},RetS P S l ys->RetS P (S.shareAV x) l ys
 | [],_,h=>h
 | .tmp t::rs,_,⟨y,zs,e,k,z⟩=>⟨y,zs,e,by rw[zR6,zUO];exact k,RetS.share x z⟩
 | .cell a t::rs,_,⟨y,zs,id,e,cells,G,k,z,H,O⟩=>⟨y,zs,id,e,cells,G,by rw[zUO];exact k,z4S z,by
   rcases H with ⟨Z,av,Y,D⟩ | ⟨ds,T,D,hy⟩
   ·exact .inl ⟨Z,av,Y,by rw[zR6];exact D⟩
   ·exact .inr ⟨ds,T,by rw[zUL];exact D,hy⟩,RetS.share x O⟩
theorem RetS.shareL (xs:List AV):∀{S:AState} {l:List ResultVar} {ys:List DV},RetS P S l ys->RetS P (S.shareL xs) l ys:=by
 induction xs with
 | nil=>exact λh=>h
 | cons x xs k=>exact λh=>k (h.share x)
def zR8 (tmps:Array Value):ResultVar->Sem Value
 | .tmp t=>pure (tmps.getD t undef)
 | .cell a t=>do loadVar t (<-asAddr (tmps.getD a undef))
theorem RetS.holds {a:Act} {w:World} {ρ:Nat->Value} {C:Nat->Prop}:∀(l:List ResultVar) (rs:List DV) {S:AState} {I:Im} (_:SatAt E S a w I ρ C) (_:RetS P S l rs),
  ∃I':Im,(∀b j,I b j->I' b j)/\∃S2,SatAt E S2 a w I' ρ C/\∃xs:List Value,(l.mapM (zR8 a.tmps)).run P w= .ok xs w/\Reps w I' xs rs:=by
 intro l
 induction l with
 | nil=>
  intro rs S I h hr;cases hr;exact⟨I,λ_ _ h=>h,S,h,[],by simp,Pw.nil⟩
 | cons x l ih=>
  intro rs S I h hr;cases x with
  | tmp t=>
   obtain⟨y,ys,rfl,h1,h2⟩:=hr;obtain⟨I1,Z,H,D⟩:=h.dv (h.tmps t).un h1;obtain⟨I2,G,S2,z,xs,aa,k⟩:=ih ys H (h2.share _);exact⟨I2,λb j hi=>G b j (Z b j hi),S2,z,_::xs,by simp[g9,zR8,aa],Pw.cons (D.mono (kM I1 w) G) k⟩
  | cell ad t=>
   obtain⟨y,ys,id,e,cells,rfl,h1,h2,h3,h4⟩:=hr;have hp:=(h.tmps ad).un;rw[h1] at hp;obtain⟨b,al,hv⟩:=hp;have ah:=h.blks id;rw[h2] at ah;obtain⟨b',arr,am,hB,hh,au,Y,hI⟩:=ah;have ax:b'=b:=by rw[am] at al;simpa[blockOf] using al
   subst ax;have O:∀(j:Nat) v,arr.toList[j]? =some v->w.cell? ⟨b',0+j,none⟩=some v:=λj v hj=>by
    rw[eD,e7 w b' j arr e (0,0) hh];simpa using hj
   rcases h3 with ⟨ho,av,hc,hd⟩ | ⟨ds,ha,hd,rfl⟩
   ·subst hc
    have aj:=Y.1
    match ag:arr.toList,aj with
    | [v0],_=>
     rw[ag] at Y O;obtain⟨I1,Z,H,D⟩:=h.dv (Y.2 0 v0 av rfl rfl) hd;obtain⟨I2,G,S2,z,xs,aa,k⟩:=ih ys H (h4.share _);refine⟨I2,λb j hi=>G b j (Z b j hi),S2,z,v0::xs,?_,Pw.cons (D.mono (kM I1 w) G) k⟩;have ai:=O 0 v0 rfl;simp only[fH] at ai;simp[g9,zR8,hv,asAddr,loadVar,ho.agg,run_load,ai,aa]
   ·obtain⟨I1,Z,H,D⟩:=SatAt.dvL cells h Y hd
    obtain⟨I2,G,S2,z,xs,aa,k⟩:=ih ys H (h4.shareL _);have ak:=D.mono (kM I1 w) G;refine⟨I2,λb j hi=>G b j (Z b j hi),S2,z,.agg arr.toList.toArray::xs,?_,Pw.cons (.agg _ _ ak.1 au ak.2) k⟩;have T:=zCE (P:=P) w ha b' 0 arr.toList Y.1 O;simp only[Instr.loadAt,Instr.sureAddr,cW,dU,cX] at T;simp only[g9,zR8,hv,asAddr,cW,dU,cX,T,aa]
theorem zKK {k:Func} {tmps:Array Value} {w:World} {xs:List Value} (h:(k.results.toList.mapM (zR8 tmps)).run P w= .ok xs w):
  (results k tmps).run P w= .ok (if h:xs.toArray.size=1 then xs.toArray[0] else .tuple xs.toArray) w:=by
 have e:results k tmps=(do let vs <-k.results.mapM (zR8 tmps);pure (if h:vs.size=1 then vs[0] else .tuple vs)):=by
  unfold results;congr 1
 rw[e,Array.mapM_eq_mapM_toList];simp only[cW,dU,h,cX,Sem.run_map]
def Env.norm (gdt:Nat->Option (List Value)) (w0:World) (I0:Im) (H:∀b j,I0 b j->b<w0.heap.size) (hG:GlI gdt w0 I0) (n:Nat) (O:n<=1000000):Env where
 B:=w0.heap.size
 I0:=I0
 n:=n
 fr:=λ_ C w=>Below w0.heap.size w0 w/\∀b,¬C b
 wrB:=true
 nle:=O
 mine:=λb=>w0.heap.size<=b
 mineB:=λ_ h=>h
 nm:=λ_=>none
 size:=λ_ _ _ h=>h.1.size
 csize:=λ_ _ _ h b hb=>absurd hb (h.2 b)
 grow:=λ_ _ _ _ h hb=>⟨h.1.trans (hb.mono h.1.size),h.2⟩
 wr:=λ_ _ _ _ _ _ h z T _=>⟨h.1.trans ⟨z.os,z.tape,z.output,z.size,λk G=>z.block k (eP G h.1.size) (λe=>by have:=(T k e).1;omega)⟩,h.2⟩
 turn:=λ_ _ _ w w' l h Y D _=>⟨h.1.trans ⟨D.os,D.tape,D.output,by rw[D.size];exact dF _,λk G=>D.blk k (by omega)⟩,h.2⟩
 gdt:=gdt
 gl:=λ_ _ w h g zs z j=>⟨(World.cell?_of_block (a:=⟨g,j,none⟩) (h.1.block g (H g j (hG g zs z j).2))).trans (hG g zs z j).1,(hG g zs z j).2⟩
theorem zN3 {w:World} {D:Nat} (h:w.heap[D]? =some (.deferred (some []))):(Instr.takeDeferred D).run P w= .ok [] {w with heap:=w.heap.setIfInBounds D (.deferred none)}:=by simp[Instr.takeDeferred,getObj,setObj,Sem.run,h]
structure Taken (w w':World):Prop where
 blk:∀k:Nat,w'.heap[k]? =w.heap[k]?\/(w.heap[k]? =some (Obj.deferred (some []))/\w'.heap[k]? =some (Obj.deferred none))
 size:w'.heap.size=w.heap.size
theorem Taken.same {I:Im} {w w':World} (h:Taken w w'):Same I w w':=by
 intro b j _;rcases h.blk b with e | ⟨e,k⟩
 exact KeepB.of e;exact⟨by simp[World.cell?,e,k],λ_ _ q=>by rw[e] at q;cases q⟩
theorem zN4 {fn:Func} {tmps:Array Value} {R:Ending->World->Prop} {B:Nat} {ad:Bool} {C:Nat->Prop}:∀(ds:List Deferred) (w:World),DefOk B ad C w ds->
  (∀w',Below B w w'->Taken w w'->∃v,(results fn tmps).run P w'= .ok v w'/\R (.returned v) w')->
  LeavesInM (fen none) 0 P fn tmps R ds .returning w:=by
 intro ds
 induction ds with
 | nil=>intro w _ h;exact h w (Below.refl _ _) ⟨λ_=> .inl rfl,rfl⟩
 | cons d ds ih=>
  intro w H h;obtain⟨r,h1,h2,am,Y⟩:=H.each d (by simp);refine⟨by simp,.inl ⟨r,_,h1,zN3 Y,ih _ ?_ ?_⟩⟩
  ·refine⟨λe he=>?_,(fE.1 H.dist).2,λ_=>H.wr (by simp)⟩
   obtain⟨r',D,T,G,Z⟩:=H.each e (by simp[he]);have z:r≠r':=λac=>(fE.1 H.dist).1 e he r h1 (ac▸D);exact⟨r',D,T,G,by simp only[dZ z];exact Z⟩
  ·intro w' hb hk
   refine h w' ?_ ⟨λk=>?_,?_⟩
   ·refine⟨hb.os,hb.tape,hb.output,by have:=hb.size;simpa using this,λk ab=>?_⟩
    rw[hb.block k ab];exact dZ (by omega)
   ·have O:=(cU.1 Y).1
    by_cases z:r=k
    ·subst z
     refine .inr ⟨Y,?_⟩;rcases hk.blk r with e | ⟨e,_⟩
     ·rw[e];simp[O]
     ·simp[O] at e
    ·have e1:(w.heap.setIfInBounds r (Obj.deferred none))[k]? =w.heap[k]?:=dZ z
     rcases hk.blk k with e | ⟨e,e'⟩
     ·exact .inl (e.trans e1)
     ·exact .inr ⟨e1.symm.trans e,e'⟩
   ·rw[hk.size];simp
theorem SatAt.taken {S:AState} {a:Act} {w w':World} {I:Im} {ρ:Nat->Value} {C:Nat->Prop} (h:SatAt E S a w I ρ C) (k:Taken w w') (z:E.fr S.ghost C w'):SatAt E S {a with defers:=[]} w' I ρ C:=by
 refine⟨λt=>(h.tmps t).mono k.same (λ_ _ h=>h),λi=>?_,h.dist,z,h.sub,λb j hi=>⟨by rw[k.size];exact(h.old b j hi).1,(h.old b j hi).2⟩,h.size,DefOk.nil,h.cI,h.cB,h.nm⟩
 cases D:S.blk i with
 | none=>trivial
 | _=>
  rw[<-D];refine(h.blks i).mono k.same (λb hb=>?_);obtain⟨o,G,H⟩:=h.cellBlk (by rw[D];simp) hb
  rcases k.blk b with e | ⟨e,_⟩;exact e;rw[G] at e;cases e;cases H
theorem RetS.run {S:AState} {a:Act} {w:World} {I:Im} {ρ:Nat->Value} {C:Nat->Prop} {Z:Func} {Y:List DV} (hs:SatAt E S a w I ρ C) (D:RetS P S Z.results.toList Y):
  ∃v H,(results Z a.tmps).run P w= .ok v w/\(∀b j,I b j->H b j)/\(∀b j,H b j->b<w.heap.size/\(E.I0 b j\/E.mine b))/\zXZ w H v Y:=by
 obtain⟨I2,G,S2,O,xs,T,h⟩:=RetS.holds _ _ hs D;refine⟨_,I2,zKK T,G,O.old,?_⟩;have hl:=h.1
 match xs,Y,hl,h with
 | [],[],_,k=>exact⟨_,rfl,k⟩
 | [x],[y],_,k=>exact k.2 0 _ y rfl rfl
 | x::u::xs,y::z::ys,_,k=>exact⟨x::u::xs,by simp,k⟩
theorem zX1 {f:FuncId} {k:Func} {c:Code} {ds rs:List DV} (hf:P.funcs[f]? =some k) (z:(k.name== "runtime.NumGoroutine")=false) (hb:k.body=some c) (hn:ds.length<=k.ntmps) (Y:k.ntmps<=1000000)
  (h:∀w0 I0 H hG,Avc P none (Env.norm (zAU P) w0 I0 H hG k.ntmps Y) c (yM4 P k rs) ⟨zKJ ds 0,[]⟩):zH P f ds rs:=by
 refine⟨⟨k,hf,z,by simp[hb]⟩,λw I vs H hG ab=>?_⟩;refine gy (n:=0) |>.1 (callsIn_of_wp_marks hf hb trivial ?_)
 have T:vs.length=ds.length:=ab.1;have aa:Sat (Env.norm (zAU P) w I H hG k.ntmps Y) ⟨zKJ ds 0,[]⟩ {tmps:=vs.toArray++Array.replicate (k.ntmps-vs.toArray.size) undef,defers:=[]} w:=by
  refine⟨I,λ_=>undef,λ_=>False,⟨λt=>?_,λ_=>trivial,λ_ _ _ _ h=>absurd rfl h,⟨Below.refl _ _,λ_ h=>h⟩,λ_ _ h=>h,λb j h=>⟨H b j h,.inl h⟩,by simp[Env.norm];omega,DefOk.nil,λ_ _ _ h=>h,λ_ _ h=>absurd rfl h,λ_ _ h=>by cases h⟩⟩
  rcases zUN ds 0 t with ⟨_,x,hx,hl⟩ | hl
  ·show Holds _ _ _ _ (look AV.top (zKJ ds 0) t)
   rw[hl];simp only[Nat.sub_zero] at hx;have ht:t<vs.length:=by rw[T];exact(c9.1 hx).1
   refine ab.2 t _ x ?_ hx;simp[dJ,Array.getElem?_append,ht]
  ·show Holds _ _ _ _ (look AV.top (zKJ ds 0) t)
   rw[hl];trivial
 refine gR (h w I H hG _ w aa) ?_
 rintro e a w' ⟨S,hK,I1,ρ,C,D⟩
 have G:RetS P S k.results.toList rs->LeavesInM (fen none) 0 P k a.tmps (λe w'=> ∃v I',e= .returned v/\Below w.heap.size w w'/\(∀b j,I b j->I' b j)/\(∀b j,I' b j->b<w'.heap.size/\(I b j\/w.heap.size<=b))/\zXZ w' I' v rs) a.defers .returning w':=by
  intro Z;refine zN4 (B:=w.heap.size) a.defers w' D.defers λw2 O ah=>?_;have ai:=D.taken ah ⟨D.frame.1.trans O,D.frame.2⟩;obtain⟨v,I2,h1,h2,h3,h4⟩:=RetS.run ai Z;exact⟨v,h1,v,I2,rfl,D.frame.1.trans O,λb j hi=>h2 b j (D.sub b j hi),h3,h4⟩
 cases e with
 | normal=>exact G hK
 | ret=>exact G hK
 | _=>exact hK.elim
end
open Go.RowKit
theorem zQB {w:World} {D e:Nat} {k:Array Value} (G:w.heap[D]? =some (.cells k e (0,0))) (z:Array Value) {j:Nat} (h:z[j]? =k[j]?):
  (w.setRow D z).cell? ⟨D,j,none⟩=w.cell? ⟨D,j,none⟩:=by
 rw[e7 _ D j z e (0,0) (ic w D k z e _ G),e7 w D j k e (0,0) G,h]
section
variable {P:Program} (w:World)
theorem z0W {B t ty e size bytes:Nat} {z:Value} (hT:SlTy P t e size bytes z) {v:Value} {n:Nat} {xs:List Value} (h:w.ownsRow B e size v n xs)
  {A:Option Addr} {m c:Nat} {news:List Value} (hl:news.length=m*size) (ah:0<m->∃b off,A=some ⟨b,off,none⟩/\∀(j:Nat) u,news[j]? =some u->w.cell? ⟨b,off+j,none⟩=some u)
  (h1:∀u∈news,u.oneCell'=true) (aj:n+m<=maxLen) (K:(n+m)*bytes<=140737488355328) (hB:B<=w.heap.size):
  ∃v' w',(Builtin.append_ #[t,t] ty #[v,.slice A m c]).run P w= .ok v' w'/\w'.ownsRow B e size v' (n+m) (xs++news)/\
   ((w.grownBy w' v.ownBlock/\v'.ownBlock=v.ownBlock/\∀Z,v.ownBlock=some Z->∀j,j<n*size->w'.cell? ⟨Z,j,none⟩=w.cell? ⟨Z,j,none⟩)\/(w.grownBy w' none/\v'.ownBlock=some w.heap.size)):=by
 obtain⟨i,hi,hz,rfl,rfl⟩:=hT.info;have ht:=hT.und;have ba:=hT.zs;have ap:n+m<=9223372036854775807:=by simp only[maxLen] at aj;omega
 have O:(xs++news).length=(n+m)*i.size:=by rw[cZ,h.1,hl,eG]
 by_cases hm:m=0
 ·subst hm
  have hn:news= []:=cS (by simpa using hl);subst hn;refine⟨v,w,?_,by simpa using h,.inl ⟨hZ w _,rfl,λ_ _ _ _=>rfl⟩⟩;rcases h.2 with ⟨rfl,rfl⟩ | ⟨Z,T,aa,rfl,_,_,am,_⟩
  ·cases A<;>simp[Builtin.append_,dL ht,sizeOf,typeInfo,hi,Builtin.lenOf,Builtin.firstCells,loadCells,loadCellsFrom]
  ·cases A<;>simp[Builtin.append_,dL ht,sizeOf,typeInfo,hi,Builtin.lenOf,Builtin.firstCells,am,storeCells,loadCells,loadCellsFrom]
 ·obtain⟨b,off,rfl,ac⟩:=ah (by omega)
  have D:∀(j:Nat) u,news[j]? =some u->w.cell? ((⟨b,off,none⟩:Addr).add j)=some u:=λj u hu=>by rw[vU];exact ac j u hu
  have ab:∀(H:Nat),
    (w.drew.alloc (.cells (xs.toArray++news.toArray++Builtin.zeroCells z.cells (grownCap w (n+m) H e-(n+m))) e)).ownsRow B e i.size
     (.slice (some ⟨w.heap.size,0,none⟩) (n+m) (grownCap w (n+m) H e)) (n+m) (xs++news)/\
    w.grownBy (w.drew.alloc (.cells (xs.toArray++news.toArray++Builtin.zeroCells z.cells (grownCap w (n+m) H e-(n+m))) e)) none:=by
   intro H;have ay:=grownCap_ge w (n+m) H e;have ad:grownCap w (n+m) H e<=maxLen:=grownCap_le_maxLen w (n+m) H e aj;refine⟨⟨O,.inr ⟨w.heap.size,_,_,rfl,hB,g8 w.drew _,ay,ad,?_,?_⟩⟩,⟨rfl,rfl,rfl,by simp,λk hk _=>_root_.Go.heap_alloc_old w.drew _ hk⟩⟩
   ·simp only[Array.size_append,fZ,size_zeroCells,ba,h.1,hl,<-eG]
    congr 1;omega
   ·simp only[Array.toList_append,dB]
    rw[<-dB,<-O];exact gN
  rcases h.2 with ⟨rfl,rfl⟩ | ⟨Z,T,aa,rfl,au,hg,am,ad,aw,ai⟩
  ·have hx:xs= []:=cS (by simpa using h.1)
   subst hx;have hr:=run_append_nil (P:=P) w t ty e i z ht hi hz ⟨b,off,none⟩ m c news hl D (by omega) (by omega) (by have hb:=K;simp only[eD] at hb;omega)
   have Y:=ab 0;simp only[eD,dS,Array.empty_append] at Y ⊢;exact⟨_,_,hr,Y.1,.inr ⟨Y.2,rfl⟩⟩
  ·by_cases G:n+m<=T
   ·have ak:n*i.size+news.length<=aa.size:=by rw[hl,aw,<-eG];exact dY _ G
    have hr:=run_append_room (P:=P) w t ty e i ht hi Z n T aa hg ⟨b,off,none⟩ m c news hl D h1 G ak;refine⟨_,_,hr,⟨O,.inr ⟨Z,T,_,rfl,au,ic w Z aa _ e _ hg,G,ad,?_,?_⟩⟩,.inl ⟨⟨rfl,rfl,rfl,by simp,λk _ hk=>setRow_other w Z k _ (λe=>hk (by simp[Value.ownBlock,e]))⟩,rfl,?_⟩⟩
    ·simp only[fZ,cZ,d9,eM,eK]
     omega
    ·rw[ai,<-O]
     exact gN
    ·intro g' al j hj
     simp[Value.ownBlock] at al;subst al;refine zQB hg _ ?_;have:j<aa.size:=by omega
     simp only[eW,dB];rw[d5 (by simp;omega),d8,dK hj]
     simp
   ·have holds:∀j u,xs[j]? =some u->w.cell? ((⟨Z,0,none⟩:Addr).add j)=some u:=h.cells (g:=Z) rfl
    have hr:=run_append_grow (P:=P) w t ty e i z ht hi hz ⟨Z,0,none⟩ n T xs h.1 holds ⟨b,off,none⟩ m c news hl D (by omega) (by omega) (growslice_fits (by omega) K);have Y:=ab T;exact⟨_,_,hr,Y.1,.inr ⟨Y.2,rfl⟩⟩
end
section
variable {P:Program} {r:Option Nat} {E:Env} {S:AState} {d:Nat} {ty:TypeId} {pos:String} {af:Array Edge} {g:Option (Nat×Bool)}
theorem zMF {x:AV} {id e size:Nat} {k:Bool} {cells:List DV} (hb:S.blk id= .row e size k cells):∃z,(S.shareAV x).blk id= .row e size z cells:=by unfold AState.shareAV;split;rename_i i;split;rename_i K D H cs h;rw[yB];by_cases G:i=id;subst G;rw[hb] at h;cases h;exact⟨true,by simp⟩;exact⟨k,by simp[G,hb]⟩;exact⟨k,hb⟩;exact⟨k,hb⟩
def Blk.appended (b:Blk) (cells:List DV):Blk:=match b with
 | .row e size h cs=> .row e size h (cs++cells)
 | b=>b
theorem zUP {t e size bytes:Nat} {z:Value} {s x:Operand} {id:Nat} {sh:Bool} {cells news:List DV} {n m:Nat} (hn:d<E.n) (hT:SlTy P t e size bytes z) (hb:S.blk id= .row e size sh cells)
  (hx:S.dv (S.ev x)=some (.sl size news)) (hl:cells.length=n*size) (bi:news.length=m*size) (Z:(n+m)*bytes<=140737488355328) (bg:n+m<=maxLen) (hE:E.wrB=true) (aw:E.nm id=none):
  ∀{A:Act} {w:World} {I:Im} {ρ:Nat->Value} {C:Nat->Prop},SatAt E S A w I ρ C->A.eval s= ρ id->∃v w',(execOp A.eval ⟨some d,.call {callee:= .builtin .append,args:= #[s,x],argTypes:= #[t,t]},ty,pos,af,g⟩).run P w= .ok (.value v) w'/\
   Sat E ((((S.shareAV (S.ev x)).kill id).setBlk id (((S.shareAV (S.ev x)).blk id).appended news)).put d (.row id)) (A.put (some d) v) w':=by
  intro A w I ρ C ad bk;obtain⟨I1,bz,D,ay⟩:=ad.dv (ad.ev x) hx;obtain⟨az,ah⟩:=zMF (x:=S.ev x) hb;have hk:=D.blks id;rw[ah] at hk;obtain⟨hp,n',xs,ap,ac,h1,bj,am⟩:=hk;obtain rfl:=zFW ap hl hp.1;obtain⟨Ax,m',c,ys,hv,_,ai,ax,al,bh⟩:=Rep.sl_inv ay;obtain rfl:=zFW ai bi hp.1;obtain⟨v',w',hr,Y,H⟩:=z0W (ty:=ty) w hT ac (A:=Ax) (m:=m') (c:=c) (news:=ys) (by rw[ax.1,ai]) (λh0=>by
   obtain⟨b,off,hA,hc⟩:=bh h0;exact⟨b,off,hA,λj u hu=>(hc j u hu).1⟩) al bg Z (g7 _)
  refine⟨v',w',?_,?_⟩
  ·simp only[execOp,resolve,invoke,builtin,cW,dU,cX,eH,ey,fF,bk,hv,hr]
  ·have K:Same I1 w w':=by
    intro b j hi;have aq:=(D.old b j hi).1;rcases H with ⟨T,_,aa⟩ | ⟨T,_⟩
    ·by_cases e':(ρ id).ownBlock=some b
     ·obtain⟨bl,br,bt,ao⟩:=zTY ac e'
      exact KeepB.ofCell ao (aa b e' j (by have:=(am b j e' hi).2;omega))
     ·exact KeepB.of (T.block b aq (λe2=>e' e2.symm))
    ·exact KeepB.of (T.block b aq (by simp))
   have ab:∀b,blockOf v'=some b->v'.ownBlock=some b:=by
    intro b O;rcases Y.2 with ⟨aj,_⟩ | ⟨gb,bo,bp,aj,_⟩
    ·rw[aj] at O;cases O
    ·rw[aj] at O ⊢;exact O
   have au:(S.shareAV (S.ev x)).blk id≠ .none:=by rw[ah];simp
   have an:((S.shareAV (S.ev x)).blk id).appended news= .row e size az (cells++news):=by rw[ah];rfl
   rw[an];have ar:BlkOk w' I1 (upd ρ id v') E.mine id (.row e size az (cells++news)):=by
    have eu:upd ρ id v' id=v':=by simp[upd]
    refine⟨⟨hp.1,λgb T=>?_⟩,n'+m',xs++ys,by rw[cZ,ap,ai,eG],by rw[eu];exact Y,?_,Pw.append (bj.mono K (λ_ _ h=>h)) (ax.mono K (λ_ _ h=>h)),?_⟩
    ·rw[eu] at T
     rcases H with ⟨_,G,_⟩ | ⟨_,G⟩
     ·exact hp.2 gb (by rw[<-G];exact T)
     ·rw[G] at T;cases T;exact E.mineB _ (E.size _ _ _ D.frame)
    ·intro u hu
     rcases eN.1 hu with hu | hu
     ·exact h1 u hu
     ·exact al u hu
    ·rw[eu]
     intro gb j T hi;rcases H with ⟨_,G,_⟩ | ⟨_,G⟩
     ·rw[G] at T
      have:=am gb j T hi;exact⟨this.1,by rw[cZ];omega⟩
     ·rw[G] at T
      cases T;have:=(D.old _ j hi).1;omega
   rcases H with ⟨T,G,_⟩ | ⟨T,G⟩
   ·have h2:=D.update T (id:=id) (u:=v') (λk hk=>⟨au,zAF hk⟩) K (λb O=> .inr ⟨au,zAF (by rw[<-G];exact ab b O)⟩) ar (.inr hE) aw
    exact⟨I1,_,C,h2.put hn (by simp[Holds,upd])⟩
   ·have h2:=D.update T (id:=id) (u:=v') (λk hk=>by cases hk) K (λb O=> .inl (by have:=ab b O;rw[G] at this;cases this;exact dF _)) ar (.inl rfl) aw
    exact⟨I1,_,C,h2.put hn (by simp[Holds,upd])⟩
theorem zX2 {t e size bytes:Nat} {z:Value} {s x:Operand} {id:Nat} {sh:Bool} {cells news:List DV} {n m:Nat} (Y:d<E.n) (O:SlTy P t e size bytes z) (Z:S.ev s= .row id) (hb:S.blk id= .row e size sh cells)
  (hx:S.dv (S.ev x)=some (.sl size news)) (T:cells.length=n*size) (G:news.length=m*size) (h:(n+m)*bytes<=140737488355328) (D:n+m<=maxLen) (K:E.wrB=true) (H:E.nm id=none):
  jA P r E ⟨some d,.call {callee:= .builtin .append,args:= #[s,x],argTypes:= #[t,t]},ty,pos,af,g⟩ S
   ((((S.shareAV (S.ev x)).kill id).setBlk id (((S.shareAV (S.ev x)).blk id).appended news)).put d (.row id)):=
 uE (by simp) λA w I ρ C k=>zUP Y O hb hx T G h D K H k (by have:=k.ev s;rw[Z] at this;exact this)
def w8:DV->List DV
 | .agg es=>es
 | x=>[x]
def okDV (size:Nat):DV->Bool
 | .agg es=>es.length==size
 | .v u=>u.oneCell'&&size==1
 | .sl _ _=>size==1
 | .pt _=>size==1
 | .fn _ _=>size==1
 | .bm _ _=>size==1
 | .mp _ _=>size==1
theorem Rep.flat {w:World} {I:Im} {v:Value} {x:DV} {size:Nat} (h:Rep w I v x) (k:okDV size x=true):
  Reps w I v.cells.toList (w8 x)/\(∀u∈v.cells.toList,u.oneCell'=true)/\(w8 x).length=size:=by
 cases h with
 | v=>
  simp[okDV] at k;rw[zIK k.1];exact⟨Pw.cons (.v v) Pw.nil,by simpa using k.1,by simp[w8,k.2]⟩
 | nil A c s=>
  simp[okDV] at k;exact⟨Pw.cons (.nil A c s) Pw.nil,by simp[Value.cells,Value.oneCell'],by simp[w8,k]⟩
 | sl b off n c s xs cells hn K Z D O H z=>
  simp[okDV] at k;exact⟨Pw.cons (.sl b off n c s xs cells hn K Z D O H z) Pw.nil,by simp[Value.cells,Value.oneCell'],by simp[w8,k]⟩
 | pt b off xs cells D O H z=>
  simp[okDV] at k;exact⟨Pw.cons (.pt b off xs cells D O H z) Pw.nil,by simp[Value.cells,Value.oneCell'],by simp[w8,k]⟩
 | fn f xs cells D z=>
  simp[okDV] at k;exact⟨Pw.cons (.fn f xs cells D z) Pw.nil,by simp[Value.cells,Value.oneCell'],by simp[w8,k]⟩
 | bm f xs cells D z=>
  simp[okDV] at k;exact⟨Pw.cons (.bm f xs cells D z) Pw.nil,by simp[Value.cells,Value.oneCell'],by simp[w8,k]⟩
 | mp b G ents vs Y hb D z T=>
  simp[okDV] at k;exact⟨Pw.cons (.mp b G ents vs Y hb D z T) Pw.nil,by simp[Value.cells,Value.oneCell'],by simp[w8,k]⟩
 | agg xs cells D H z=>
  simp[okDV] at k;exact⟨⟨by simpa[Value.cells,w8] using D,by simpa[Value.cells,w8] using z⟩,by simpa[Value.cells] using H,by simp[w8,k]⟩
theorem z4T (vs:List Value) (off:Nat):∀(k:Nat) (arr:Array Value),off+k+vs.length<=arr.size->
  ((vs.zipIdx k).foldl (λcs (p:Value×Nat)=>cs.setIfInBounds (off+p.2) p.1) arr).toList=arr.toList.take (off+k)++vs++arr.toList.drop (off+k+vs.length):=by
 induction vs with
 | nil=>intro k arr _;simp
 | cons v vs K=>
  intro k arr h;simp only[dP] at h;rw[List.zipIdx_cons,ia,K (k+1) _ (by simp;omega)]
  simp only[Array.toList_setIfInBounds,dP];have z:off+k<arr.toList.length:=by simp;omega
  rw[gx,dK z];have D:(arr.toList.take (off+k)).length=off+k:=by simp;omega
  have G:off+(k+1)=(arr.toList.take (off+k)).length+1:=by rw[D];omega
  have H:off+(k+1)+vs.length=(arr.toList.take (off+k)).length+(1+vs.length):=by rw[D];omega
  rw[H,G,List.take_length_add_append,List.drop_length_add_append];rw[Nat.add_comm 1 vs.length,List.drop_succ_cons,List.drop_drop,show off+k+1+vs.length=off+k+(vs.length+1) by omega];simp
theorem zX3 {k:Nat->Option (Nat×Nat)} {arr:Array Value} {i off size:Nat} {v:Value} {rest:List (Nat×Value)} (G:k i=some (off,size)) (H:v.cells.size=size) (z:off+size<=arr.size):
  Instr.fill k arr ((i,v)::rest)=Instr.fill k (arr.toList.take off++v.cells.toList++arr.toList.drop (off+size)).toArray rest:=by
 subst H;have h:=z4T v.cells.toList off 0 arr (by simpa using z);simp only[fH] at h;have e:v.cells.zipIdx.foldl (λcs (x:Value×Nat)=>cs.setIfInBounds (off+x.2) x.1) arr=(arr.toList.take off++v.cells.toList++arr.toList.drop (off+v.cells.size)).toArray:=by
  apply Array.ext';rw[<-Array.foldl_toList,Array.toList_zipIdx];simpa using h
 have D:¬(v.cells.size≠v.cells.size ||off+v.cells.size > arr.size)=true:=by simp;omega
 simp only[Instr.fill,G];rw[dQ D];congr 1
def zAG {h:Type}:Nat->List h->List (Nat×h)
 | _,[]=>[]
 | k,x::r=>(k,x)::zAG (k+1) r
theorem zI4 {h z:Type} (f: h->z):∀(l:List h) (k:Nat),(zAG k l).map (λp=>(p.1,f p.2))=zAG k (l.map f)
 | [],_=>rfl
 | x::l,k=>by simp[zAG,zI4 f l (k+1)]
theorem zX4 (size:Nat):∀(vs:List Value) (k:Nat) (arr:Array Value),(∀v∈vs,v.cells.size=size)->(k+vs.length)*size<=arr.size->
  Instr.fill (λi=>some (i*size,size)) arr (zAG k vs)=some (arr.toList.take (k*size)++vs.flatMap (λv=>v.cells.toList)++arr.toList.drop ((k+vs.length)*size)).toArray:=by
 intro vs
 induction vs with
 | nil=>intro k arr _ _;simp[zAG,Instr.fill]
 | cons v vs Y=>
  intro k arr H h;simp only[dP] at h;have O:(k+(vs.length+1))*size=k*size+size+vs.length*size:=by
   rw[eG,eG,Nat.one_mul];omega
  have z:(k+1)*size=k*size+size:=by rw[eG,Nat.one_mul]
  have G:(k+1+vs.length)*size=k*size+size+vs.length*size:=by rw[eG,z]
  have D:v.cells.toList.length=size:=by rw[eK];exact H v (by simp)
  rw[zAG,zX3 rfl (H v (by simp)) (by omega),Y (k+1) _ (λu T=>H u (by simp[T])) (by simp[D];omega)]
  congr 2;rw[G,z];simp only[dP,ek,O];have K:(arr.toList.take (k*size)++v.cells.toList).length=k*size+size:=by simp[D];omega
  rw[<-K,gN,List.drop_length_add_append,List.drop_drop];simp only[dB]
theorem zPD {w:World} {I:Im} {size:Nat}:∀{vs:List Value} {ds:List DV},Reps w I vs ds->ds.all (okDV size)=true->
  Reps w I (vs.flatMap λv=>v.cells.toList) (ds.flatMap w8)/\(∀u∈vs.flatMap (λv=>v.cells.toList),u.oneCell'=true)/\(∀v∈vs,v.cells.size=size)/\(ds.flatMap w8).length=ds.length*size
 | [],[],_,_=>⟨Pw.nil,by simp,by simp,by simp⟩
 | [],_::_,h,_=>by have:=h.1;simp at this
 | _::_,[],h,_=>by have:=h.1;simp at this
 | v::vs,x::ds,h,z=>by
  simp only[hY,dM] at z;have k:=(h.2 0 v x rfl rfl).flat z.1;have G:Reps w I vs ds:=⟨by have:=h.1;simpa using this,λj u y hu H=>h.2 (j+1) u y (by simpa using hu) (by simpa using H)⟩
  obtain⟨a1,a2,a3,D⟩:=zPD G z.2;refine⟨by simp only[ek];exact Pw.append k.1 a1,?_,?_,?_⟩
  ·intro u hu
   simp only[ek,eN] at hu;rcases hu with hu | hu
   ·exact k.2.1 u hu
   ·exact a2 u hu
  ·intro u hu
   rcases dN.1 hu with rfl | hu
   ·have:=k.1.1;rw[k.2.2,eK] at this;exact this
   ·exact a3 u hu
  ·simp only[ek,cZ,dP,k.2.2,D,eG];omega
theorem zJ6 {t e size bytes:Nat} {z:Value} {len:Nat} {H:List (Nat×Operand)} {ds:List DV} (hn:d<E.n) (K:SlTy P t e size bytes z) (G:H=zAG 0 (H.map Prod.snd)) (Y:H.length=len)
    (O:S.dvL ((H.map Prod.snd).map S.ev)=some ds) (ah:ds.all (okDV size)=true) (aw:len*size<=16777216) (ag:E.nm d=none):
    jA P r E ⟨some d,.buildSlice t len H.toArray,ty,pos,af,g⟩ S
      ((((S.shareL ((H.map Prod.snd).map S.ev)).kill d).setBlk d (.row e size false (ds.flatMap w8))).put d (.row d)):=
  uE (by simp) λA w I ρ C hs=>by
    generalize aj:H.map Prod.snd=xs at G O ⊢;obtain⟨I1,h1,h2,h3⟩:=SatAt.dvL _ hs (uB hs xs) O;obtain⟨a1,a2,a3,a4⟩:=zPD h3 ah;have D:(xs.map A.eval).length=len:=by rw[<-Y,<-aj];simp
    have ac:ds.length=len:=by rw[<-h3.1];exact D
    have ad:len<=maxLen:=by
      have:=K.pos;have:len*1<=len*size:=hQ _ this;simp only[maxLen];omega
    have ab:=h2.newRow (id:=d) (e:=e) (size:=size) (n:=len) (c:=len) (rest:=[]) K.pos (by rw[a4,ac]) (dF _) ad (by simp) a1 a2 ag;refine⟨.slice (some ⟨w.heap.size,0,none⟩) len len,_,?_,I1,_,C,ab.put hn (by simp[Holds,upd])⟩;obtain⟨i,hi,hz,au,aq⟩:=K.info;have k:=zX4 size (xs.map A.eval) 0 ((Array.range (len*size)).map ((if len*size=0 then (#[]:Array Value) else z.cells)[· % (if len*size=0 then (#[]:Array Value) else z.cells).size]!)) a3 (by simp[<-D]);have Z:H.toArray.map (λp:Nat×Operand=>(p.1,A.eval p.2))=(zAG 0 (xs.map A.eval)).toArray:=by
      rw[G,eH,zI4]
    have aa:¬(len*size > 2 ^ 24):=by omega
    simp only[gz,ik,dS,eD,D] at k;rw[dE (by simp)] at k;simp only[ez] at k ⊢;simp only[execOp,Instr.buildSlice,cW,dL K.und,cX,K.size w,aa,cY,dU];by_cases h0:len*size=0
    · have T:len=0:=by
        rcases Nat.mul_eq_zero.1 h0 with h | h
        · exact h
        · have:=K.pos;omega
      have ai:xs= []:=cS (by simpa[T] using D);subst ai;subst T;simp[Z,zAG,Instr.fill,newRow,Array.range_zero']
    · simp only[h0,cY] at k ⊢
      simp[zeroValue,typeInfo,hi,hz,Z,k,newRow]
def zLQ (z:Value) (n:Nat):List DV:=(List.replicate n (z.cells.toList.map DV.v)).flatten
theorem zR9 (z:Array Value) (n:Nat):(madeCells z (n*z.size)).toList=(List.replicate n z.toList).flatten:=by
 apply fV;intro j;simp only[madeCells,Array.toList_map,Array.toList_range,dX]
 induction n generalizing j with
 | zero=>simp
 | succ n G=>
  rw[List.replicate_succ,gJ];by_cases D:j<z.size;rw[d5 (by simpa using D)];have h:j<(n+1)*z.size:=by rw[eG,Nat.one_mul];omega
  rw[List.getElem?_range h];simp[Nat.mod_eq_of_lt D,D];rw[dW (by simp;omega),<-G]
  simp only[eK];by_cases h:j<(n+1)*z.size;have k:j-z.size<n*z.size:=by rw[eG,Nat.one_mul] at h;omega
  rw[List.getElem?_range h,List.getElem?_range k];simp only[eX];have:j%z.size=(j-z.size)%z.size:=by
   rw[Nat.mod_eq_sub_mod (by omega)]
  rw[this];have k:¬j-z.size<n*z.size:=by rw[eG,Nat.one_mul] at h;omega
  rw[fT (by simpa using h),fT (by simpa using k)]
theorem zMV (w:World) (I:Im) (vs:List Value):Reps w I vs (vs.map DV.v):=by refine⟨by simp,λj x y k h=>?_⟩;simp[k] at h;subst h;exact .v x
theorem z4U {t e size bytes:Nat} {z:Value} {x:Operand} {n:Nat} {m:Int} (hn:d<E.n) (G:SlTy P t e size bytes z) (hx:S.ev x= .d (.v (.int .i64 m))) (hm:m=(n:Int)) (hb:n*bytes<=140737488355328) (T:n<=maxLen) (ac:E.nm d=none):
  jA P r E ⟨some d,.makeSlice t x x,ty,pos,af,g⟩ S (((S.kill d).setBlk d (.row e size false (zLQ z n))).put d (.row d)):=
 uE (by simp) λA w I ρ C hs=>by
  subst hm;obtain⟨i,hi,hz,ad,ab⟩:=G.info;subst ad ab;have k:zLQ z n=((List.replicate n z.cells.toList).flatten).map DV.v:=by simp[zLQ,List.map_flatten]
  have H:((List.replicate n z.cells.toList).flatten).length=n*i.size:=by simp[G.zs]
  have Y:=hs.newRow (id:=d) (e:=e) (size:=i.size) (n:=n) (c:=n) (xs:=(List.replicate n z.cells.toList).flatten) (cells:=zLQ z n) (rest:=[]) G.pos (by rw[k];simpa using H) (dF _) T (by simp)
   (by rw[k];exact zMV _ _ _) (by
    intro u Z;obtain⟨l,hl,Z⟩:=List.mem_flatten.1 Z;rw[List.mem_replicate] at hl;rw[hl.2] at Z;exact G.one u Z) ac
  refine⟨.slice (some ⟨w.heap.size,0,none⟩) n n,_,?_,I,_,C,Y.put hn (by simp[Holds,upd])⟩;have K:=zR9 z.cells n;rw[G.zs] at K;have O:madeCells z.cells (n*i.size)=((List.replicate n z.cells.toList).flatten).toArray:=by
   apply Array.ext';simpa using K
  have aa:(i.bytes:Int)*(n:Int)<=281474976710656:=by
   have h:((i.bytes*n:Nat):Int)<=281474976710656:=by rw[Nat.mul_comm];omega
   rwa [Int.natCast_mul] at h
  have D:=run_make (P:=P) w t e i z G.und hi hz .i64 .i64 n n (by omega) (by omega) aa (by simp only[maxLen] at T;omega)
  simp only[Int.toNat_natCast] at D;simp only[execOp,hs.val hx,cW,ez];rw[D,O];rfl
end
open Go.RowKit
structure Agree (S S':AState) (o:Oper):Prop where
 blks:S'.blks=S.blks
 get:∀t,Operand.tmp t∈o.op.operands->S'.get t=S.get t
theorem Agree.ev {S S':AState} {o:Oper} (h:Agree S S' o) {x:Operand} (k:x∈o.op.operands):S'.ev x=S.ev x:=by
 cases x with
 | tmp t=>simp only[AState.ev,h.get t k]
 | _=>rfl
theorem Agree.blk {S S':AState} {o:Oper} (h:Agree S S' o) (id:Nat):S'.blk id=S.blk id:=by unfold AState.blk;rw[h.blks]
def AOp (P:Program) (r:Option Nat) (E:Env) (S:AState) (o:Oper) (d:Nat) (x:AV):Prop:=
 o.dst=some d/\d<E.n/\∀S',Agree S S' o->jA P r E o S' (S'.put d x)
theorem AOp.step {P:Program} {r:Option Nat} {E:Env} {S:AState} {o:Oper} {d:Nat} {x:AV} (h:AOp P r E S o d x):jA P r E o S (S.put d x):=h.2.2 S ⟨rfl,λ_ _=>rfl⟩
section
variable {P:Program} {r:Option Nat} {E:Env} {S:AState} {d:Nat} {ty:TypeId} {pos:String} {af:Array Edge} {g:Option (Nat×Bool)}
theorem yHE {x:Operand} (k:d<E.n):AOp P r E S ⟨some d,.move x,ty,pos,af,g⟩ d (S.ev x):=
 ⟨rfl,k,λS' h=>by have:=z4N (P:=P) (r:=r) (S:=S') (x:=x) (ty:=ty) (pos:=pos) (af:=af) (g:=g) k;rwa [h.ev (by simp[Op.operands])] at this⟩
theorem z7L {x:Operand} (k:d<E.n):AOp P r E S ⟨some d,.assign x,ty,pos,af,g⟩ d (S.ev x):=
 ⟨rfl,k,λS' h=>by have:=zXX (P:=P) (r:=r) (S:=S') (x:=x) (ty:=ty) (pos:=pos) (af:=af) (g:=g) k;rwa [h.ev (by simp[Op.operands])] at this⟩
section ints
variable {k:IntKind} {x y:Operand} {a b:Int} {tx tz:TypeId} (hn:d<E.n) (hx:S.ev x= .d (.v (.int k a))) (hy:S.ev y= .d (.v (.int k b)))
include hn hx hy
theorem zQC:AOp P r E S ⟨some d,.binOp .lss tx x y tz,ty,pos,af,g⟩ d (.d (.v (.bool (decide (a<b))))):=
 ⟨rfl,hn,λ_ h=>z69 hn ((h.ev (by simp[Op.operands])).trans hx) ((h.ev (by simp[Op.operands])).trans hy)⟩
theorem zN5:AOp P r E S ⟨some d,.binOp .leq tx x y tz,ty,pos,af,g⟩ d (.d (.v (.bool (decide (a<=b))))):=
 ⟨rfl,hn,λ_ h=>z7A hn ((h.ev (by simp[Op.operands])).trans hx) ((h.ev (by simp[Op.operands])).trans hy)⟩
theorem zX5:AOp P r E S ⟨some d,.binOp .gtr tx x y tz,ty,pos,af,g⟩ d (.d (.v (.bool (decide (b<a))))):=
 ⟨rfl,hn,λ_ h=>z7B hn ((h.ev (by simp[Op.operands])).trans hx) ((h.ev (by simp[Op.operands])).trans hy)⟩
theorem zSA:AOp P r E S ⟨some d,.binOp .geq tx x y tz,ty,pos,af,g⟩ d (.d (.v (.bool (decide (b<=a))))):=
 ⟨rfl,hn,λ_ h=>z7C hn ((h.ev (by simp[Op.operands])).trans hx) ((h.ev (by simp[Op.operands])).trans hy)⟩
theorem zUQ:AOp P r E S ⟨some d,.binOp .eql tx x y tz,ty,pos,af,g⟩ d (.d (.v (.bool (decide (a=b))))):=
 ⟨rfl,hn,λ_ h=>z7D hn ((h.ev (by simp[Op.operands])).trans hx) ((h.ev (by simp[Op.operands])).trans hy)⟩
theorem zN6:AOp P r E S ⟨some d,.binOp .neq tx x y tz,ty,pos,af,g⟩ d (.d (.v (.bool (!decide (a=b))))):=
 ⟨rfl,hn,λ_ h=>z7E hn ((h.ev (by simp[Op.operands])).trans hx) ((h.ev (by simp[Op.operands])).trans hy)⟩
end ints
theorem yKT {k K:IntKind} {x y:Operand} {a:Int} {m:Nat} {tx tz:TypeId} (z:d<E.n) (G:S.ev x= .d (.v (.int k a))) (H:S.ev y= .d (.v (.int K (m:Int))))
  (D:m<=k.bits):AOp P r E S ⟨some d,.binOp .shr tx x y tz,ty,pos,af,g⟩ d (.d (.v (.int k (a/2 ^ m)))):=
 ⟨rfl,z,λ_ h=>z7F z ((h.ev (by simp[Op.operands])).trans G) ((h.ev (by simp[Op.operands])).trans H) D⟩
theorem zQD {x:Operand} {b:Bool} {tx:TypeId} (k:d<E.n) (z:S.ev x= .d (.v (.bool b))):AOp P r E S ⟨some d,.unOp .not tx x,ty,pos,af,g⟩ d (.d (.v (.bool (!b)))):=
 ⟨rfl,k,λ_ h=>z7G k ((h.ev (by simp[Op.operands])).trans z)⟩
theorem zI5 {c:Operand} {t:Nat} {b k:Bool} (z:d<E.n) (D:S.ev c= .d (.v (.bool b))) (G:S.get t= .cond b (.d (.v (.bool k)))):
  AOp P r E S ⟨some d,.pick c (.tmp t) (.const (.bool false)),ty,pos,af,g⟩ d (.d (.v (.bool (b&&k)))):=
 ⟨rfl,z,λ_ h=>zTT z ((h.ev (by simp[Op.operands])).trans D) ((h.get t (by simp[Op.operands])).trans G)⟩
theorem zPE {c:Operand} {t:Nat} {b k:Bool} (z:d<E.n) (D:S.ev c= .d (.v (.bool b))) (G:S.get t= .cond (!b) (.d (.v (.bool k)))):
  AOp P r E S ⟨some d,.pick c (.const (.bool true)) (.tmp t),ty,pos,af,g⟩ d (.d (.v (.bool (b ||k)))):=
 ⟨rfl,z,λ_ h=>zV1 z ((h.ev (by simp[Op.operands])).trans D) ((h.get t (by simp[Op.operands])).trans G)⟩
section strs
variable {x y:Operand} {a b:ByteArray} {tx tz:TypeId} (hn:d<E.n) (hx:S.ev x= .d (.v (.string a))) (hy:S.ev y= .d (.v (.string b)))
include hn hx hy
theorem yHF:AOp P r E S ⟨some d,.binOp .eql tx x y tz,ty,pos,af,g⟩ d (.d (.v (.bool (a.toList==b.toList)))):=
 ⟨rfl,hn,λ_ h=>z4O hn ((h.ev (by simp[Op.operands])).trans hx) ((h.ev (by simp[Op.operands])).trans hy)⟩
theorem yHG:AOp P r E S ⟨some d,.binOp .neq tx x y tz,ty,pos,af,g⟩ d (.d (.v (.bool (!(a.toList==b.toList))))):=
 ⟨rfl,hn,λ_ h=>z4P hn ((h.ev (by simp[Op.operands])).trans hx) ((h.ev (by simp[Op.operands])).trans hy)⟩
theorem yHH:AOp P r E S ⟨some d,.binOp .lss tx x y tz,ty,pos,af,g⟩ d (.d (.v (.bool (Op.bytesLess a.toList b.toList)))):=
 ⟨rfl,hn,λ_ h=>z4Q hn ((h.ev (by simp[Op.operands])).trans hx) ((h.ev (by simp[Op.operands])).trans hy)⟩
end strs
theorem z0X {k z:IntKind} {x:Operand} {a:Int} {G td:TypeId} {ds:TypeDesc} (D:d<E.n) (K:P.underlying G=some ds) (H:P.underlying td=some (.int z)) (O:S.ev x= .d (.v (.int k a))):
  AOp P r E S ⟨some d,.convert G td x,ty,pos,af,g⟩ d (.d (.v (.int z (z.wrap a)))):=
 ⟨rfl,D,λ_ h=>zTU D K H ((h.ev (by simp[Op.operands])).trans O)⟩
theorem zPF {x:Operand} {i:Nat} {ds:List DV} {e:DV} (k:d<E.n) (z:S.ev x= .tup ds) (hi:ds[i]? =some e):AOp P r E S ⟨some d,.extract x i,ty,pos,af,g⟩ d (.d e):=
 ⟨rfl,k,λ_ h=>zV2 k ((h.ev (by simp[Op.operands])).trans z) hi⟩
theorem yCS {t e size bytes:Nat} {z:Value} {x:Operand} {cells:List DV} {n:Nat} (k:d<E.n) (D:SlTy P t e size bytes z) (H:S.ev x= .d (.sl size cells)) (G:cells.length=n*size):
  AOp P r E S ⟨some d,.call {callee:= .builtin .len,args:= #[x],argTypes:= #[t]},ty,pos,af,g⟩ d (.d (.v (.int .i64 n))):=
 ⟨rfl,k,λ_ h=>z0V k D ((h.ev (by simp[Op.operands,Call.operands])).trans H) G⟩
theorem z4V {t e size bytes:Nat} {z:Value} {x:Operand} {id:Nat} {K:Bool} {cells:List DV} {n:Nat} (k:d<E.n) (D:SlTy P t e size bytes z) (H:S.ev x= .row id) (hb:S.blk id= .row e size K cells) (G:cells.length=n*size):
  AOp P r E S ⟨some d,.call {callee:= .builtin .len,args:= #[x],argTypes:= #[t]},ty,pos,af,g⟩ d (.d (.v (.int .i64 n))):=
 ⟨rfl,k,λ_ h=>zV3 k D ((h.ev (by simp[Op.operands,Call.operands])).trans H) ((h.blk id).trans hb) G⟩
theorem z4W {t:TypeId} {x:Operand} {s:ByteArray} (k:d<E.n) (z:P.underlying t=some .string) (D:S.ev x= .d (.v (.string s))):
  AOp P r E S ⟨some d,.call {callee:= .builtin .len,args:= #[x],argTypes:= #[t]},ty,pos,af,g⟩ d (.d (.v (.int .i64 s.size))):=
 ⟨rfl,k,λ_ h=>zV4 k z ((h.ev (by simp[Op.operands,Call.operands])).trans D)⟩
theorem z4X {t e size bytes:Nat} {z:Value} {x H:Operand} {cells:List DV} {n k:Nat} {Z:IntKind} {i:Int} (G:d<E.n) (K:SlTy P t e size bytes z) (Y:S.ev x= .d (.sl size cells))
  (hi:S.ev H= .d (.v (.int Z i))) (O:i=(k:Int)) (T:cells.length=n*size) (D:k<n):
  AOp P r E S ⟨some d,.indexAddr t x H,ty,pos,af,g⟩ d (.ip cells (k*size)):=
 ⟨rfl,G,λ_ h=>zV5 G K ((h.ev (by simp[Op.operands])).trans Y) ((h.ev (by simp[Op.operands])).trans hi) O T D⟩
theorem zX6 {t e size bytes:Nat} {z:Value} {x H:Operand} {id:Nat} {sh:Bool} {cells:List DV} {n k:Nat} {Z:IntKind} {i:Int} (G:d<E.n) (K:SlTy P t e size bytes z) (Y:S.ev x= .row id)
  (hb:S.blk id= .row e size sh cells) (hi:S.ev H= .d (.v (.int Z i))) (O:i=(k:Int)) (T:cells.length=n*size) (D:k<n):
  AOp P r E S ⟨some d,.indexAddr t x H,ty,pos,af,g⟩ d (.ptr id (k*size)):=
 ⟨rfl,G,λ_ h=>zR0 G K ((h.ev (by simp[Op.operands])).trans Y) ((h.blk id).trans hb) ((h.ev (by simp[Op.operands])).trans hi) O T D⟩
theorem zBY {t:TypeId} {x:Operand} {cells:List DV} {off:Nat} {e:DV} (k:d<E.n) (z:OneTy P t) (G:S.ev x= .ip cells off) (D:cells[off]? =some e):
  AOp P r E S ⟨some d,.load t x,ty,pos,af,g⟩ d (.d e):=
 ⟨rfl,k,λ_ h=>zV6 k z ((h.ev (by simp[Op.operands])).trans G) D⟩
theorem zAL {t n:Nat} {x:Operand} {cells:List DV} {off:Nat} {es:List DV} (k:d<E.n) (z:AggTy P t n) (H:S.ev x= .ip cells off) (D:(cells.drop off).take n=es) (G:es.length=n):
  AOp P r E S ⟨some d,.load t x,ty,pos,af,g⟩ d (.d (.agg es)):=
 ⟨rfl,k,λ_ h=>zTV k z ((h.ev (by simp[Op.operands])).trans H) D G⟩
theorem zET {t:TypeId} {x:Operand} {id off eb:Nat} {cells:List AV} {av:AV} (k:d<E.n) (z:OneTy P t) (G:S.ev x= .ptr id off) (hb:S.blk id= .box eb cells) (D:cells[off]? =some av):
  AOp P r E S ⟨some d,.load t x,ty,pos,af,g⟩ d av:=
 ⟨rfl,k,λ_ h=>zTW k z ((h.ev (by simp[Op.operands])).trans G) ((h.blk id).trans hb) D⟩
theorem z0Y {t:TypeId} {x:Operand} {id off e size:Nat} {H:Bool} {cells:List DV} {y:DV} (k:d<E.n) (z:OneTy P t) (G:S.ev x= .ptr id off) (hb:S.blk id= .row e size H cells) (D:cells[off]? =some y):
  AOp P r E S ⟨some d,.load t x,ty,pos,af,g⟩ d (.d y):=
 ⟨rfl,k,λ_ h=>zTX k z ((h.ev (by simp[Op.operands])).trans G) ((h.blk id).trans hb) D⟩
theorem zX7 {t n:Nat} {x:Operand} {id off e size:Nat} {K:Bool} {cells es:List DV} (k:d<E.n) (z:AggTy P t n) (H:S.ev x= .ptr id off) (hb:S.blk id= .row e size K cells)
  (D:(cells.drop off).take n=es) (G:es.length=n):AOp P r E S ⟨some d,.load t x,ty,pos,af,g⟩ d (.d (.agg es)):=
 ⟨rfl,k,λ_ h=>zR1 k z ((h.ev (by simp[Op.operands])).trans H) ((h.blk id).trans hb) D G⟩
def unD:List AV->Option (List DV)
 | []=>some []
 | .d x::r=>match unD r with
  | some ys=>some (x::ys)
  | none=>none
 | _::_=>none
theorem zD0 (S:AState):∀{l:List AV} {ds:List DV},unD l=some ds->S.dvL l=some ds/\S.shareL l=S
 | [],ds,h=>by simp[unD] at h;subst h;exact⟨rfl,rfl⟩
 | .d x::l,ds,h=>by
  simp only[unD] at h;cases k:unD l with
  | none=>simp[k] at h
  | some ys=>
   simp[k] at h;subst h;obtain⟨z,D⟩:=zD0 S k;exact⟨by simp[AState.dvL,AState.dv,z],by simpa[AState.shareL,AState.shareAV] using D⟩
 | .top::_,_,h=>by simp[unD] at h
 | .row _::_,_,h=>by simp[unD] at h
 | .ptr _ _::_,_,h=>by simp[unD] at h
 | .ip _ _::_,_,h=>by simp[unD] at h
 | .tup _::_,_,h=>by simp[unD] at h
 | .cond _ _::_,_,h=>by simp[unD] at h
 | .gh _::_,_,h=>by simp[unD] at h
 | .rs _ _ _::_,_,h=>by simp[unD] at h
theorem zB2 {f:FuncId} {xs:List Operand} {ats:Array TypeId} {ds G:List DV} (D:d<E.n) (k:unD (xs.map S.ev)=some ds) (O:zH P f ds G) (hG:E.gdt=zAU P:=by rfl):
  AOp P r E S ⟨some d,.call {callee:= .value (.func f),args:=xs.toArray,argTypes:=ats},ty,pos,af,g⟩ d (zR7 G):=
 ⟨rfl,D,λS' h=>by
  have z:xs.map S'.ev=xs.map S.ev:=fS λx T=>h.ev (by simp[Op.operands,Call.operands,T]);obtain⟨H,K⟩:=zD0 S' k;have:=zUM (P:=P) (r:=r) (S:=S') (ty:=ty) (pos:=pos) (af:=af) (g:=g) (ats:=ats) D (by rw[z];exact H) O hG
  rwa [z,K] at this⟩
def zX8 (P:Program) (r:Option Nat) (E:Env) (ops:Array Oper) (o:Oper) (S S':AState):Prop:=
 ∀a w (K:Act->World->Prop) (Q:Exit->Act->World->Prop),Sat E S a w->(∀h w',Sat E S' h w'->K h w')->
  if Region.wanted o (yielded ops a.tmps) then o.wpIn (fen r) 0 P a w K Q else (∀f,o.about P w a.eval=some f->(fen r).fn f)/\K (a.put o.dst undef) w
def zX9 (P:Program) (r:Option Nat) (E:Env) (ops:Array Oper) (S:AState) (o:Oper) (d:Nat) (x:AV):Prop:=
 o.dst=some d/\d<E.n/\∀S',S'.blks=S.blks->(∀t∈o.looksAt ops,S'.get t=S.get t)->zX8 P r E ops o S' (S'.put d x)
theorem zPG {ops:Array Oper} {o:Oper} {t:Nat} (h:Operand.tmp t∈o.op.operands):t∈o.looksAt ops:=
 List.mem_append_left _ (List.mem_filterMap.2 ⟨.tmp t,by simpa using h,rfl⟩)
theorem zN7 {ops:Array Oper} {o:Oper} {S':AState} (k:o.guard=none) (h:jA P r E o S S'):zX8 P r E ops o S S':=λa w K Q D z=>by simp only[Region.wanted,k,dH];exact h a w K Q D z
theorem zYA {ops:Array Oper} {o:Oper} {x:AV} (k:o.guard=none) (h:AOp P r E S o d x):zX9 P r E ops S o d x:=
 ⟨h.1,h.2.1,λS' hb z=>zN7 k (h.2.2 S' ⟨hb,λt D=>z t (zPG D)⟩)⟩
theorem zYB {a:Act} {w:World} {c:Bool} {x:AV} (O:d<E.n) (K:c=true) (h:Sat E (S.put d x) a w):Sat E (S.put d (.cond c x)) a w:=by
 obtain⟨H,z,G,k⟩:=h;refine⟨H,z,G,⟨λu=>?_,k.blks,k.dist,by have:=k.frame;rw[zBX _ _ O] at this ⊢;exact this,k.sub,k.old,k.size,k.defers,k.cI,k.cB,k.nm⟩⟩
 have:=k.tmps u;rw[zAE] at this ⊢;by_cases e:d=u;simp only[e,dH] at this ⊢;exact⟨λ_=>this,λD=>by rw[K] at D;cases D⟩
 simp only[e,cY] at this ⊢;exact this
theorem zYC {ops:Array Oper} {o:Oper} {j t:Nat} {k b:Bool} {x:AV} (hg:o.guard=some (j,k)) (hj:(ops[j]?).bind (·.dst)=some t) (Z:o.dst=some d) (H:d<E.n) (K:t<E.n)
    (T:S.get t= .d (.v (.bool b))) (h:gd k b=true->AOp P r E S o d x):zX9 P r E ops S o d (.cond (gd k b) x):=by
  refine⟨Z,H,λS' hb hl a w Kn Q hs hk=>?_⟩;obtain⟨I,ρ,C,z⟩:=hs;have Y:t∈o.looksAt ops:=List.mem_append_right _ (by simp[hg,hj]);have hy:=z.yield (ops:=ops) hj ((hl t Y).trans T) K;have G:Region.wanted o (yielded ops a.tmps)=gd k b:=by
    simp only[Region.wanted,hg,hy];cases k<;>cases b<;>rfl
  rw[G];cases D:gd k b with
  | true=>
    simp only[dH];refine(h D).2.2 S' ⟨hb,λt T=>hl t (zPG T)⟩ a w Kn Q ⟨I,ρ,C,z⟩ λa' w' O=>hk a' w' ?_;rw[D];exact zYB H rfl O
  | false=>
    simp only[dR,cY];refine⟨λ_ _=>trivial,hk _ _ ?_⟩;rw[Z,D];exact⟨I,ρ,C,z.put H ⟨λhf=>(by cases hf),λ_=>rfl⟩⟩
theorem z4Y {ops:Array Oper} {o:Oper} {j t:Nat} {k b c:Bool} {x:AV} (hg:o.guard=some (j,k)) (hj:(ops[j]?).bind (·.dst)=some t) (Z:o.dst=some d) (H:d<E.n) (K:t<E.n)
    (T:S.get t= .cond c (.d (.v (.bool b)))) (h:(c&&gd k b)=true->AOp P r E S o d x):zX9 P r E ops S o d (.cond (c&&gd k b) x):=by
  refine⟨Z,H,λS' hb hl a w Kn Q hs hk=>?_⟩;obtain⟨I,ρ,C,z⟩:=hs;have Y:t∈o.looksAt ops:=List.mem_append_right _ (by simp[hg,hj]);have hy:=z.yield2 (ops:=ops) hj ((hl t Y).trans T) K;have G:Region.wanted o (yielded ops a.tmps)=(c&&gd k b):=by
    simp only[Region.wanted,hg,hy];cases k<;>cases b<;>cases c<;>rfl
  rw[G];cases D:(c&&gd k b) with
  | true=>
    simp only[dH];refine(h D).2.2 S' ⟨hb,λt T=>hl t (zPG T)⟩ a w Kn Q ⟨I,ρ,C,z⟩ λa' w' O=>hk a' w' ?_;rw[D];exact zYB H rfl O
  | false=>
    simp only[dR,cY];refine⟨λ_ _=>trivial,hk _ _ ?_⟩;rw[Z,D];exact⟨I,ρ,C,z.put H ⟨λhf=>(by cases hf),λ_=>rfl⟩⟩
def Sq (P:Program) (r:Option Nat) (E:Env) (ops:Array Oper):List Oper->AState->(AState->Prop)->Prop
 | [],S,J=>J S
 | o::rest,S,J=> ∃S',zX8 P r E ops o S S'/\Sq P r E ops rest S' J
theorem zE {ops:Array Oper} {J:AState->Prop} (h:J S):Sq P r E ops [] S J:=h
theorem yHI {ops:Array Oper} {o:Oper} {rest:List Oper} {J:AState->Prop} {x:AV} (h:zX9 P r E ops S o d x) (k:Sq P r E ops rest (S.put d x) J):Sq P r E ops (o::rest) S J:=
 ⟨_,h.2.2 S rfl (λ_ _=>rfl),k⟩
theorem yZ {ops:Array Oper} {o:Oper} {rest:List Oper} {J:AState->Prop} {S':AState} (z:o.guard=none) (h:jA P r E o S S') (k:Sq P r E ops rest S' J):Sq P r E ops (o::rest) S J:=
 ⟨_,zN7 z h,k⟩
theorem zHG {ops:Array Oper} {rest:List Oper} {J:AState->Prop} {S':AState} (H:zES E S S') (k:Sq P r E ops rest S' J) (z:rest≠[]):Sq P r E ops rest S J:=by
 cases rest with
 | nil=>exact absurd rfl z
 | cons o rest=>
  obtain⟨S2,h,k⟩:=k;exact⟨S2,λa w K Q G D=>h a w K Q (H a w G) D,k⟩
theorem Sq.wp {ops:Array Oper} {Q:Exit->Act->World->Prop}:∀(l:List Oper) {S:AState} {J:AState->Prop} (_:Sq P r E ops l S J) (a:Act) (w:World),Sat E S a w->(∀S' z w',J S'->Sat E S' z w'->Q .normal z w')->wpListIn (fen r) 0 P ops Q l a w
 | [],_,_,h,a,w,G,D=>D _ a w h G
 | _::l,_,_,⟨_,h,k⟩,a,w,G,D=>wpListIn_step λK O=>h a w K Q G λz w' H=>O z w' (Sq.wp l k z w' H D)
theorem wS {id:Nat} {l:List Oper} {K:Exit->AState->Prop} (h:Sq P r E l.toArray l S (K .normal)):Avc P r E (.region id l.toArray false) K S:=λa w D=>
 wpIn_region_lit (Sq.wp l h a w D λS' _ _ z k=>⟨S',z,k⟩)
end
open Go.RowKit
def aft (o:Oper):List Nat:=(o.after.toList.filter λe=>Region.binds .any e).map (·.on)
def clo:List Oper->List (List Nat)->List (List Nat)
 | [],acc=>acc
 | o::l,acc=>clo l (acc++ [((aft o).flatMap λj=>j::acc.getD j []).eraseDups])
inductive Reach (l:List Oper):Nat->Nat->Prop
 | one {i j:Nat} {o:Oper} (h:l[i]? =some o) (hj:j∈aft o):Reach l i j
 | more {i k j:Nat} {o:Oper} (h:l[i]? =some o) (hk:k∈aft o) (hr:Reach l k j):Reach l i j
theorem z4Z (G:List Oper):∀(l:List Oper) (acc:List (List Nat)),(∀(k:Nat) o,l[k]? =some o->G[acc.length+k]? =some o)->(∀i j,j∈acc.getD i []->Reach G i j)->∀i j,j∈(clo l acc).getD i []->Reach G i j:=by
 intro l
 induction l with
 | nil=>intro acc _ h i j hj;exact h i j hj
 | cons o l T=>
  intro acc O z;refine T _ (λk Y D=>?_) (λi j hj=>?_)
  ·have:=O (k+1) Y (by simpa using D)
   simp only[cZ,gW]
   rwa [show acc.length+1+k=acc.length+(k+1) by omega]
  ·have K:G[acc.length]? =some o:=by simpa using O 0 o rfl
   rcases Nat.lt_trichotomy i acc.length with H | heq | hgt
   ·have:(acc++ [((aft o).flatMap λj=>j::acc.getD j []).eraseDups]).getD i []=acc.getD i []:=by
     simp[List.getD,d5 H]
    rw[this] at hj;exact z i j hj
   ·subst heq
    have:(acc++ [((aft o).flatMap λj=>j::acc.getD j []).eraseDups]).getD acc.length []=((aft o).flatMap λj=>j::acc.getD j []).eraseDups:=by
     simp[List.getD]
    rw[this,List.mem_eraseDups,List.mem_flatMap] at hj;obtain⟨k,D,hj⟩:=hj;rcases dN.1 hj with rfl | hj
    ·exact .one K D
    ·exact .more K D (z k j hj)
   ·have:(acc++ [((aft o).flatMap λj=>j::acc.getD j []).eraseDups]).getD i []= []:=by
     simp only[List.getD];rw[fT (by simp;omega)]
     rfl
    rw[this] at hj;cases hj
def dstAt (l:List Oper) (i:Nat):Option Nat:=(l[i]?).bind (·.dst)
def zV7 (l:List Oper) (N:Nat):Bool:=
 let c:=clo l []
 decide (N<=l.length)&&
 (List.range l.length).all λi=>match l[i]? with
  | none=>true
  | some o=>
   ((aft o).all λj=>decide (j<i))&&
   (if i<N then
    ((o.looksAt l.toArray).all λt=>(List.range N).all λj=>(Nat.beq j i ||(dstAt l j != some t)) ||(if j<i then (c.getD i []).contains j else (c.getD j []).contains i))&&
    ((List.range N).all λj=>Nat.beq j i ||(dstAt l j != o.dst))
   else (List.range i).all λj=>(c.getD i []).contains j)
structure DrawOk (l:List Oper) (N:Nat):Prop where
 le:N<=l.length
 aft:∀i o,l[i]? =some o->∀j∈aft o,j<i
 looks:∀i o,i<N->l[i]? =some o->∀t∈o.looksAt l.toArray,∀j,j<N->j≠i->dstAt l j=some t->if j<i then Reach l i j else Reach l j i
 dist:∀i o,i<N->l[i]? =some o->∀j,j<N->j≠i->dstAt l j≠o.dst
 tail:∀i o,N<=i->l[i]? =some o->∀j,j<i->Reach l i j
theorem zYD {l:List Oper} {N:Nat} (h:zV7 l N=true):DrawOk l N:=by
 have O:∀i j,j∈(clo l []).getD i []->Reach l i j:=z4Z l l [] (λk o Z=>by simpa using Z) (λi j D=>by simp at D);simp only[zV7,dM,c8,eC,fO] at h;obtain⟨T,h⟩:=h;have hi:∀(i:Nat) o,l[i]? =some o->i<l.length:=λi o z=>(c9.1 z).1;refine⟨T,λi o z j D=>?_,λi o K z t ht j D G Y=>?_,λi o K z j D G=>?_,λi o K z j D=>?_⟩;have:=h i (hi i o z);simp only[z,dM,eC,c8] at this;exact this.1 j D;have:=h i (hi i o z);simp only[z,dM,eC,c8,K,dH,fO,fU,g4] at this;have h2:=this.2.1 t ht j D;rcases h2 with (h2 | h2) | h2
 exact absurd h2 G;rw[Y] at h2;simp at h2;by_cases H:j<i;simp only[H,dH] at h2 ⊢;exact O i j (by simpa using h2);simp only[H,cY] at h2 ⊢;exact O j i (by simpa using h2);have:=h i (hi i o z);simp only[z,dM,eC,c8,K,dH,fO,fU,g4] at this;rcases this.2.2 j D with h2 | h2
 exact absurd h2 G;simpa using h2;have:=h i (hi i o z);have hn:¬i<N:=by omega
 simp only[z,dM,eC,c8,hn,cY,fO] at this;exact O i j (by simpa using this.2 j D)
def DA (P:Program) (r:Option Nat) (E:Env) (ops:Array Oper):List Oper->AState->(AState->Prop)->Prop
 | [],S,J=>J S
 | o::rest,S,J=> ∃d x,zX9 P r E ops S o d x/\DA P r E ops rest (S.put d x) J
section
variable {P:Program} {r:Option Nat} {E:Env} {S:AState} {d:Nat}
theorem wU {ops:Array Oper} {J:AState->Prop} (h:J S):DA P r E ops [] S J:=h
theorem yKU {ops:Array Oper} {o:Oper} {rest:List Oper} {J:AState->Prop} {x:AV} (h:zX9 P r E ops S o d x) (k:DA P r E ops rest (S.put d x) J):DA P r E ops (o::rest) S J:=⟨d,x,h,k⟩
def zN8 (S:AState):List (Nat×AV)->AState
 | []=>S
 | p::h=>zN8 (S.put p.1 p.2) h
theorem zPH (S:AState) (h:List (Nat×AV)):(zN8 S h).blks=S.blks:=by
 induction h generalizing S with
 | nil=>rfl
 | cons q h k=>exact k _
theorem DA.list {ops:Array Oper}:∀(l:List Oper) {S:AState} {J:AState->Prop},DA P r E ops l S J->
  ∃z:List (Nat×AV),z.length=l.length/\J (zN8 S z)/\∀(i:Nat) o p,l[i]? =some o->z[i]? =some p->zX9 P r E ops (zN8 S (z.take i)) o p.1 p.2
 | [],S,_,h=>⟨[],rfl,h,by simp⟩
 | o::l,S,_,⟨d,x,h,k⟩=>by
  obtain⟨z,H,K,O⟩:=DA.list l k;refine⟨(d,x)::z,by simp[H],K,λi T p D G=>?_⟩;cases i with
  | zero=>simp at D G;subst D;subst G;exact h
  | succ i=>exact O i T p (by simpa using D) (by simpa using G)
theorem zYE (h:List (Nat×AV)):∀(S:AState),(∀(i j:Nat) p q,h[i]? =some p->h[j]? =some q->i≠j->p.1≠q.1)->
  (∀(i:Nat) p,h[i]? =some p->(zN8 S h).get p.1=p.2)/\∀t,(∀(i:Nat) p,h[i]? =some p->p.1≠t)->(zN8 S h).get t=S.get t:=by
 induction h with
 | nil=>intro S _;exact⟨by simp,λt _=>rfl⟩
 | cons q h Y=>
  intro S G;have z:∀(i j:Nat) p q,h[i]? =some p->h[j]? =some q->i≠j->p.1≠q.1:=λi j p q k T O=>G (i+1) (j+1) p q (by simpa using k) (by simpa using T) (by omega);obtain⟨K,D⟩:=Y (S.put q.1 q.2) z;refine⟨λi p k=>?_,λt H=>?_⟩
  ·cases i with
   | zero=>
    simp at k;subst k;show (zN8 (S.put q.1 q.2) h).get q.1=q.2;rw[D q.1 (λi p k=>G (i+1) 0 p q (by simpa using k) rfl (by omega)),zAE];simp
   | succ i=>exact K i p (by simpa using k)
  ·show (zN8 (S.put q.1 q.2) h).get t=S.get t
   rw[D t (λi p k=>H (i+1) p (by simpa using k)),zAE,dQ (H 0 q rfl)]
theorem zUR {S S':AState} (hb:S'.blks=S.blks) (G:∀t,S'.get t=S.get t) {a:Act} {w:World} (h:Sat E S a w):Sat E S' a w:=by
 obtain⟨I,ρ,C,h⟩:=h;have k:∀i,S'.blk i=S.blk i:=λi=>by unfold AState.blk;rw[hb]
 exact⟨I,ρ,C,⟨λt=>by rw[G];exact h.tmps t,λi=>by rw[k];exact h.blks i,λi O b H hi D=>h.dist i O b H (by rw[<-k];exact hi) (by rw[<-k];exact D),by have:=h.frame;unfold AState.ghost at this ⊢;rw[G];exact this,h.sub,h.old,h.size,h.defers,h.cI,λi b hi z=>h.cB i b (by rw[<-k];exact hi) z,λi v K hi=>h.nm i v K (by rw[<-k];exact hi)⟩⟩
theorem zYF {S:AState} {a:Act} {w:World} (h:Sat E S a w):Sat E S a {w with drawn:=w.drawn+1}:=by obtain⟨I,ρ,C,h⟩:=h;exact⟨I,ρ,C,h.grow (Below.drew (Below.refl _ _))⟩
structure Lst (S:AState) (ps:List (Nat×AV)) (L:Nat->Bool) (S':AState):Prop where
 blks:S'.blks=S.blks
 yes:∀(i:Nat) p,ps[i]? =some p->L i=true->S'.get p.1=p.2
 no:∀t,(∀(i:Nat) p,ps[i]? =some p->L i=true->p.1≠t)->S'.get t=S.get t
def unl (listed:Array Bool):Nat:=(listed.toList.filter (λb=>!b)).length
theorem z2H {listed:Array Bool} {i:Nat} (h:listed[i]? =some false):unl (listed.setIfInBounds i true)+1=unl listed:=by
 obtain⟨D,K⟩:=cU.1 h;unfold unl;rw[Array.toList_setIfInBounds];have z:i<listed.toList.length:=by simpa using D
 have k:listed.toList=listed.toList.take i++false::listed.toList.drop (i+1):=by
  have H:listed.toList[i]=false:=by simpa using K
  have G:listed.toList.drop i=listed.toList[i]::listed.toList.drop (i+1):=dA z;rw[H] at G;rw[<-G,em]
 rw[gx,dK z]
 conv=>rhs;rw[k]
 simp;omega
theorem zI6 {l:List Oper} {listed:Array Bool} {i:Nat} (h:i∈Region.ready .any l.toArray listed):
  i<l.length/\listed.getD i true=false/\∀o,l[i]? =some o->∀j∈aft o,listed.getD j false=true:=by
 simp only[Region.ready,fA,fO,dM,fW,fZ] at h;obtain⟨z,D,h3⟩:=h;refine⟨z,D,λo H j k=>?_⟩;simp only[eW,H,eX,gO,Array.all_eq_true_iff_forall_mem,fU,fW] at h3;simp only[aft,eJ,fA] at k;obtain⟨e,⟨G,hb⟩,rfl⟩:=k;rcases h3 e (by simpa using G) with h3 | h3
 ·rw[hb] at h3;cases h3
 ·exact h3
theorem zYG {l:List Oper} {listed:Array Bool} {i:Nat} {o:Oper} (h:l[i]? =some o) (k:listed.getD i true=false) (z:∀j∈aft o,listed.getD j false=true):
  i∈Region.ready .any l.toArray listed:=by
 simp only[Region.ready,fA,fO,dM,fW,fZ];refine⟨(c9.1 h).1,k,?_⟩;simp only[eW,h,eX,gO,Array.all_eq_true_iff_forall_mem,fU,fW];intro e D;cases hb:Region.binds .any e with
 | false=>exact .inl rfl
 | true=>exact .inr (z e.on (by simp only[aft,eJ,fA];exact⟨e,⟨by simpa using D,hb⟩,rfl⟩))
structure Down (l:List Oper) (listed:Array Bool):Prop where
 size:listed.size=l.length
 down:∀(i:Nat) o,l[i]? =some o->listed.getD i false=true->∀j∈aft o,listed.getD j false=true
theorem Down.reach {l:List Oper} {listed:Array Bool} (h:Down l listed) {i j:Nat} (O:Reach l i j) (hi:∀o,l[i]? =some o->∀k∈aft o,listed.getD k false=true):listed.getD j false=true:=by
 induction O with
 | one D H=>exact hi _ D _ H
 | more D K _ T=>exact T λZ G Y z=>h.down _ Z G (hi _ D _ K) Y z
theorem Down.set {l:List Oper} {listed:Array Bool} (h:Down l listed) {i:Nat} (hi:∀o,l[i]? =some o->∀k∈aft o,listed.getD k false=true):Down l (listed.setIfInBounds i true):=by
 have mono:∀k,listed.getD k false=true->(listed.setIfInBounds i true).getD k false=true:=by
  intro k z;simp only[dJ] at z ⊢;by_cases e:i=k;subst e;by_cases G:i<listed.size;simp[G];simp[G] at z;rw[dZ e];exact z
 refine⟨by simp[h.size],λj o H D k z=>mono k ?_⟩;by_cases e:i=j;subst e;exact hi o H k z;refine h.down j o H ?_ k z;simp only[dJ] at D ⊢
 rwa [dZ e] at D
theorem zKL {listed:Array Bool} {i k:Nat} (hi:i<listed.size):(listed.setIfInBounds i true).getD k false=(if i=k then true else listed.getD k false):=by simp only[dJ];by_cases e:i=k;subst e;simp[hi];rw[dZ e,dQ e]
theorem zUS {l:List Oper} {N:Nat} (D:DrawOk l N) {listed:Array Bool} (K:listed.size=l.length) (h:Region.ready .any l.toArray listed= []):∀i,i<l.length->listed.getD i false=true:=by
 intro i
 induction i using Nat.strongRecOn with
 | _ i O=>
  intro hi;cases hb:listed.getD i false with
  | true=>rfl
  | false=>
   exfalso;have z:i<listed.size:=by omega
   have G:listed.getD i true=false:=by simpa[dJ,z] using hb
   have:=zYG (l:=l) (o:=l[i]) (cV hi) G (λj H=>by
    have k:=D.aft i _ (cV hi) j H;exact O j k (by omega))
   rw[h] at this;cases this
theorem zYH {listed:Array Bool} (h:unl listed=0):∀i,i<listed.size->listed.getD i false=true:=by intro i hi;unfold unl at h;have:=cS h;rw[List.filter_eq_nil_iff] at this;have k:=this listed[i] (by simp);simp[dJ,hi];simpa using k
theorem zUT {l:List Oper} {listed:Array Bool} (h:∀i,i<l.length->listed.getD i false=true) (G:listed.size=l.length):Region.ready .any l.toArray listed= []:=by
 apply List.eq_nil_iff_forall_not_mem.2;intro i hi;obtain⟨D,k,_⟩:=zI6 hi;have:=h i D;have z:i<listed.size:=by omega
 simp[dJ,z] at this k;rw[this] at k;cases k
variable {l:List Oper} {N:Nat} {Q:Exit->Act->World->Prop}
theorem z7M (ac:DrawOk l N) {J:AState->Prop} (hq:∀S' a' w',J S'->Sat E S' a' w'->Q .normal a' w'):
  ∀(fuel m:Nat) (listed:Array Bool) (S:AState) (a:Act) (w:World),N<=m->Down l listed->unl listed<=fuel->(∀i,i<l.length->(listed.getD i false=true↔i<m))->
   Sq P r E l.toArray (l.drop m) S J->Sat E S a w->wpAnyIn (fen r) 0 P .any l.toArray Q fuel listed a w:=by
 intro fuel
 induction fuel with
 | zero=>
  intro m listed S a w hm H hu T z hs;have D:∀i,i<l.length->listed.getD i false=true:=λi hi=>zYH (by omega) i (by rw[H.size];exact hi)
  have K:l.length<=m:=by
   rcases fI m l.length with h | h
   ·have:=(T m h).1 (D m h);omega
   ·exact h
  rw[dE K] at z;exact⟨zUT D H.size,hq S a w z hs⟩
 | succ fuel ih=>
  intro m listed S a w hm H hu T z hs;refine⟨λab=>?_,λi hi=>?_⟩
  ·have D:=zUS ac H.size ab
   have K:l.length<=m:=by
    rcases fI m l.length with h | h
    ·have:=(T m h).1 (D m h);omega
    ·exact h
   rw[dE K] at z;exact hq S a w z hs
  ·obtain⟨h1,h2,h3⟩:=zI6 hi
   have G:i<listed.size:=by rw[H.size];exact h1
   have aa:=cV h1;have Y:listed.getD i false=false:=by simpa[dJ,G] using h2
   have ao:m<=i:=by
    rcases fI i m with h | h
    ·have:=(T i h1).2 h;rw[Y] at this;cases this
    ·exact h
   have Z:i=m:=by
    rcases fI m i with h | h
    ·have hr:=ac.tail i _ (by omega) aa m h
     have:=H.reach hr h3;have:=(T m (by omega)).1 this;omega
    ·omega
   subst Z;rw[dA h1] at z;obtain⟨S',O,ad⟩:=z;have aj:listed[i]? =some false:=by
    have:listed[i]=false:=by simpa[dJ,G] using Y
    rw[fJ G,this]
   unfold wpOpIn;simp only[eW,aa];refine O a w _ Q hs λa' w' ak=>?_;refine ih (i+1) _ S' a' w' (by omega) (H.set h3) (by have:=z2H aj;omega) (λk hk=>?_) ad ak
   rw[zKL G];by_cases e:i=k
   ·subst e;simp
   ·simp only[e,cY]
    rw[T k hk];omega
theorem z40 (aj:DrawOk l N) {J:AState->Prop} (hq:∀S' a' w',J S'->Sat E S' a' w'->Q .normal a' w') (S:AState) (O:List (Nat×AV)) (ca:O.length=N)
  (hA:∀(i:Nat) o p,i<N->l[i]? =some o->O[i]? =some p->zX9 P r E l.toArray (zN8 S (O.take i)) o p.1 p.2) (hB:Sq P r E l.toArray (l.drop N) (zN8 S O) J):
  ∀(fuel:Nat) (listed:Array Bool) (S':AState) (a:Act) (w:World),Down l listed->unl listed<=fuel->(∀i,N<=i->i<l.length->listed.getD i false=false)->
   Lst S O (λi=>listed.getD i false) S'->Sat E S' a w->wpAnyIn (fen r) 0 P .any l.toArray Q fuel listed a w:=by
 have cm:=aj.le;have Z:∀(i:Nat) p,O[i]? =some p->∃o,l[i]? =some o/\i<N/\o.dst=some p.1:=by
  intro i p G;have hi:i<N:=by rw[<-ca];exact(c9.1 G).1
  have ab:=cV (l:=l) (i:=i) (by omega);exact⟨_,ab,hi,(hA i _ p hi ab G).1⟩
 have D:∀(i j:Nat) p q,O[i]? =some p->O[j]? =some q->i≠j->p.1≠q.1:=by
  intro i j p q G ak ay he;obtain⟨o,ho,hi,hd⟩:=Z i p G;obtain⟨o',az,hj,bo⟩:=Z j q ak;refine aj.dist i o hi ho j hj (λe=>ay e.symm) ?_;simp only[dstAt,az,Option.bind_some,bo,hd,he]
 have ar:∀S',Lst S O (λ_=>true) S'->∀t,S'.get t=(zN8 S O).get t:=by
  intro S' h t;obtain⟨g1,g2⟩:=zYE O S D;by_cases al:∃(i:Nat) (p:Nat×AV),O[i]? =some p/\p.1=t
  ·obtain⟨i,p,G,rfl⟩:=al
   rw[h.yes i p G rfl,g1 i p G]
  ·have an:∀(i:Nat) p,O[i]? =some p->p.1≠t:=λi p G e=>al ⟨i,p,G,e⟩
   rw[h.no t (λi p G _=>an i p G),g2 t an]
 intro fuel
 induction fuel with
 | zero=>
  intro listed S' a w hd hu hN Y hs;have K:∀i,i<l.length->listed.getD i false=true:=λi hi=>zYH (by omega) i (by rw[hd.size];exact hi)
  have aw:N=l.length:=by
   rcases fI N l.length with h | h
   ·have:=hN N (dF _) h;rw[K N h] at this;cases this
   ·omega
  rw[aw,dE (dF _)] at hB;refine⟨zUT K hd.size,hq _ a w hB (zUR (by rw[zPH,Y.blks]) (λt=>(ar S' ⟨Y.blks,λi p G _=>Y.yes i p G ?_,λt ht=>Y.no t λi p G _=>ht i p G rfl⟩ t).symm) hs)⟩;exact K i (by obtain⟨_,_,h,_⟩:=Z i p G;omega)
 | succ fuel ih=>
  intro listed S' a w hd hu hN Y hs;have ah:(∀i,i<N->listed.getD i false=true)->Sat E (zN8 S O) a w:=λh=>
   zUR (by rw[zPH,Y.blks]) (λt=>(ar S' ⟨Y.blks,λi p G _=>Y.yes i p G (h i (Z i p G).choose_spec.2.1),λt ht=>Y.no t λi p G _=>ht i p G rfl⟩ t).symm) hs
  refine⟨λbi=>?_,λi hi=>?_⟩
  ·have K:=zUS aj hd.size bi
   have aw:N=l.length:=by
    rcases fI N l.length with h | h
    ·have:=hN N (dF _) h;rw[K N h] at this;cases this
    ·omega
   have ao:=ah λi hi=>K i (by omega);rw[aw,dE (dF _)] at hB;exact hq _ a w hB ao
  ·obtain⟨h1,h2,h3⟩:=zI6 hi
   have ad:i<listed.size:=by rw[hd.size];exact h1
   have ab:=cV h1;have ax:listed.getD i false=false:=by simpa[dJ,ad] using h2
   have bu:listed[i]? =some false:=by
    have:listed[i]=false:=by simpa[dJ,ad] using ax
    rw[fJ ad,this]
   by_cases bg:i<N
   ·have bz:i<O.length:=by omega
    have G:=cV bz;obtain⟨ci,cj,ba⟩:=hA i _ _ bg ab G;have bn:∀t∈(l[i]).looksAt l.toArray,S'.get t=(zN8 S (O.take i)).get t:=by
     intro t ht;have ap:∀(a b:Nat) p q,(O.take i)[a]? =some p->(O.take i)[b]? =some q->a≠b->p.1≠q.1:=by
      intro a b p q G ak ay;rw[d8] at G ak;split at G
      ·split at ak
       ·exact D a b p q G ak ay
       ·cases ak
      ·cases G
     obtain⟨g1,g2⟩:=zYE (O.take i) S ap;have H:∀(k:Nat) p,(O.take i)[k]? =some p->k<i/\O[k]? =some p:=by
      intro k p z;rw[d8] at z;split at z
      ·exact⟨by assumption,z⟩
      ·cases z
     by_cases al:∃(j:Nat) (q:Nat×AV),O[j]? =some q/\q.1=t
     ·obtain⟨j,q,ag,rfl⟩:=al
      obtain⟨o',az,bq,bp⟩:=Z j q ag;have bf:dstAt l j=some q.1:=by simp[dstAt,az,bp]
      by_cases bh:j=i
      ·subst bh
       rw[Y.no q.1 (λk p z T he=>by
         have:k=j:=by
          rcases Nat.decEq k j with h | h
          ·exact absurd he (D k j p q z ag h)
          ·exact h
         subst this;rw[ax] at T;cases T),
        g2 q.1 (λk p z he=>by
         obtain⟨br,ac⟩:=H k p z;exact D k j p q ac ag (by omega) he)]
      ·have:=aj.looks i _ bg ab q.1 ht j bq bh bf
       by_cases am:j<i
       ·simp only[am,dH] at this
        have bv:=hd.reach this h3;rw[Y.yes j q ag bv];exact(g1 j q (by rw[d8,dK am];exact ag)).symm
       ·simp only[am,cY] at this
        have bw:listed.getD j false=false:=by
         cases hb:listed.getD j false with
         | false=>rfl
         | true=>
          have:=hd.reach this (λo ho k z=>hd.down j o ho hb k z);rw[ax] at this;cases this
        rw[Y.no q.1 (λk p z T he=>by
          have:k=j:=by
           rcases Nat.decEq k j with h | h
           ·exact absurd he (D k j p q z ag h)
           ·exact h
          subst this;rw[bw] at T;cases T),
         g2 q.1 (λk p z he=>by
          obtain⟨br,ac⟩:=H k p z;exact D k j p q ac ag (by omega) he)]
     ·have an:∀(k:Nat) p,O[k]? =some p->p.1≠t:=λk p z e=>al ⟨k,p,z,e⟩
      rw[Y.no t (λk p z _=>an k p z),g2 t (λk p z=>an k p (H k p z).2)]
    have ao:=ba S' (by rw[zPH,Y.blks]) bn;unfold wpOpIn;simp only[eW,ab];refine ao a w _ Q hs λa' w' cc=>?_;refine ih _ (S'.put O[i].1 O[i].2) a' w' (hd.set h3) (by have:=z2H bu;omega) (λk z bt=>?_) ⟨Y.blks,λk p z T=>?_,λt ht=>?_⟩ cc
    ·rw[zKL ad,dQ (by omega)];exact hN k z bt
    ·rw[zKL ad] at T
     rw[zAE];by_cases e:i=k
     ·subst e
      rw[G] at z;cases z;simp
     ·simp only[e,cY] at T
      rw[dQ (D i k _ p G z e)];exact Y.yes k p z T
    ·rw[zAE,dQ (ht i _ G (by rw[zKL ad];simp))]
     exact Y.no t λk p z T=>ht k p z (by rw[zKL ad];split<;>simp_all)
   ·have aa:∀k,k<i->listed.getD k false=true:=λk z=>hd.reach (aj.tail i _ (by omega) ab k z) h3
    have cf:i=N:=by
     rcases fI N i with h | h
     ·have:=aa N h;rw[hN N (dF _) (by omega)] at this;cases this
     ·omega
    have ao:=ah λk z=>aa k (by omega);have bb:=z7M (P:=P) (r:=r) aj hq (fuel+1) N listed (zN8 S O) a w (dF _) hd hu (λk z=>⟨λac=>(by
      rcases fI k N with h | h
      ·exact h
      ·rw[hN k h z] at ac;cases ac),λac=>aa k (by omega)⟩) hB ao
    exact bb.2 i hi
theorem zGN {id:Nat} {K:Exit->AState->Prop} {S:AState} (N:Nat) (hm:P.follows .mixedOrders=true) (k:zV7 l N=true)
  (h:DA P r E l.toArray (l.take N) S (λO=>Sq P r E l.toArray (l.drop N) O (K .normal))):Avc P r E (.region id l.toArray true) K S:=by
 intro a w hs;have G:=zYD k;obtain⟨H,T,Y,Z⟩:=DA.list _ h;have z:H.length=N:=by rw[T,d9];have:=G.le;omega
 refine wpIn_region_any hm (z40 G (J:=K .normal) (λS' a' w' hj D=>⟨S',hj,D⟩) S H z (λi o p hi ho hp=>Z i o p (by rw[d8,dK hi];exact ho) hp) Y _ _ S a _ ⟨by simp,λi o _ hi=>?_⟩ ?_ (λi _ hi=>by simp[hi]) ⟨rfl,λi p _ hi=>?_,λt _=>rfl⟩ (zYF hs))
 ·simp[dJ,Array.getElem?_replicate] at hi
  split at hi<;>simp at hi
 ·simp[unl]
 ·simp[dJ,Array.getElem?_replicate] at hi
  split at hi<;>simp at hi
end
open Go.RowKit
def di (n:Int):DV:= .v (.int .i64 n)
def db (b:Bool):DV:= .v (.bool b)
theorem w64 {n:Int} (h: -9223372036854775808<=n) (k:n<=9223372036854775807):IntKind.i64.wrap n=n:=IntWalk.i64_in _ (by omega)
def Cov (S:AState):List (Nat×AV)->Prop
 | []=>True
 | p::r=>S.get p.1=p.2/\Cov S r
def zMW (S:AState):List (Nat×Blk)->Prop
 | []=>True
 | p::r=>S.blk p.1=p.2/\zMW S r
theorem z7N {E : Env} {S S' : AState} (ht : Cov S S'.tmps) (hb : zMW S S'.blks) (hgh : ∀ C w, E.fr S.ghost C w -> E.fr S'.ghost C w := by exact λ_ _ h => h) : zES E S S' := by
  have h1 : ∀ l, Cov S l -> ∀ p ∈ l, S.get p.1 = p.2 := by
    intro l
    induction l with
    | nil => intro _ p hp; cases hp
    | cons q l ih => intro h p hp; rcases dN.1 hp with rfl | hp
                     · exact h.1
                     · exact ih h.2 p hp
  have h2 : ∀ l, zMW S l -> ∀ p ∈ l, S.blk p.1 = p.2 := by
    intro l
    induction l with
    | nil => intro _ p hp; cases hp
    | cons q l ih => intro h p hp; rcases dN.1 hp with rfl | hp
                     · exact h.1
                     · exact ih h.2 p hp
  exact yCR (λp hp => .inl (h1 _ ht p hp)) (h2 _ hb) hgh
section
variable {P:Program} {r:Option Nat} {E:Env} {S:AState} {d:Nat} {ty:TypeId} {pos:String} {af:Array Edge} {g:Option (Nat×Bool)}
theorem zDR {x:Operand} {y:AV} (h:d<E.n) (k:S.ev x=y):AOp P r E S ⟨some d,.move x,ty,pos,af,g⟩ d y:=k▸yHE h
theorem zHH {x:Operand} {y:AV} (h:d<E.n) (k:S.ev x=y):AOp P r E S ⟨some d,.assign x,ty,pos,af,g⟩ d y:=k▸z7L h
theorem xX {x:Operand} {y:DV} (h:d<E.n) (k:S.ev x= .d y):AOp P r E S ⟨some d,.move x,ty,pos,af,g⟩ d (.d y):=zDR h k
theorem zMX {x:Operand} {i:Nat} (h:d<E.n) (k:S.ev x= .row i):AOp P r E S ⟨some d,.move x,ty,pos,af,g⟩ d (.row i):=zDR h k
theorem zSB {x:Operand} {i k:Nat} (h:d<E.n) (z:S.ev x= .ptr i k):AOp P r E S ⟨some d,.move x,ty,pos,af,g⟩ d (.ptr i k):=zDR h z
theorem zSC {x:Operand} {c:List DV} (h:d<E.n) (k:S.ev x= .tup c):AOp P r E S ⟨some d,.move x,ty,pos,af,g⟩ d (.tup c):=zDR h k
theorem zSD {x:Operand} {y:DV} (h:d<E.n) (k:S.ev x= .d y):AOp P r E S ⟨some d,.assign x,ty,pos,af,g⟩ d (.d y):=zHH h k
theorem zV8 {x:Operand} {i:Nat} (h:d<E.n) (k:S.ev x= .row i):AOp P r E S ⟨some d,.assign x,ty,pos,af,g⟩ d (.row i):=zHH h k
theorem zF4 {x:Operand} {i k:Nat} (h:d<E.n) (z:S.ev x= .ptr i k):AOp P r E S ⟨some d,.assign x,ty,pos,af,g⟩ d (.ptr i k):=zHH h z
section
variable {ops:Array Oper} {o:Oper} {rest:List Oper} {J:AState->Prop} {j t:Nat} {want b c:Bool} {x:AV}
theorem yKV (G:o.guard=some (j,want)) (H:(ops[j]?).bind (·.dst)=some t) (D:o.dst=some d) (K:d<E.n) (z:t<E.n) (O:S.get t= .d (.v (.bool b)))
    (h:gd want b=true->AOp P r E S o d x) (k:Sq P r E ops rest (S.put d (.cond (gd want b) x)) J):Sq P r E ops (o::rest) S J:=yHI (zYC G H D K z O h) k
theorem zEO (G:o.guard=some (j,want)) (H:(ops[j]?).bind (·.dst)=some t) (D:o.dst=some d) (K:d<E.n) (z:t<E.n) (O:S.get t= .cond c (.d (.v (.bool b))))
    (h:(c&&gd want b)=true->AOp P r E S o d x) (k:Sq P r E ops rest (S.put d (.cond (c&&gd want b) x)) J):Sq P r E ops (o::rest) S J:=yHI (z4Y G H D K z O h) k
theorem yKW (G:o.guard=some (j,want)) (H:(ops[j]?).bind (·.dst)=some t) (D:o.dst=some d) (K:d<E.n) (z:t<E.n) (O:S.get t= .d (.v (.bool b)))
    (h:gd want b=true->AOp P r E S o d x) (k:DA P r E ops rest (S.put d (.cond (gd want b) x)) J):DA P r E ops (o::rest) S J:=yKU (zYC G H D K z O h) k
end
def yKX (P:Program) (r:Option Nat) (E:Env) (y:Code) (K:Exit->AState->Prop):Exit->AState->Prop
 | .normal,S=>Avc P r E y K S
 | e,S=>K e S
theorem yP {x y:Code} {K:Exit->AState->Prop} (h:Avc P r E x (yKX P r E y K) S):Avc P r E (.seq x y) K S:=
 yCQ λJ z=>zX0 h λe S' k=>by
  cases e with
  | normal=>exact z S' k
  | _=>exact k
theorem yQ {id:Nat} {l:List Oper} {K:Exit->AState->Prop} (z:P.follows .mixedOrders=true) (k:zV7 l l.length=true) (h:DA P r E l.toArray l S (K .normal)):Avc P r E (.region id l.toArray true) K S:=
 zGN l.length z k (by rw[List.take_length,hF];exact h)
theorem zDO {c:Operand} {x y:Code} {K:Exit->AState->Prop} {b:Bool} (k:S.ev c= .d (.v (.bool b))) (h:(b=true->Avc P r E x K S)/\(b=false->Avc P r E y K S)):Avc P r E (.cond c x y) K S:=
 z7J k h.1 h.2
end
def AState.app (S:AState) (id:Nat) (news:List DV):AState:=S.setBlk id ((S.blk id).appended news)
section
variable {P:Program} {r:Option Nat} {E:Env} {S:AState} {d:Nat} {ty:TypeId} {pos:String} {af:Array Edge} {g:Option (Nat×Bool)}
theorem z7O (S:AState) (id:Nat) (news:List DV):(S.kill id).app id news=(S.kill id).setBlk id (zRA id (S.blk id) |>.appended news):=by unfold AState.app;rw[zGK]
theorem z7P {t e size bytes:Nat} {z:Value} {s x:Operand} {id:Nat} {sh:Bool} {cells news:List DV} {n m:Nat} (Z:d<E.n) (T:SlTy P t e size bytes z) (hs:S.ev s= .row id) (hb:S.blk id= .row e size sh cells)
  (hx:S.dv (S.ev x)=some (.sl size news)) (Y:cells.length=n*size) (H:news.length=m*size) (G:0<bytes) (h:(n+m)*bytes<=140737488355328) (O:E.wrB=true) (K:E.nm id=none):
  jA P r E ⟨some d,.call {callee:= .builtin .append,args:= #[s,x],argTypes:= #[t,t]},ty,pos,af,g⟩ S ((((S.shareAV (S.ev x)).kill id).app id news).put d (.row id)):=by
 have k:n+m<=maxLen:=by
  have:(n+m)*1<=(n+m)*bytes:=hQ _ G;simp only[maxLen];omega
 have:=zX2 (P:=P) (r:=r) (ty:=ty) (pos:=pos) (af:=af) (g:=g) Z T hs hb hx Y H h k O K;rw[z7O];obtain⟨ad,D⟩:=zMF (x:=S.ev x) hb;rw[D] at this ⊢;exact this
theorem z0Z {t e size bytes:Nat} {z:Value} {s x:Operand} {id:Nat} {sh:Bool} {cells news:List DV} {n m:Nat} (Y:d<E.n) (O:SlTy P t e size bytes z) (Z:S.ev s= .row id) (hb:S.blk id= .row e size sh cells)
  (H:S.ev x= .d (.sl size news)) (T:cells.length=n*size) (D:news.length=m*size) (k:0<bytes) (h:(n+m)*bytes<=140737488355328) (K:E.wrB=true) (G:E.nm id=none):
  jA P r E ⟨some d,.call {callee:= .builtin .append,args:= #[s,x],argTypes:= #[t,t]},ty,pos,af,g⟩ S (((S.kill id).app id news).put d (.row id)):=by
 have:=z7P (P:=P) (r:=r) (ty:=ty) (pos:=pos) (af:=af) (g:=g) Y O Z hb (by rw[H];rfl) T D k h K G
 rw[H] at this;exact this
theorem zH6 {t:TypeId} {x y:Operand} {id off eb:Nat} {cells:List AV} {u:DV} (G:OneTy P t) (H:S.ev x= .ptr id off) (hb:S.blk id= .box eb cells) (h:off<cells.length)
  (k:S.ev y= .d u) (z:(AV.d u).one=true) (D:E.wrB=true):jA P r E ⟨none,.store t x y,ty,pos,af,g⟩ S (S.setBlk id (.box eb (cells.set off (.d u)))):=by
 have:=zGL (P:=P) (r:=r) (E:=E) (ty:=ty) (pos:=pos) (af:=af) (g:=g) (y:=y) G H hb h (by rw[k];exact z) (by rw[k];rfl) D
 rwa [k] at this
theorem zQT {t:TypeId} {x y:Operand} {id off eb i:Nat} {cells:List AV} (G:OneTy P t) (H:S.ev x= .ptr id off) (hb:S.blk id= .box eb cells) (h:off<cells.length)
  (k:S.ev y= .row i) (z:zQA S (.row i)=true) (D:E.wrB=true):jA P r E ⟨none,.store t x y,ty,pos,af,g⟩ S (S.setBlk id (.box eb (cells.set off (.row i)))):=by
 have:=zGL (P:=P) (r:=r) (E:=E) (ty:=ty) (pos:=pos) (af:=af) (g:=g) (y:=y) G H hb h (by rw[k];rfl) (by rw[k];exact z) D
 rwa [k] at this
theorem z00 {f:FuncId} {xs:List Operand} {ats:Array TypeId} {h:List AV} {ds D:List DV} (H:d<E.n) (z:xs.map S.ev=h) (k:S.dvL h=some ds) (G:zH P f ds D) (hG:E.gdt=zAU P:=by rfl):
  jA P r E ⟨some d,.call {callee:= .value (.func f),args:=xs.toArray,argTypes:=ats},ty,pos,af,g⟩ S ((S.shareL h).put d (zR7 D)):=by
 subst z;exact zUM H k G hG
theorem SatAt.newImm {A:Act} {w:World} {I:Im} {ρ:Nat->Value} {C:Nat->Prop} (G:SatAt E S A w I ρ C) {e size n:Nat} {xs:List Value} {cells:List DV} (K:cells.length=n*size) (D:Reps w I xs cells) (T:∀x∈xs,x.oneCell'=true):
  ∃z:Im,SatAt E S A (w.alloc (.cells xs.toArray e)) z ρ C/\Rep (w.alloc (.cells xs.toArray e)) z (.slice (some ⟨w.heap.size,0,none⟩) n n) (.sl size cells):=by
 have H:∀b j,I b j->b<w.heap.size:=λb j h=>(G.old b j h).1;have Z:=G.grow (w':=w.alloc (.cells xs.toArray e)) ((Below.refl _ _).alloc (dF _) _)
 let z:Im:=λb j=>I b j\/b=w.heap.size
 have k:∀b j,I b j->z b j:=λ_ _ h=> .inl h;refine⟨z,Z.widen (B:=w.heap.size) k (λb j hi=>?_) (λi b hi hb=>(G.blt i b hi hb).2) (E.size _ _ _ G.frame) (λb Y=>E.csize _ _ _ G.frame b Y),?_⟩
 ·rcases hi with hi | hi
  ·exact⟨by simp;have:=H b j hi;omega,.inl hi⟩
  ·exact⟨by simp;omega,.inr (by omega)⟩
 ·by_cases O:n=0
  ·subst O
   have:cells= []:=cS (by simpa using K);subst this;exact .nil _ _ _
  ·refine .sl _ 0 n n size xs cells (by omega) (dF _) K D.1 (λj x hj=>⟨?_,.inr rfl⟩) T (D.mono (zDN _ H) k).2
   rw[eD,World.cell?_alloc_new];simpa using hj
theorem z7Q {t e size bytes:Nat} {z:Value} {len:Nat} {H:List (Nat×Operand)} {ds:List DV} (hn:d<E.n) (hT:SlTy P t e size bytes z) (G:H=zAG 0 (H.map Prod.snd)) (T:H.length=len)
    (K:unD ((H.map Prod.snd).map S.ev)=some ds) (ai:ds.all (okDV size)=true) (ax:len*size<=16777216):
    jA P r E ⟨some d,.buildSlice t len H.toArray,ty,pos,af,g⟩ S (S.put d (.d (.sl size (ds.flatMap w8)))):=
  uE (by simp) λA w I ρ C hs=>by
    generalize ak:H.map Prod.snd=xs at G K;obtain⟨ad,ag⟩:=zD0 S K;obtain⟨I1,h1,h2,h3⟩:=SatAt.dvL _ hs (uB hs xs) ad;rw[ag] at h2;obtain⟨a1,a2,a3,a4⟩:=zPD h3 ai;have D:(xs.map A.eval).length=len:=by rw[<-T,<-ak];simp
    have ah:ds.length=len:=by rw[<-h3.1];exact D
    obtain⟨I2,ab,aa⟩:=h2.newImm (e:=e) (size:=size) (n:=len) (by rw[a4,ah]) a1 a2;refine⟨.slice (some ⟨w.heap.size,0,none⟩) len len,_,?_,I2,_,C,ab.put hn aa⟩;obtain⟨i,hi,hz,aw,ar⟩:=hT.info;have k:=zX4 size (xs.map A.eval) 0 ((Array.range (len*size)).map ((if len*size=0 then (#[]:Array Value) else z.cells)[· % (if len*size=0 then (#[]:Array Value) else z.cells).size]!)) a3 (by simp[<-D]);have Y:H.toArray.map (λp:Nat×Operand=>(p.1,A.eval p.2))=(zAG 0 (xs.map A.eval)).toArray:=by
      rw[G,eH,zI4]
    have Z:¬(len*size > 2 ^ 24):=by omega
    simp only[gz,ik,dS,eD,D] at k;rw[dE (by simp)] at k;simp only[ez] at k ⊢;simp only[execOp,Instr.buildSlice,cW,dL hT.und,cX,hT.size w,Z,cY,dU];by_cases h0:len*size=0
    · have O:len=0:=by
        rcases Nat.mul_eq_zero.1 h0 with h | h
        · exact h
        · have:=hT.pos;omega
      have aj:xs= []:=cS (by simpa[O] using D);subst aj;subst O;simp[Y,zAG,Instr.fill,newRow,Array.range_zero']
    · simp only[h0,cY] at k ⊢
      simp[zeroValue,typeInfo,hi,hz,Y,k,newRow]
theorem zYI {t e size bytes:Nat} {z:Value} {len:Nat} {k:List (Nat×Operand)} {ds cells:List DV} (T:d<E.n) (Y:SlTy P t e size bytes z) (G:k=zAG 0 (k.map Prod.snd)) (D:k.length=len)
  (H:unD ((k.map Prod.snd).map S.ev)=some ds) (K:ds.all (okDV size)=true) (O:len*size<=16777216) (Z:ds.flatMap w8=cells):
  AOp P r E S ⟨some d,.buildSlice t len k.toArray,ty,pos,af,g⟩ d (.d (.sl size cells)):=
 ⟨rfl,T,λS' h=>by
  subst Z;have he:(k.map Prod.snd).map S'.ev=(k.map Prod.snd).map S.ev:=fS λx hx=>h.ev (by simp[Op.operands];simpa using hx)
  exact z7Q T Y G D (by rw[he];exact H) K O⟩
end
open Go.RowKit
def dby (n:Int):DV:= .v (.int .u8 n)
def DV.bytes (l:List Int):DV:= .sl 1 (l.map dby)
section
variable {P:Program} {r:Option Nat} {E:Env} {S:AState} {d:Nat} {ty:TypeId} {pos:String} {af:Array Edge} {g:Option (Nat×Bool)}
theorem yKY {k:IntKind} {x y:Operand} {a b:Int} {ats:Array TypeId} (G:d<E.n) (K:S.ev x= .d (.v (.int k a))) (O:S.ev y= .d (.v (.int k b))):
  AOp P r E S ⟨some d,.call {callee:= .builtin .min,args:= #[x,y],argTypes:=ats},ty,pos,af,g⟩ d (.d (.v (.int k (min a b)))):=
 ⟨rfl,G,λS' h=>k9 rfl G (by simp) λA w I ρ C H=>by
  have z:=(h.ev (x:=x) (by simp[Op.operands,Call.operands])).trans K;have D:=(h.ev (x:=y) (by simp[Op.operands,Call.operands])).trans O;simp only[execOp,resolve,eH,ey,fF,H.val z,H.val D];simp[invoke,builtin,Builtin.min_,Builtin.min2];split<;>omega⟩
theorem zYJ {k:IntKind} {x y:Operand} {a b:Int} {ats:Array TypeId} (G:d<E.n) (K:S.ev x= .d (.v (.int k a))) (O:S.ev y= .d (.v (.int k b))):
  AOp P r E S ⟨some d,.call {callee:= .builtin .max,args:= #[x,y],argTypes:=ats},ty,pos,af,g⟩ d (.d (.v (.int k (max a b)))):=
 ⟨rfl,G,λS' h=>k9 rfl G (by simp) λA w I ρ C H=>by
  have z:=(h.ev (x:=x) (by simp[Op.operands,Call.operands])).trans K;have D:=(h.ev (x:=y) (by simp[Op.operands,Call.operands])).trans O;simp only[execOp,resolve,eH,ey,fF,H.val z,H.val D];simp[invoke,builtin,Builtin.max_,Builtin.max2];split<;>omega⟩
theorem z7R {t:TypeId} {x H:Operand} {s:ByteArray} {k:Nat} {kk:IntKind} {i:Int} (K:d<E.n) (hu:P.underlying t=some .string) (hx:S.ev x= .d (.v (.string s))) (hi:S.ev H= .d (.v (.int kk i))) (Z:i=(k:Int)) (z:k<s.size):
  AOp P r E S ⟨some d,.index t x H,ty,pos,af,g⟩ d (.d (.v (.int .u8 (s.data.toList.getD k 0).toNat))):=
 ⟨rfl,K,λS' h=>k9 rfl K (by simp) λA w I ρ C O=>by
  subst Z;have G:=(h.ev (x:=x) (by simp[Op.operands])).trans hx;have D:=(h.ev (x:=H) (by simp[Op.operands])).trans hi;have T:s[k]? =some (s.data.toList.getD k 0):=by
   have Y:k<s.data.size:=z;have:s[k]? =some s[k]:=by simp[getElem?_pos,z]
   rw[this];simp only[List.getD,Array.getElem?_toList,fJ Y];rfl
  simp only[execOp,O.val G,O.val D];simp[Instr.index,asIntOf,dL hu,T]⟩
theorem xF (w:World) (k:IntKind) (i y:Nat) (z:BoundsCode) (h:i<=y):(Instr.sliceBound (.int k i) y z).run P w= .ok i w:=by simp[Instr.sliceBound,asIntOf,h]
structure Bd (S:AState) (n:Nat) (lo hi:Option Operand) (l h:Nat):Prop where
 lo:match lo with
  | none=>l=0
  | some x=> ∃k i,S.ev x= .d (.v (.int k i))/\i=(l:Int)
 hi:match hi with
  | none=>h=n
  | some x=> ∃k i,S.ev x= .d (.v (.int k i))/\i=(h:Int)
 le:l<=h
 len:h<=n
theorem zLR (w:World) {t e size:Nat} (O:P.underlying t=some (.slice e)) (H:(sizeOf e).run P w= .ok size w) (A:Option Addr) (n c l h:Nat) (lo hi:Option Value) (G:lo=none/\l=0\/∃k,lo=some (.int k l)) (D:hi=none/\h=n\/∃k,hi=some (.int k h))
    (z:l<=h) (Y:h<=n) (T:n<=c):(Instr.sliceAt t (.slice A n c) lo hi none).run P w= .ok (.slice (if c=l then A else A.map (·.add (l*size))) (h-l) (c-l)) w:=by
  have hb:(Instr.sliceBounds true n c lo hi none).run P w= .ok (l,h,c) w:=by
    rcases G with ⟨rfl,rfl⟩ | ⟨k,rfl⟩<;>rcases D with ⟨rfl,rfl⟩ | ⟨K,rfl⟩
    · simp[Instr.sliceBounds]
    · simp[Instr.sliceBounds,xF (P:=P) w K h c _ (by omega)]
    · simp[Instr.sliceBounds,xF (P:=P) w k l h _ z]
    · simp[Instr.sliceBounds,xF (P:=P) w K h c _ (by omega),xF (P:=P) w k l h _ z]
  simp[Instr.sliceAt,Instr.slice,dL O,hb,H]
theorem Bd.vals {n l h:Nat} {lo hi:Option Operand} (hb:Bd S n lo hi l h) {A:Act} {w:World} {I:Im} {ρ:Nat->Value} {C:Nat->Prop} (D:SatAt E S A w I ρ C):
  (lo.map A.eval=none/\l=0\/∃k,lo.map A.eval=some (.int k l))/\(hi.map A.eval=none/\h=n\/∃k,hi.map A.eval=some (.int k h)):=by
 constructor
 ·cases lo with
  | none=>exact .inl ⟨rfl,hb.lo⟩
  | some x=>obtain⟨k,i,z,rfl⟩:=hb.lo;exact .inr ⟨k,by simp[D.val z]⟩
 ·cases hi with
  | none=>exact .inl ⟨rfl,hb.hi⟩
  | some x=>obtain⟨k,i,z,rfl⟩:=hb.hi;exact .inr ⟨k,by simp[D.val z]⟩
theorem Bd.agree {n l h:Nat} {lo hi:Option Operand} {t:TypeId} {x:Operand} {H:Option Operand} {S':AState} (hb:Bd S n lo hi l h) (G:Agree S S' ⟨some d,.slice t x lo hi H,ty,pos,af,g⟩):Bd S' n lo hi l h:=by
 refine⟨?_,?_,hb.le,hb.len⟩;cases lo with
 | none=>exact hb.lo
 | some y=>obtain⟨k,i,z,D⟩:=hb.lo;exact⟨k,i,(G.ev (by simp[Op.operands])).trans z,D⟩
 cases hi with
 | none=>exact hb.hi
 | some y=>obtain⟨k,i,z,D⟩:=hb.hi;exact⟨k,i,(G.ev (by simp[Op.operands])).trans z,D⟩
theorem zUU {w:World} {I:Im} {A:Option Addr} {n c l h size:Nat} {cells:List DV} (hr:Rep w I (.slice A n c) (.sl size cells)) (hl:cells.length=n*size) (hp:0<size) (ac:l<=h) (hn:h<=n):
    Rep w I (.slice (if c=l then A else A.map (·.add (l*size))) (h-l) (c-l)) (.sl size ((cells.take (h*size)).drop (l*size))):=by
  by_cases T:h-l=0
  · have:(cells.take (h*size)).drop (l*size)= []:=by
      apply dE;rw[d9];have:h*size<=l*size:=dY _ (by omega);omega
    rw[this,T];exact .nil _ _ _
  · obtain⟨A',n',c',xs,hv,O,ab,K,Y,H⟩:=Rep.sl_inv hr
    cases hv;obtain⟨b,off,rfl,G⟩:=H (by omega);rw[dQ (by omega)];simp only[eX,vU];have Z:h*size<=n*size:=dY _ hn;have z:((cells.take (h*size)).drop (l*size)).length=(h-l)*size:=by
      rw[eM,d9,hl,Nat.sub_mul];omega
    have k:=(K.take (h*size)).drop (l*size);refine .sl b (off+l*size) (h-l) (c-l) size ((xs.take (h*size)).drop (l*size)) _ (by omega) (by omega) z k.1 (λj x D=>?_) (λx hx=>Y x (eF (eU hx))) k.2;rw[eO,d8] at D;split at D
    · rw[gv];exact G _ x D
    · cases D
theorem zPI {t e size bytes:Nat} {z:Value} {x:Operand} {lo hi:Option Operand} {cells k:List DV} {n l h:Nat} (hn:d<E.n) (H:SlTy P t e size bytes z) (hx:S.ev x= .d (.sl size cells)) (hl:cells.length=n*size)
  (hb:Bd S n lo hi l h) (hc:(cells.take (h*size)).drop (l*size)=k):AOp P r E S ⟨some d,.slice t x lo hi none,ty,pos,af,g⟩ d (.d (.sl size k)):=
 ⟨rfl,hn,λS' Z=>zQ rfl hn (by simp) λA w I ρ C hs=>by
  have Y:=hs.ev x;rw[(Z.ev (x:=x) (by simp[Op.operands])).trans hx] at Y;have D:Rep w I (A.eval x) (.sl size cells):=Y;obtain⟨A',n',c,xs,hv,G,O,_⟩:=Rep.sl_inv D;obtain rfl:=zFW O hl H.pos;obtain⟨T,K⟩:=(hb.agree Z).vals hs;subst hc;rw[hv] at D;refine⟨_,?_,zUU D hl H.pos hb.le hb.len⟩;simp only[execOp,hv,cW,gu,zLR w H.und (H.size w) A' n' c l h _ _ T K hb.le hb.len G];rfl⟩
theorem yCT {w:World} {I:Im} {ρ:Nat->Value} {M:Nat->Prop} {id e size:Nat} {Z:Bool} {cells:List DV} {n:Nat} (h:BlkOk w I ρ M id (.row e size Z cells)) (Y:cells.length=n*size):
  ∃A c,ρ id= .slice A n c/\n<=c/\(0<n->∃b,blockOf (ρ id)=some b/\A=some ⟨b,0,none⟩):=by
 obtain⟨T,n',xs,D,k,_⟩:=h;obtain rfl:=zFW D Y T.1;rcases k.2 with ⟨z,rfl⟩ | ⟨O,H,K,z,_,_,G,_⟩
 ·exact⟨_,_,z,by omega,λh=>absurd h (by omega)⟩
 ·exact⟨_,_,z,G,λ_=>⟨O,by rw[z];rfl,rfl⟩⟩
theorem zYK {t e size bytes:Nat} {z:Value} {x:Operand} {lo hi:Option Operand} {id:Nat} {sh:Bool} {cells:List DV} {n l h:Nat} (hn:d<E.n) (hT:SlTy P t e size bytes z) (hx:S.ev x= .row id) (T:S.blk id= .row e size sh cells) (hl:cells.length=n*size)
    (hb:Bd S n lo hi l h):AOp P r E S ⟨some d,.slice t x lo hi none,ty,pos,af,g⟩ d (.rs id (l*size) (h-l)):=
  ⟨rfl,hn,λS' H=>zQ rfl hn (by simp) λA w I ρ C hs=>by
    have h1:=hs.ev x;rw[(H.ev (x:=x) (by simp[Op.operands])).trans hx] at h1;have hv:A.eval x= ρ id:=h1;have hk:=hs.blks id;rw[(H.blk id).trans T] at hk;obtain⟨G,c,ab,D,k⟩:=yCT hk hl;obtain⟨Z,Y⟩:=(hb.agree H).vals hs;have ah:=hb.len;have ak:=hb.le;refine⟨_,?_,(if c=l then G else G.map (·.add (l*size))),c-l,rfl,by omega,λh0=>?_⟩
    · simp only[execOp,hv,ab,cW,gu,zLR w hT.und (hT.size w) G n c l h _ _ Z Y hb.le hb.len D]
      rfl
    · obtain⟨b,K,O⟩:=k (by omega)
      refine⟨b,K,?_⟩;rw[dQ (by omega),O];simp[vU]⟩
theorem SatAt.congr' {S':AState} {A:Act} {w:World} {I:Im} {ρ:Nat->Value} {C:Nat->Prop} (h:SatAt E S A w I ρ C) (G:∀t,S'.get t=S.get t) (k:∀i,S'.blk i=S.blk i):SatAt E S' A w I ρ C:=
 ⟨λt=>by rw[G];exact h.tmps t,λi=>by rw[k];exact h.blks i,λi O b H hi D=>h.dist i O b H (by rw[<-k];exact hi) (by rw[<-k];exact D),by have:=h.frame;unfold AState.ghost at this ⊢;rw[G];exact this,h.sub,h.old,h.size,h.defers,h.cI,λi b hi z=>h.cB i b (by rw[<-k];exact hi) z,λi v K hi=>h.nm i v K (by rw[<-k];exact hi)⟩
def spl (cells:List DV) (off:Nat) (news:List DV):List DV:=cells.take off++news++cells.drop (off+news.length)
theorem zI7 {t e size:Nat} (K:P.underlying t=some (.slice e)) (w w':World) (z:(sizeOf e).run P w= .ok size w) (D B:Option Addr) (G O m H:Nat) (ys:List Value)
  (h:(Builtin.firstCells size (Nat.min m G) (.slice B m H)).run P w= .ok ys.toArray w) (k:match D with | some a=>(storeCells a ys).run P w= .ok () w' | none=>w'=w):
  (Builtin.copy_ #[t,t] ty #[.slice D G O,.slice B m H]).run P w= .ok (.int .i64 (Nat.min m G)) w':=by
 cases D with
 | none=>simp only at k;subst k;simp[Builtin.copy_,dL K,Builtin.lenOf,z,h,goInt]
 | some a=>simp only at k;simp[Builtin.copy_,dL K,Builtin.lenOf,z,h,k,goInt]
theorem z2J {k:TypeId} {x:Operand} {u:DV} (K:d<E.n) (O:S.ev x= .d u) (H:(AV.d u).one=true) (D:E.nm d=none):
  jA P r E ⟨some d,.box k x,ty,pos,af,g⟩ S (((S.kill d).setBlk d (.box k [.d u])).put d (.ptr d 0)):=
 uE (by simp) λA w I ρ C G=>by
  have h:=G.ev x;rw[O] at h;have z:=zMU G.blks h H (by intro _ e;cases e)
  have hb:=G.newBox (id:=d) (e:=k) (arr:= #[A.eval x]) (cells:=[.d u]) (Pw.cons h Pw.nil) (by simpa using z) D;refine⟨.pointer (some ⟨w.heap.size,0,none⟩),w.alloc (.cells #[A.eval x] k),?_,I,_,C,hb.put K ⟨w.heap.size,by simp[upd,blockOf],rfl⟩⟩;simp only[execOp,Instr.box,newVar,zIK z];simp[newRow]
theorem zS {t id e:Nat} {cells:List AV} {ds:List DV} (hn:t<E.n) (ht:S.get t= .ptr id 0) (hb:S.blk id= .box e cells) (T:unD cells=some ds):zES E S ((S.setBlk id .none).put t (.d (.pt ds))):=by
 rintro a w ⟨I,ρ,C,h⟩
 have hk:=h.blks id;rw[hb] at hk;obtain⟨b,arr,O,hM,hh,h1,D,hI⟩:=hk;have Y:S.blk id≠ .none:=by rw[hb];simp
 have Z:=h.blt id b Y (by rw[O];rfl)
 have K:Reps w I arr.toList ds:=by
  clear hb hh h1;generalize arr.toList=xs at D
  induction cells generalizing xs ds with
  | nil=>simp[unD] at T;subst T;have:xs= []:=cS D.1;subst this;exact Pw.nil
  | cons c cells ih=>
   cases xs with
   | nil=>have:=D.1;simp at this
   | cons x xs=>
    cases c with
    | d y=>
     simp only[unD] at T;cases hu:unD cells with
     | none=>simp[hu] at T
     | some ys=>
      simp[hu] at T;subst T;exact Pw.cons (D.2 0 x (.d y) rfl rfl) (ih hu xs ⟨by have:=D.1;simpa using this,λj u z hu hz=>D.2 (j+1) u z (by simpa using hu) (by simpa using hz)⟩)
    | _=>simp[unD] at T
 let I':Im:=λG j=>I G j\/G=b
 have k:∀b j,I b j->I' b j:=λ_ _ h=> .inl h;have key:∀i,(S.setBlk id .none).blk i≠ .none->S.blk i≠ .none/\i≠id:=by
  intro i hi;rw[yB] at hi;by_cases e:id=i;subst e;simp at hi;simp only[e,cY] at hi;exact⟨hi,λe'=>e e'.symm⟩
 refine⟨I',ρ,C,⟨λu=>?_,λi=>?_,λi i' G ag hi ad=>h.dist i i' G ag (key i hi).1 (key i' ad).1,by rw[zBX _ _ hn];exact h.frame,λb j hi=>k b j (h.sub b j hi),λG j hi=>?_,h.size,h.defers,λG j hi=>?_,λi G hi H=>h.cB i G (key i hi).1 H,λi v hv hi=>h.nm i v hv (key i hi).1⟩⟩
 rw[zAE];by_cases e:t=u;subst e;simp only[dH];have:=h.tmps t;rw[ht] at this;obtain⟨G,H,hv⟩:=this;rw[O] at H;simp[blockOf] at H;subst H;rw[hv];have ah:=K.mono (kM I w) k;exact Rep.pt b 0 arr.toList ds K.1 (λj x hj=>⟨by rw[eD,e7 w b j arr e (0,0) hh];simpa using hj,.inr rfl⟩) h1 ah.2
 simp only[e,cY];exact(h.tmps u).mono (kM I w) k;show BlkOk w I' ρ E.mine i ((S.setBlk id .none).blk i);by_cases e:id=i;subst e;rw[yB];simp only[dH];trivial;rw[yB,dQ e];refine(h.blks i).widenI k λb2 j hx ac hi=>?_;rcases hi with hi | hi
 exact hi;subst hi;exact absurd ac (h.dist id i b2 e Y hx (by rw[O];rfl))
 rcases hi with hi | hi;exact h.old G j hi;subst hi;exact⟨Z.2,.inr Z.1⟩;rcases hi with hi | hi;exact h.cI G j hi;subst hi;exact h.cB id G Y (by rw[O];rfl)
theorem z41 {t:TypeId} {x:Operand} {cells:List DV} {e:DV} (O:d<E.n) (T:OneTy P t) (hx:S.ev x= .d (.pt cells)) (K:cells[0]? =some e):
  AOp P r E S ⟨some d,.load t x,ty,pos,af,g⟩ d (.d e):=
 ⟨rfl,O,λS' Y=>zQ rfl O (by simp) λA w I ρ C hs=>by
  have h:=hs.ev x;rw[(Y.ev (x:=x) (by simp[Op.operands])).trans hx] at h;have H:Rep w I (A.eval x) (.pt cells):=h;generalize hv:A.eval x=v at H;cases H with
  | pt b o xs cells G z h1 Z=>
   have D:0<xs.length:=by rw[G];exact(c9.1 K).1
   have k:=cV D;refine⟨xs[0],?_,Z 0 _ e k K⟩;have:=(z 0 _ k).1;simp only[fH] at this;simp only[execOp,hv,cW,zFG w T b o _ this];rfl⟩
theorem z01 {f:FuncId} {h:List Operand} {ds:List DV} (O:d<E.n) (D:unD (h.map S.ev)=some ds):
  AOp P r E S ⟨some d,.makeFunc (.func f) #[] h.toArray,ty,pos,af,g⟩ d (.d (.fn f ds)):=
 ⟨rfl,O,λS' Z=>zQ rfl O (by simp) λA w I ρ C hs=>by
  have K:h.map S'.ev=h.map S.ev:=fS λx hx=>Z.ev (by simp[Op.operands];simpa using hx)
  rw[<-K] at D;obtain⟨T,Y⟩:=zD0 S' D;have k:Reps w I (h.map A.eval) ds:=by
   have:=uB hs h;generalize h.map A.eval=vs at this ⊢;generalize h.map S'.ev=H at this D;clear T Y K
   induction H generalizing vs ds with
   | nil=>simp[unD] at D;subst D;have:vs= []:=cS this.1;subst this;exact Pw.nil
   | cons c cells ih=>
    cases vs with
    | nil=>have:=this.1;simp at this
    | cons x xs=>
     cases c with
     | d y=>
      simp only[unD] at D;cases G:unD cells with
      | none=>simp[G] at D
      | some ys=>
       simp[G] at D;subst D;exact Pw.cons (this.2 0 x (.d y) rfl rfl) (ih xs ⟨by have:=this.1;simpa using this,λj u z G hz=>this.2 (j+1) u z (by simpa using G) (by simpa using hz)⟩ G)
     | _=>simp[unD] at D
  refine⟨.func (.func f) #[] (h.map A.eval).toArray,?_,.fn f _ ds k.1 k.2⟩;simp[execOp,Instr.makeFunc]⟩
theorem yCU {f:FuncId} {x:Operand} {xs:List Operand} {ats:Array TypeId} {h ds rs:List DV} (hn:d<E.n) (hx:S.ev x= .d (.fn f h)) (Z:unD (xs.map S.ev)=some ds) (hc:zH P f (ds++h) rs) (hG:E.gdt=zAU P:=by rfl):
  AOp P r E S ⟨some d,.call {callee:= .value x,args:=xs.toArray,argTypes:=ats},ty,pos,af,g⟩ d (zR7 rs):=
 ⟨rfl,hn,λS' ha=>by
  have he:xs.map S'.ev=xs.map S.ev:=fS λx hx=>ha.ev (by simp[Op.operands,Call.operands,hx]);rw[<-he] at Z;obtain⟨am,an⟩:=zD0 S' Z
  rintro A w K Q ⟨I,ρ,C,hs⟩ hk
  obtain⟨⟨fn,hf,T,H⟩,O⟩:=hc;obtain⟨I1,h1,G,h3⟩:=SatAt.dvL _ hs (uB hs xs) am;rw[an] at G;have ag:=hs.ev x;rw[(ha.ev (x:=x) (by simp[Op.operands,Call.operands])).trans hx] at ag;have k:Rep w I (A.eval x) (.fn f h):=ag;generalize ar:A.eval x=vx at k;cases k with
  | fn f D h al ak=>
   have Y:Reps w I1 D h:=⟨al,λj u z hu hz=>(ak j u z hu hz).mono (kM I w) h1⟩;have aj:=O w I1 (xs.map A.eval++D) (λb j hi=>(G.old b j hi).1) (hG▸G.gl) (Pw.append h3 Y);refine⟨λf _=>trivial,?_⟩;rw[Oper.semAt_eq _ _ _ (by simp)];have ac:(execOp A.eval ⟨some d,.call {callee:= .value x,args:=xs.toArray,argTypes:=ats},ty,pos,af,g⟩).run P w= .ok (.enter f (xs.map A.eval++D).toArray) w:=by
    simp only[execOp,resolve,ar,Deferred.ofValue];have ao:¬fn.name= "runtime.NumGoroutine" :=by simpa using T
    have ap:¬fn.body=none:=by intro e;simp[e] at H
    simp[invoke,callFunc,hf,ao,ap,eH]
   rw[ac];refine⟨by simp[fen,Fence.wide],?_⟩;show CallsIn Fence.wide 0 P f _ w _;refine gy.2 (aj.mono ?_)
   rintro e w' ⟨v,I',rfl,hb,ad,aa,ab⟩
   refine hk _ _ ⟨I',ρ,C,SatAt.put ?_ hn (zHF ab)⟩;have h4:=G.grow hb;exact h4.widen ad aa (λi b hi ah=>(G.blt i b hi ah).2) (E.size _ _ _ G.frame) (λb hc=>E.csize _ _ _ G.frame b hc)⟩
end
open Go.RowKit
section
variable {P:Program} {r:Option Nat} {E:Env} {S:AState} {d:Nat} {ty:TypeId} {pos:String} {af:Array Edge} {g:Option (Nat×Bool)}
def DV.isV:DV->Bool
 | .v _=>true
 | _=>false
theorem z7T {w w':World} {I z:Im} {xs:List Value} {ds:List DV} (h:Reps w I xs ds) (G:ds.all DV.isV=true):Reps w' z xs ds:=by
 refine⟨h.1,λj x d H k=>?_⟩;have:=eC.1 G d (eT k);have D:=h.2 j x d H k;cases d with
 | v u=>cases D;exact .v _
 | _=>simp[DV.isV] at this
def Env.own (w0:World) (I0:Im) (v:Value) (n:Nat) (O:n<=1000000):Env where
 B:=w0.heap.size
 I0:=I0
 n:=n
 fr:=λ_ C w=>(w0.grownBy w v.ownBlock/\Same I0 w0 w)/\(∀b j,I0 b j->b<w0.heap.size)/\∀b,¬C b
 wrB:=true
 nle:=O
 mine:=λb=>w0.heap.size<=b\/v.ownBlock=some b
 mineB:=λ_ h=> .inl h
 nm:=λ_=>none
 size:=λ_ _ _ h=>h.1.1.size
 csize:=λ_ _ _ h b hb=>absurd hb (h.2.2 b)
 grow:=λ_ _ w w' h hb=>⟨⟨⟨hb.os.trans h.1.1.os,hb.tape.trans h.1.1.tape,hb.output.trans h.1.1.output,d7 h.1.1.size hb.size,λk D z=>(hb.block k (eP D h.1.1.size)).trans (h.1.1.block k D z)⟩,
  λb j hi=>(KeepB.of (hb.block b (eP (h.2.1 b j hi) h.1.1.size))).trans (h.1.2 b j hi)⟩,h.2⟩
 wr:=λ_ _ _ w w' row h G T K=>⟨⟨⟨G.os.trans h.1.1.os,G.tape.trans h.1.1.tape,G.output.trans h.1.1.output,d7 h.1.1.size G.size,λk D z=>(G.block k (eP D h.1.1.size) (λe=>by
   rcases (T k e).1 with h1 | h1
   ·omega
   ·exact z h1.symm)).trans (h.1.1.block k D z)⟩,λb j hi=>(K b j hi).trans (h.1.2 b j hi)⟩,h.2⟩
 turn:=λ_ _ _ w w' l h Y H K=>⟨⟨⟨H.os.trans h.1.1.os,H.tape.trans h.1.1.tape,H.output.trans h.1.1.output,by rw[H.size];exact h.1.1.size,λk D z=>(H.blk k (by omega)).trans (h.1.1.block k D z)⟩,λb j hi=>(K b j hi).trans (h.1.2 b j hi)⟩,h.2⟩
 gdt:=λ_=>none
 gl:=λ_ _ _ _=>GlI.none
end
end Go.AV


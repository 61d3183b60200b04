/- The layer of abstract values: what a temporary holds, said once; every rule of it is proved from the model. Conditions: none. -/
import Derived.WalkKit
import Derived.TacticsIn
import Derived.OrdersIn
import Derived.RangeFuncLeaves
import Derived.Deep.AppendLies
import Derived.Below
import Derived.LoopNIn
import Derived.IntWalk
import Derived.Laws.BytesArg
import Derived.RangeFuncIn
set_option linter.unusedSimpArgs false
set_option linter.unusedVariables false
set_option linter.unnecessarySimpa false
namespace Go
open Go.RowKit
theorem cN:type_of% @cond_false:=@cond_false
theorem cO:type_of% @cond_true:=@cond_true
theorem cP:type_of% @List.eq_nil_of_length_eq_zero:=@List.eq_nil_of_length_eq_zero
theorem cQ:type_of% @Sem.run_bind:=@Sem.run_bind
theorem cS:type_of% @List.getElem?_eq_getElem:=@List.getElem?_eq_getElem
theorem cU:type_of% @Array.getElem?_eq_some_iff:=@Array.getElem?_eq_some_iff
theorem cV:type_of% @Result.andThen_ok:=@Result.andThen_ok
theorem cW:type_of% @List.drop_eq_getElem_cons:=@List.drop_eq_getElem_cons
theorem cX:type_of% @List.length_append:=@List.length_append
theorem cY:type_of% @if_false:=@if_false
theorem cZ:type_of% @decide_eq_true_eq:=@decide_eq_true_eq
theorem c8:type_of% @List.getElem?_eq_some_iff:=@List.getElem?_eq_some_iff
theorem c9:type_of% @List.append_assoc:=@List.append_assoc
theorem dA:type_of% @decide_true:=@decide_true
theorem dB:type_of% @decide_eq_false_iff_not:=@decide_eq_false_iff_not
theorem dC:type_of% @Nat.le_refl:=@Nat.le_refl
theorem dD:type_of% @Bool.not_true:=@Bool.not_true
theorem dE:type_of% @List.drop_of_length_le:=@List.drop_of_length_le
theorem dF:type_of% @decide_false:=@decide_false
theorem dG:type_of% @if_pos:=@if_pos
theorem dH:type_of% @if_true:=@if_true
theorem dI:type_of% @Array.getD_eq_getD_getElem?:=@Array.getD_eq_getD_getElem?
theorem dJ:type_of% @run_underlying:=@run_underlying
theorem dK:type_of% @Bool.true_and:=@Bool.true_and
theorem dL:type_of% @Bool.and_eq_true:=@Bool.and_eq_true
theorem dM:type_of% @List.mem_cons:=@List.mem_cons
theorem dN:type_of% @if_neg:=@if_neg
theorem dO:type_of% @List.nil_append:=@List.nil_append
theorem dP:type_of% @Bool.false_and:=@Bool.false_and
theorem dQ:type_of% @Bool.false_eq_true:=@Bool.false_eq_true
theorem dR:type_of% @List.length_cons:=@List.length_cons
theorem dS:type_of% @Bool.not_false:=@Bool.not_false
theorem dT:type_of% @Sem.run_pure:=@Sem.run_pure
theorem dU:type_of% @Nat.mul_le_mul_right:=@Nat.mul_le_mul_right
theorem dV:type_of% @List.getElem?_append_right:=@List.getElem?_append_right
theorem dW:type_of% @List.getElem?_map:=@List.getElem?_map
theorem dX:type_of% @Array.getElem?_setIfInBounds_ne:=@Array.getElem?_setIfInBounds_ne
theorem dY:type_of% @List.getElem?_append_left:=@List.getElem?_append_left
theorem dZ:type_of% @List.length_take:=@List.length_take
theorem d5:type_of% @List.flatMap_cons:=@List.flatMap_cons
theorem d6:type_of% @List.getElem?_take:=@List.getElem?_take
theorem d7:type_of% @List.length_nil:=@List.length_nil
theorem d8:type_of% @List.drop_zero:=@List.drop_zero
theorem d9:type_of% @Nat.le_trans:=@Nat.le_trans
theorem em:type_of% @Nat.zero_add:=@Nat.zero_add
theorem et:type_of% @List.append_nil:=@List.append_nil
theorem ey:type_of% @List.take_append_drop:=@List.take_append_drop
theorem eA:type_of% @List.map_cons:=@List.map_cons
theorem eC:type_of% @List.all_eq_true:=@List.all_eq_true
theorem eD:type_of% @List.mem_of_mem_take:=@List.mem_of_mem_take
theorem eE:type_of% @Bool.and_eq_false_iff:=@Bool.and_eq_false_iff
theorem eF:type_of% @List.getElem_mem:=@List.getElem_mem
theorem eG:type_of% @Nat.add_mul:=@Nat.add_mul
theorem eH:type_of% @List.length_drop:=@List.length_drop
theorem eJ:type_of% @Sum.elim_inl:=@Sum.elim_inl
theorem eK:type_of% @List.mem_append:=@List.mem_append
theorem eM:type_of% @List.mem_map:=@List.mem_map
theorem eN:type_of% @Array.length_toList:=@Array.length_toList
theorem eO:type_of% @List.map_toArray:=@List.map_toArray
theorem eP:type_of% @List.mem_of_mem_drop:=@List.mem_of_mem_drop
theorem eQ:type_of% @List.getElem?_drop:=@List.getElem?_drop
theorem eT:type_of% @Nat.lt_of_lt_of_le:=@Nat.lt_of_lt_of_le
theorem eU:type_of% @List.length_pos_iff:=@List.length_pos_iff
theorem eV:type_of% @List.mem_of_getElem?:=@List.mem_of_getElem?
theorem eW:type_of% @false_iff:=@false_iff
theorem eX:type_of% @List.getElem?_toArray:=@List.getElem?_toArray
theorem eY:type_of% @Bool.false_or:=@Bool.false_or
theorem eZ:type_of% @List.pairwise_cons:=@List.pairwise_cons
theorem e6:type_of% @Option.map_some:=@Option.map_some
theorem e7:type_of% @List.length_map:=@List.length_map
theorem e9:type_of% @cell_of_row:=@cell_of_row
theorem fa:type_of% @Option.map_eq_some_iff:=@Option.map_eq_some_iff
theorem fb:type_of% @List.mem_filter:=@List.mem_filter
theorem fc:type_of% @List.getElem_of_mem:=@List.getElem_of_mem
theorem fA:type_of% @Bool.and_self:=@Bool.and_self
theorem fB:type_of% @Bool.or_eq_false_iff:=@Bool.or_eq_false_iff
theorem fC:type_of% @Option.some.injEq:=@Option.some.injEq
theorem fD:type_of% @List.map_nil:=@List.map_nil
theorem fE:type_of% @Nat.add_zero:=@Nat.add_zero
theorem fF:type_of% @Nat.lt_or_ge:=@Nat.lt_or_ge
theorem fG:type_of% @Bool.and_false:=@Bool.and_false
theorem fH:type_of% @List.cons_append:=@List.cons_append
theorem fI:type_of% @List.getD_eq_getElem?_getD:=@List.getD_eq_getElem?_getD
theorem fJ:type_of% @Array.getElem?_eq_getElem:=@Array.getElem?_eq_getElem
theorem fK:type_of% @List.mem_of_find?_eq_some:=@List.mem_of_find?_eq_some
theorem fN:type_of% @List.reverse_reverse:=@List.reverse_reverse
theorem fO:type_of% @List.mem_range:=@List.mem_range
theorem fP:type_of% @Bool.or_eq_true:=@Bool.or_eq_true
theorem fQ:type_of% @List.getElem?_eq_none:=@List.getElem?_eq_none
theorem fR:type_of% @List.ext_getElem?:=@List.ext_getElem?
theorem fS:type_of% @Bool.not_eq_true':=@Bool.not_eq_true'
theorem fT:type_of% @Int.le_refl:=@Int.le_refl
theorem fU:type_of% @List.any_eq_true:=@List.any_eq_true
theorem fV:type_of% @Nat.add_assoc:=@Nat.add_assoc
theorem fW:type_of% @Int.tmod_eq_emod_of_nonneg:=@Int.tmod_eq_emod_of_nonneg
theorem fX:type_of% @decide_eq_true:=@decide_eq_true
theorem fY:type_of% @List.size_toArray:=@List.size_toArray
theorem gt:type_of% @List.map_congr_left:=@List.map_congr_left
theorem gu:type_of% @List.mem_or_eq_of_mem_set:=@List.mem_or_eq_of_mem_set
theorem gv:type_of% @Option.map_none:=@Option.map_none
theorem gw:type_of% @decide_eq_false:=@decide_eq_false
theorem gx:type_of% @List.mem_singleton:=@List.mem_singleton
theorem gy:type_of% @List.set_eq_take_append_cons_drop:=@List.set_eq_take_append_cons_drop
theorem gz:type_of% @Nat.zero_mul:=@Nat.zero_mul
theorem gA:type_of% @List.take_of_length_le:=@List.take_of_length_le
theorem gB:type_of% @List.drop_length:=@List.drop_length
theorem gC:type_of% @List.getElem_append_right:=@List.getElem_append_right
theorem gD:type_of% @Nat.zero_le:=@Nat.zero_le
theorem gE:type_of% @Nat.mul_one:=@Nat.mul_one
theorem gG:type_of% @callsIn_wide:=@callsIn_wide
theorem gH:type_of% @List.range_eq_range':=@List.range_eq_range'
theorem gI:type_of% @Option.isSome_iff_exists:=@Option.isSome_iff_exists
theorem gJ:type_of% @List.any_eq_false:=@List.any_eq_false
theorem gK:type_of% @List.flatten_cons:=@List.flatten_cons
theorem gL:type_of% @Array.toList_modify:=@Array.toList_modify
theorem gN:type_of% @Nat.mul_le_mul_left:=@Nat.mul_le_mul_left
theorem gO:type_of% @List.length_reverse:=@List.length_reverse
theorem gP:type_of% @heap_alloc_new:=@heap_alloc_new
theorem gQ:type_of% @List.take_left:=@List.take_left
theorem gR:type_of% @Option.getD_some:=@Option.getD_some
theorem gS:type_of% @Bool.not_eq_true:=@Bool.not_eq_true
theorem gU:type_of% @List.flatMap_nil:=@List.flatMap_nil
theorem gV:type_of% @wpIn_mono:=@wpIn_mono
theorem gW:type_of% @List.map_append:=@List.map_append
theorem gX:type_of% @Nat.min_eq_left:=@Nat.min_eq_left
theorem gY:type_of% @List.length_singleton:=@List.length_singleton
theorem gZ:type_of% @Nat.le_of_ble_eq_true:=@Nat.le_of_ble_eq_true
theorem g6:type_of% @Option.some.inj:=@Option.some.inj
theorem g7:type_of% @Bool.eq_iff_iff:=@Bool.eq_iff_iff
theorem g8:type_of% @List.cons.injEq:=@List.cons.injEq
theorem g9:type_of% @List.length_filter_le:=@List.length_filter_le
theorem hF:type_of% @List.head?_cons:=@List.head?_cons
theorem hJ:type_of% @Int.tdiv_eq_ediv_of_nonneg:=@Int.tdiv_eq_ediv_of_nonneg
theorem hO:type_of% @World.ownsRow_nil:=@World.ownsRow_nil
theorem hP:type_of% @Nat.beq_eq:=@Nat.beq_eq
theorem hQ:type_of% @List.getElem?_eq_none_iff:=@List.getElem?_eq_none_iff
theorem hY:type_of% @List.pairwise_iff_getElem:=@List.pairwise_iff_getElem
theorem hZ:type_of% @List.mapM_cons:=@List.mapM_cons
theorem ia:type_of% @List.ext_getElem:=@List.ext_getElem
theorem ib:type_of% @List.filter_cons:=@List.filter_cons
theorem ic:type_of% @Bool.true_or:=@Bool.true_or
theorem ie:type_of% @List.range'_succ:=@List.range'_succ
theorem ig:type_of% @List.filter_cons_of_pos:=@List.filter_cons_of_pos
theorem ij:type_of% @List.all_cons:=@List.all_cons
theorem ik:type_of% @List.any_cons:=@List.any_cons
theorem im:type_of% @World.grownBy.refl:=@World.grownBy.refl
theorem io:type_of% @List.foldl_cons:=@List.foldl_cons
theorem iq:type_of% @List.find?_eq_none:=@List.find?_eq_none
theorem ir:type_of% @List.find?_cons:=@List.find?_cons
theorem iu:type_of% @setRow_heap:=@setRow_heap
theorem iv:type_of% @and_self:=@and_self
theorem iw:type_of% @Array.toList_push:=@Array.toList_push
theorem iy:type_of% @List.getElem?_set:=@List.getElem?_set
theorem iz:type_of% @List.take_zero:=@List.take_zero
theorem iA:type_of% @List.singleton_append:=@List.singleton_append
theorem iB:type_of% @Nat.eq_of_beq_eq_true:=@Nat.eq_of_beq_eq_true
theorem iC:type_of% @Array.getElem?_mapIdx:=@Array.getElem?_mapIdx
theorem iD:type_of% @List.mem_flatMap:=@List.mem_flatMap
theorem iE:type_of% @List.mem_cons_of_mem:=@List.mem_cons_of_mem
theorem iF:type_of% @List.pairwise_append:=@List.pairwise_append
theorem iG:type_of% @List.not_mem_nil:=@List.not_mem_nil
theorem iH:type_of% @Prod.mk.injEq:=@Prod.mk.injEq
theorem iI:type_of% @List.sum_cons:=@List.sum_cons
theorem iJ:type_of% @Bool.and_true:=@Bool.and_true
theorem iK:type_of% @Bool.or_self:=@Bool.or_self
end Go
namespace Go.AV
open Go.RowKit
inductive DV where
 | v (u:Value)
 | sl (size:Nat) (cells:List DV)
 | agg (cells:List DV)
 | pt (cells:List DV)
 | fn (f:FuncId) (caps:List DV)
 | bm (f:FuncId) (fs:List DV)
 | mp (ks:List Value) (vs:List DV)
structure Born (ents:Array MapEntry) (clock:Nat):Prop where
 nd:(ents.toList.map (·.born)).Nodup
 lt:∀x∈ents.toList,x.born<clock
theorem Born.nil:Born #[] 0:=⟨List.nodup_nil,λx h=>by simp at h⟩
theorem Born.push {ents:Array MapEntry} {c:Nat} {k v:Value} (h:Born ents c):Born (ents.push {key:=k,val:=v,born:=c}) (c+1):=by
 refine⟨?_,λx hx=>?_⟩;simp only[iw,gW,eA,fD];refine List.nodup_append.2 ⟨h.nd,by simp,λa D b hb e=>?_⟩;simp at hb;subst hb;subst e;obtain⟨x,hx,e⟩:=eM.1 D;have:=h.lt x hx;omega;rw[iw,eK] at hx;rcases hx with hx | hx
 have:=h.lt x hx;omega;simp at hx;subst hx;exact Nat.lt_succ_self _
theorem Born.modify {ents:Array MapEntry} {c i:Nat} {f:MapEntry->MapEntry} (h:Born ents c) (D:∀y,(f y).born=y.born):Born (ents.modify i f) c:=by
 have e:(ents.modify i f).toList.map (·.born)=ents.toList.map (·.born):=by
  rw[gL];apply fR;intro j;simp only[dW,List.getElem?_modify];split;cases ents.toList[j]? <;> simp[D];cases ents.toList[j]? <;> simp
 refine⟨by rw[e];exact h.nd,λx H=>?_⟩
 have:x.born∈(ents.modify i f).toList.map (·.born):=eM.2 ⟨x,H,rfl⟩;rw[e] at this;obtain⟨y,K,k⟩:=eM.1 this;rw[<-k];exact h.lt y K
abbrev Im:=Nat->Nat->Prop
inductive Rep (w:World) (I:Im):Value->DV->Prop
  | v (u:Value):Rep w I u (.v u)
  | nil (A:Option Addr) (c size:Nat):Rep w I (.slice A 0 c) (.sl size [])
  | sl (b off n c size:Nat) (xs:List Value) (cells:List DV) (hn:0<n) (hcap:n<=c) (hl:cells.length=n*size) (hx:xs.length=cells.length)
      (hc:∀(j:Nat) x,xs[j]? =some x->w.cell? ⟨b,off+j,none⟩=some x/\I b (off+j)) (h1:∀x∈xs,x.oneCell'=true)
      (hr:∀(j:Nat) x d,xs[j]? =some x->cells[j]? =some d->Rep w I x d):Rep w I (.slice (some ⟨b,off,none⟩) n c) (.sl size cells)
  | agg (xs:List Value) (cells:List DV) (hx:xs.length=cells.length) (h1:∀x∈xs,x.oneCell'=true)
      (hr:∀(j:Nat) x d,xs[j]? =some x->cells[j]? =some d->Rep w I x d):Rep w I (.agg xs.toArray) (.agg cells)
  | pt (b off:Nat) (xs:List Value) (cells:List DV) (hx:xs.length=cells.length)
      (hc:∀(j:Nat) x,xs[j]? =some x->w.cell? ⟨b,off+j,none⟩=some x/\I b (off+j)) (h1:∀x∈xs,x.oneCell'=true)
      (hr:∀(j:Nat) x d,xs[j]? =some x->cells[j]? =some d->Rep w I x d):Rep w I (.pointer (some ⟨b,off,none⟩)) (.pt cells)
  | fn (f:FuncId) (xs:List Value) (caps:List DV) (hx:xs.length=caps.length)
      (hr:∀(j:Nat) x d,xs[j]? =some x->caps[j]? =some d->Rep w I x d):Rep w I (.func (.func f) #[] xs.toArray) (.fn f caps)
  | bm (f:FuncId) (xs:List Value) (fs:List DV) (hx:xs.length=fs.length)
      (hr:∀(j:Nat) x d,xs[j]? =some x->fs[j]? =some d->Rep w I x d):Rep w I (.func (.func f) xs.toArray #[]) (.bm f fs)
  | mp (b clock:Nat) (ents:Array MapEntry) (vs:List DV) (hh:w.heap[b]? =some (.map ents clock)) (hI:I b 0) (hx:ents.size=vs.length)
      (hr:∀(j:Nat) x d,ents.toList[j]? =some x->vs[j]? =some d->Rep w I x.val d) (hN:Born ents clock):Rep w I (.map (some b)) (.mp (ents.toList.map (·.key)) vs)
structure KeepB (w w':World) (b j:Nat):Prop where
 cell:w'.cell? ⟨b,j,none⟩=w.cell? ⟨b,j,none⟩
 map:∀ents c,w.heap[b]? =some (.map ents c)->w'.heap[b]? =some (.map ents c)
theorem KeepB.refl {w:World} {b j:Nat}:KeepB w w b j:=⟨rfl,λ_ _ h=>h⟩
theorem KeepB.trans {w w1 w2:World} {b j:Nat} (h:KeepB w1 w2 b j) (k:KeepB w w1 b j):KeepB w w2 b j:=⟨h.cell.trans k.cell,λe c q=>h.map e c (k.map e c q)⟩
theorem KeepB.of {w w':World} {b j:Nat} (h:w'.heap[b]? =w.heap[b]?):KeepB w w' b j:=⟨World.cell?_of_block (a:=⟨b,j,none⟩) h,λ_ _ q=>h.trans q⟩
theorem KeepB.ofCell {w w':World} {b j:Nat} {arr:Array Value} {e:Nat} {k:Nat×Nat} (hb:w.heap[b]? =some (.cells arr e k)) (h:w'.cell? ⟨b,j,none⟩=w.cell? ⟨b,j,none⟩):KeepB w w' b j:=⟨h,λ_ _ q=>by rw[hb] at q;cases q⟩
def Same (I:Im) (w w':World):Prop:= ∀b j,I b j->KeepB w w' b j
theorem Rep.mono {w w':World} {I I':Im} {v:Value} {d:DV} (h:Rep w I v d) (hs:Same I w w') (hI:∀b j,I b j->I' b j):Rep w' I' v d:=by
 induction h with
 | v u=>exact .v u
 | nil A c size=>exact .nil A c size
 | sl b off n c size xs cells hn Z hl k K Y hr D=>
  exact .sl b off n c size xs cells hn Z hl k (λj x O=>⟨(hs _ _ (K j x O).2).cell.trans (K j x O).1,hI _ _ (K j x O).2⟩) Y D
 | agg xs cells k Y hr D=>exact .agg xs cells k Y D
 | pt b off xs cells k K Y hr D=>
  exact .pt b off xs cells k (λj x O=>⟨(hs _ _ (K j x O).2).cell.trans (K j x O).1,hI _ _ (K j x O).2⟩) Y D
 | fn f xs T k hr D=>exact .fn f xs T k D
 | bm f xs fs k hr D=>exact .bm f xs fs k D
 | mp b H ents vs hh hb k hr hN D=>exact .mp b H ents vs ((hs _ _ hb).map _ _ hh) (hI _ _ hb) k D hN
def Pw {h k:Type} (R: h->k->Prop) (xs:List h) (ys:List k):Prop:=
 xs.length=ys.length/\∀(j:Nat) x y,xs[j]? =some x->ys[j]? =some y->R x y
section
variable {α β:Type} {R R': α->β->Prop} {xs xs':List α} {ys ys':List β}
theorem Pw.imp (h:Pw R xs ys) (D:∀x y,R x y->R' x y):Pw R' xs ys:=⟨h.1,λj x d H k=>D _ _ (h.2 j x d H k)⟩
theorem Pw.nil:Pw R [] []:=⟨rfl,λj x d h=>by simp at h⟩
theorem Pw.cons {x: α} {y: β} (h:R x y) (H:Pw R xs ys):Pw R (x::xs) (y::ys):=by
 refine⟨by simp[H.1],λj y e D k=>?_⟩;cases j with
 | zero=>simp at D k;subst D;subst k;exact h
 | succ j=>simp at D k;exact H.2 j y e D k
theorem Pw.append (h:Pw R xs ys) (k:Pw R xs' ys'):Pw R (xs++xs') (ys++ys'):=by
 refine⟨by simp[h.1,k.1],λj x d H D=>?_⟩;by_cases K:j<xs.length;rw[dY K] at H;rw[dY (h.1▸K)] at D;exact h.2 j x d H D;rw[dV (by omega)] at H;rw[dV (by rw[<-h.1];omega)] at D
 rw[<-h.1] at D;exact k.2 _ x d H D
theorem Pw.take (h:Pw R xs ys) (n:Nat):Pw R (xs.take n) (ys.take n):=by refine⟨by simp[h.1],λj x y k H=>?_⟩;rw[d6] at k H;split at k;rename_i D;rw[dG D] at H;exact h.2 j x y k H;cases k
theorem Pw.drop (h:Pw R xs ys) (n:Nat):Pw R (xs.drop n) (ys.drop n):=by refine⟨by simp[h.1],λj x y k D=>?_⟩;rw[eQ] at k D;exact h.2 _ x y k D
theorem Pw.set (h:Pw R xs ys) {x: α} {y: β} (K:R x y) (n:Nat):Pw R (xs.set n x) (ys.set n y):=by refine⟨by simp[h.1],λj u v k D=>?_⟩;rw[iy] at k D;by_cases e:n=j;subst e;by_cases H:n<xs.length;simp[H] at k;rw[h.1] at H;simp[H] at D;subst k;subst D;exact K;simp[H] at k;simp[e] at k D;exact h.2 j u v k D
end
abbrev Reps (w:World) (I:Im) (xs:List Value) (ds:List DV):Prop:=Pw (Rep w I) xs ds
theorem Reps.mono {w w':World} {I k:Im} {xs:List Value} {ds:List DV} (h:Reps w I xs ds) (K:Same I w w') (D:∀b j,I b j->k b j):Reps w' k xs ds:=
 h.imp λ_ _ H=>H.mono K D
inductive Cap where
 | top
 | d (x:DV)
 | ptr (id off:Nat)
 | row (id:Nat)
inductive AV where
 | top
 | d (x:DV)
 | row (id:Nat)
 | ptr (id off:Nat)
 | ip (cells:List DV) (off:Nat)
 | tup (ds:List DV)
 | cond (g:Bool) (x:AV)
 | gh (k:Nat)
 | rs (id off n:Nat)
 | clo (f:FuncId) (caps:List Cap)
 | tupc (xs:List Cap)
 | wp (id off:Nat)
 | ws (id off n:Nat) (tight:Bool)
 | aggc (xs:List Cap)
inductive Blk where
 | none
 | row (e size:Nat) (sh:Bool) (cells:List DV)
 | box (e:Nat) (cells:List AV)
 | map (es:List (Value×DV))
 | it (es:List (Value×DV)) (q:List Nat)
 | win (e size k:Nat) (cells:List DV)
structure AState where
 tmps:List (Nat×AV)
 blks:List (Nat×Blk)
def look {D:Type} (h: D):List (Nat×D)->Nat->D
 | [],_=>h
 | (i,x)::r,k=>if Nat.beq i k then x else look h r k
theorem kL {H:Type} (D: H) (i:Nat) (x: H) (r:List (Nat×H)) (k:Nat):look D ((i,x)::r) k=if i=k then x else look D r k:=by simp only[look];by_cases h:i=k<;>simp[h,hP]
def AState.get (S:AState) (t:Nat):AV:=look .top S.tmps t
def AState.blk (S:AState) (id:Nat):Blk:=look .none S.blks id
def AState.put (S:AState) (t:Nat) (x:AV):AState:={S with tmps:=(t,x)::S.tmps}
def AState.setBlk (S:AState) (id:Nat) (b:Blk):AState:={S with blks:=(id,b)::S.blks}
theorem zB1 (S:AState) (t u:Nat) (x:AV):(S.put t x).get u=if t=u then x else S.get u:=kL _ _ _ _ _
theorem yJQ (S:AState) (t u:Nat) (x:AV):(S.put t x).blk u=S.blk u:=rfl
theorem yQ (S:AState) (t u:Nat) (x:Blk):(S.setBlk t x).blk u=if t=u then x else S.blk u:=kL _ _ _ _ _
theorem zVJ (S:AState) (t u:Nat) (x:Blk):(S.setBlk t x).get u=S.get u:=rfl
def GT:Nat:=1000000
def AState.ghost (S:AState):Nat:=match S.get GT with
 | .gh k=>k
 | _=>0
def isData:Obj->Bool
 | .cells _ _ _=>true
 | .map _ _=>true
 | .mapIter _ _ _ _=>true
 | _=>false
structure Turned (l:Nat) (w w':World):Prop where
 os:w'.os=w.os
 tape:w'.tape=w.tape
 output:w'.output=w.output
 size:w'.heap.size=w.heap.size
 blk:∀k,k≠l->w'.heap[k]? =w.heap[k]?
 no:∀o,w.heap[l]? =some o->isData o=false
 no':∀o,w'.heap[l]? =some o->isData o=false
structure Chg (w w':World) (O:Nat->Prop):Prop where
 os:w'.os=w.os
 tape:w'.tape=w.tape
 output:w'.output=w.output
 size:w.heap.size<=w'.heap.size
 block:∀k,k<w.heap.size->¬O k->w'.heap[k]? =w.heap[k]?
theorem Chg.of {w w':World} {row:Option Nat} (h:w.grownBy w' row):Chg w w' (λb=>row=some b):=
 ⟨h.os,h.tape,h.output,h.size,λk D H=>h.block k D (λe=>H e.symm)⟩
def GlI (h:Nat->Option (List Value)) (w:World) (I:Im):Prop:= ∀g zs,h g=some zs->∀j,w.cell? ⟨g,j,none⟩=zs[j]?/\I g j
theorem GlI.sub {k:Nat->Option (List Value)} {w:World} {I D:Im} (h:GlI k w I) (K:∀b j,I b j->D b j):GlI k w D:=λg zs H j=>⟨(h g zs H j).1,K _ _ (h g zs H j).2⟩
theorem GlI.none {w:World} {I:Im}:GlI (λ_=>none) w I:=λ_ _ h=>by cases h
structure Env where
 B:Nat
 I0:Im
 n:Nat
 fr:Nat->(Nat->Prop)->World->Prop
 wrB:Bool
 nle:n<=1000000
 mine:Nat->Prop
 mineB:∀b,B<=b->mine b
 nm:Nat->Option Value
 size:∀k C w,fr k C w->B<=w.heap.size
 csize:∀k C w,fr k C w->∀b,C b->b<w.heap.size
 grow:∀k C w w',fr k C w->Below w.heap.size w w'->fr k C w'
 wr:wrB=true->∀k C w w' O,fr k C w->Chg w w' O->(∀b,O b->mine b/\¬C b/\∃o,w.heap[b]? =some o/\isData o=true)->Same I0 w w'->fr k C w'
 turn:wrB=true->∀k C w w' l,fr k C w->B<=l->Turned l w w'->Same I0 w w'->fr k C w'
 gdt:Nat->Option (List Value)
 gl:∀k C w,fr k C w->GlI gdt w I0
def blockOf:Value->Option Nat
 | .slice (some a) _ _=>some a.block
 | .pointer (some a)=>some a.block
 | .map (some b)=>some b
 | _=>none
section
variable (w:World) (I:Im) (ρ:Nat->Value)
def HoldsC:Value->Cap->Prop
 | _,.top=>True
 | v,.d x=>Rep w I v x
 | v,.row id=>v= ρ id
 | v,.ptr id off=> ∃b,blockOf (ρ id)=some b/\v= .pointer (some ⟨b,off,none⟩)
def Holds:Value->AV->Prop
 | _,.top=>True
 | v,.d x=>Rep w I v x
 | v,.row id=>v= ρ id
 | v,.ptr id off=> ∃b,blockOf (ρ id)=some b/\v= .pointer (some ⟨b,off,none⟩)
 | v,.ip cells k=> ∃b off xs,v= .pointer (some ⟨b,off+k,none⟩)/\Reps w I xs cells/\(∀x∈xs,x.oneCell'=true)/\(∀(j:Nat) x,xs[j]? =some x->w.cell? ⟨b,off+j,none⟩=some x/\I b (off+j))
 | v,.tup ds=> ∃xs,v= .tuple xs.toArray/\Reps w I xs ds
 | v,.cond g x=>(g=true->Holds v x)/\(g=false->v=undef)
 | _,.gh _=>True
 | v,.rs id off n=> ∃A c,v= .slice A n c/\n<=c/\(0<n->∃b,blockOf (ρ id)=some b/\A=some ⟨b,off,none⟩)
 | v,.clo f h=> ∃xs,v= .func (.func f) #[] xs.toArray/\Pw (HoldsC w I ρ) xs h
 | v,.tupc cs=> ∃xs,v= .tuple xs.toArray/\Pw (HoldsC w I ρ) xs cs
 | v,.aggc cs=> ∃xs,v= .agg xs.toArray/\Pw (HoldsC w I ρ) xs cs/\∀x∈xs,x.oneCell'=true
 | v,.wp id off=> ∃b o n c,ρ id= .slice (some ⟨b,o,none⟩) n c/\v= .pointer (some ⟨b,o+off,none⟩)
 | v,.ws id off n tt=> ∃A c,v= .slice A n c/\n<=c/\(tt=true->c=n)/\(0<n->∃b o n0 c0,ρ id= .slice (some ⟨b,o,none⟩) n0 c0/\A=some ⟨b,o+off,none⟩)
def BlkOk (M:Nat->Prop) (id:Nat):Blk->Prop
  | .none=>True
  | .row e size K cells=>(0<size/\∀g,(ρ id).ownBlock=some g->M g)/\∃n xs,cells.length=n*size/\w.ownsRow 0 e size (ρ id) n xs/\(∀x∈xs,x.oneCell'=true)/\Reps w I xs cells/\
      (∀g j,(ρ id).ownBlock=some g->I g j->K=true/\j<cells.length)
  | .box e cells=> ∃b arr,ρ id= .pointer (some ⟨b,0,none⟩)/\M b/\w.heap[b]? =some (.cells arr e (0,0))/\(∀x∈arr.toList,x.oneCell'=true)/\
      Pw (Holds w I ρ) arr.toList cells/\(∀j,¬I b j)
  | .map es=> ∃b ents h,ρ id= .map (some b)/\M b/\w.heap[b]? =some (.map ents h)/\Pw (λ(x:MapEntry) (y:Value×DV)=>x.key=y.1/\Rep w I x.val y.2) ents.toList es/\(∀j,¬I b j)/\Born ents h
  | .it es q=> ∃b H ents h D,ρ id= .pointer (some ⟨b,0,none⟩)/\M b/\w.heap[b]? =some (.mapIter (some H) h D h)/\(∀j,¬I b j)/\w.heap[H]? =some (.map ents h)/\I H 0/\
      Pw (λ(x:MapEntry) (y:Value×DV)=>x.key=y.1/\Rep w I x.val y.2) ents.toList es/\Born ents h/\D.toList.map some=q.map λi=>(ents[i]?).map (·.born)
  | .win e size k cells=> ∃A n c xs,ρ id= .slice A n c/\n<=c/\0<size/\cells.length=n*size/\Reps w I xs cells/\(∀x∈xs,x.oneCell'=true)/\
      ((A=none/\n=0)\/∃b off arr,A=some ⟨b,off,none⟩/\M b/\w.heap[b]? =some (.cells arr e (0,0))/\off+n*size<=arr.size/\(∀(j:Nat) x,xs[j]? =some x->arr[off+j]? =some x)/\(∀j,off<=j->j<off+n*size->I b j->j<off+k*size))
end
structure DefOk (B:Nat) (wrB:Bool) (C:Nat->Prop) (w:World) (ds:List Deferred):Prop where
 each:∀d∈ds,∃r,d.target= .collected r/\B<=r/\¬C r/\w.heap[r]? =some (.deferred (some []))
 dist:ds.Pairwise λd e=> ∀r,d.target= .collected r->e.target≠ .collected r
 wr:ds≠[]->wrB=true
theorem DefOk.nil {B:Nat} {k:Bool} {C:Nat->Prop} {w:World}:DefOk B k C w []:=⟨by simp,.nil,λh=>absurd rfl h⟩
theorem DefOk.keep {B:Nat} {k:Bool} {C:Nat->Prop} {w w':World} {ds:List Deferred} (h:DefOk B k C w ds) (Y:∀r:Nat,w.heap[r]? =some (Obj.deferred (some []))->w'.heap[r]? =some (Obj.deferred (some []))):DefOk B k C w' ds:=
 ⟨λd T=>let ⟨r,H,K,D,O⟩:=h.each d T;⟨r,H,K,D,Y r O⟩,h.dist,h.wr⟩
structure SatAt (E:Env) (S:AState) (a:Act) (w:World) (I:Im) (ρ:Nat->Value) (C:Nat->Prop):Prop where
 tmps:∀t,Holds w I ρ (a.tmps.getD t undef) (S.get t)
 blks:∀id,BlkOk w I ρ E.mine id (S.blk id)
 dist:∀id id' b,id≠id'->S.blk id≠ .none->S.blk id'≠ .none->blockOf (ρ id)=some b->blockOf (ρ id')≠some b
 frame:E.fr S.ghost C w
 sub:∀b j,E.I0 b j->I b j
 old:∀b j,I b j->b<w.heap.size/\(E.I0 b j\/E.mine b)
 size:a.tmps.size=E.n
 defers:DefOk E.B E.wrB C w a.defers
 cI:∀b j,I b j->¬C b
 cB:∀id b,S.blk id≠ .none->blockOf (ρ id)=some b->¬C b
 nm:∀id v,E.nm id=some v->S.blk id≠ .none->ρ id=v
def Sat (E:Env) (S:AState) (a:Act) (w:World):Prop:= ∃I ρ C,SatAt E S a w I ρ C
theorem SatAt.gl {E:Env} {S:AState} {a:Act} {w:World} {I:Im} {ρ:Nat->Value} {C:Nat->Prop} (h:SatAt E S a w I ρ C):GlI E.gdt w I:=(E.gl _ _ _ h.frame).sub h.sub
theorem zDR (S:AState) {t:Nat} (x:AV) {E:Env} (h:t<E.n):(S.put t x).ghost=S.ghost:=by
 have k:t≠GT:=by have:=E.nle;unfold GT;omega
 unfold AState.ghost;rw[zB1,dN k]
def AV.un:AV->AV
 | .cond true x=>x.un
 | y=>y
def AState.ev (S:AState):Operand->AV
 | .tmp t=>(S.get t).un
 | .const v=> .d (.v v)
 | .func f=> .d (.v (.func (.func f) #[] #[]))
 | .global _=> .top
theorem Holds.un {w:World} {I:Im} {ρ:Nat->Value} {v:Value}:∀{x:AV},Holds w I ρ v x->Holds w I ρ v x.un:=by
 intro x
 induction x with
 | cond g x k=>
  intro h;cases g with
  | false=>exact h
  | true=>exact k (h.1 rfl)
 | _=>exact id
theorem SatAt.ev {E:Env} {S:AState} {a:Act} {w:World} {I:Im} {ρ:Nat->Value} {C:Nat->Prop} (h:SatAt E S a w I ρ C) (x:Operand):Holds w I ρ (a.eval x) (S.ev x):=by
 cases x with
 | tmp t=>exact(h.tmps t).un
 | const v=>exact .v v
 | func f=>exact .v _
 | global g=>trivial
theorem SatAt.val {E:Env} {S:AState} {a:Act} {w:World} {I:Im} {ρ:Nat->Value} {C:Nat->Prop} (h:SatAt E S a w I ρ C) {x:Operand} {v:Value} (k:S.ev x= .d (.v v)):a.eval x=v:=by have:=h.ev x;rw[k] at this;generalize a.eval x=u at this ⊢;cases this;rfl
theorem SatAt.put {E:Env} {S:AState} {a:Act} {w:World} {I:Im} {ρ:Nat->Value} {C:Nat->Prop} (h:SatAt E S a w I ρ C) {d:Nat} {v:Value} {x:AV} (D:d<E.n) (H:Holds w I ρ v x):
  SatAt E (S.put d x) (a.put (some d) v) w I ρ C:=by
 refine⟨λt=>?_,h.blks,h.dist,by rw[zDR S x D];exact h.frame,h.sub,h.old,by simp[Act.put,h.size],h.defers,h.cI,h.cB,h.nm⟩
 rw[zB1];by_cases k:d=t
 ·subst k
  simp only[dH,Act.put];rw[dI,Array.getElem?_setIfInBounds_self_of_lt (by rw[h.size];exact D)]
  exact H
 ·simp only[k,cY,Act.put]
  have:=h.tmps t;rw[dI] at this ⊢;rw[dX k];exact this
def fen (r:Option Nat):Fence:={Fence.wide with round:=r}
def jQ (P:Program) (r:Option Nat) (E:Env) (o:Oper) (S S':AState):Prop:=
 ∀a w (K:Act->World->Prop) (Q:Exit->Act->World->Prop),Sat E S a w->(∀h w',Sat E S' h w'->K h w')->o.wpIn (fen r) 0 P a w K Q
section
variable {P:Program} {r:Option Nat} {E:Env} {S:AState}
theorem zAQ {o:Oper} {S':AState} (k:∀c,o.op≠ .defer c)
  (h:∀a w I ρ C,SatAt E S a w I ρ C->∃v w',(execOp a.eval o).run P w= .ok (.value v) w'/\Sat E S' (a.put o.dst v) w'):jQ P r E o S S':=by
 rintro a w K Q ⟨I,ρ,C,O⟩ D
 obtain⟨v,w',H,T⟩:=h a w I ρ C O;refine⟨λf _=>trivial,?_⟩;rw[Oper.semAt_eq _ _ _ k,H];exact D _ _ T
theorem z7 {o:Oper} {d:Nat} {x:AV} (H:o.dst=some d) (K:d<E.n) (k:∀c,o.op≠ .defer c)
  (h:∀a w I ρ C,SatAt E S a w I ρ C->∃v,(execOp a.eval o).run P w= .ok (.value v) w/\Holds w I ρ v x):jQ P r E o S (S.put d x):=
 zAQ k λa w I ρ C D=>by
  obtain⟨v,O,T⟩:=h a w I ρ C D;exact⟨v,w,O,I,ρ,C,by rw[H];exact D.put K T⟩
variable {d:Nat} {ty:TypeId} {pos:String} {af:Array Edge} {g:Option (Nat×Bool)}
theorem yBG {x:Operand} (h:d<E.n):jQ P r E ⟨some d,.move x,ty,pos,af,g⟩ S (S.put d (S.ev x)):=
 z7 rfl h (by simp) λa w I ρ C k=>⟨a.eval x,by simp[execOp],k.ev x⟩
theorem z2P {x:Operand} (h:d<E.n):jQ P r E ⟨some d,.assign x,ty,pos,af,g⟩ S (S.put d (S.ev x)):=
 z7 rfl h (by simp) λa w I ρ C k=>⟨a.eval x,by simp[execOp],k.ev x⟩
theorem jI {o:Oper} {v:Value} (D:o.dst=some d) (H:d<E.n) (k:∀c,o.op≠ .defer c)
  (h:∀a w I ρ C,SatAt E S a w I ρ C->(execOp a.eval o).run P w= .ok (.value v) w):jQ P r E o S (S.put d (.d (.v v))):=
 z7 D H k λa w I ρ C K=>⟨v,h a w I ρ C K,.v v⟩
section ints
variable {k:IntKind} {x y:Operand} {a b:Int} {tx tz:TypeId} (hn:d<E.n) (hx:S.ev x= .d (.v (.int k a))) (hy:S.ev y= .d (.v (.int k b)))
include hn hx hy
theorem yEI:jQ P r E ⟨some d,.binOp .lss tx x y tz,ty,pos,af,g⟩ S (S.put d (.d (.v (.bool (decide (a<b)))))):=
 jI rfl hn (by simp) λA w I ρ C h=>by
  simp only[execOp,h.val hx,h.val hy];simp[binOp,eqGuard,Op.intCmp]
theorem yEJ:jQ P r E ⟨some d,.binOp .leq tx x y tz,ty,pos,af,g⟩ S (S.put d (.d (.v (.bool (decide (a<=b)))))):=
 jI rfl hn (by simp) λA w I ρ C h=>by
  simp only[execOp,h.val hx,h.val hy];simp[binOp,eqGuard,Op.intCmp]
theorem yEK:jQ P r E ⟨some d,.binOp .gtr tx x y tz,ty,pos,af,g⟩ S (S.put d (.d (.v (.bool (decide (b<a)))))):=
 jI rfl hn (by simp) λA w I ρ C h=>by
  simp only[execOp,h.val hx,h.val hy];simp[binOp,eqGuard,Op.intCmp]
theorem yEL:jQ P r E ⟨some d,.binOp .geq tx x y tz,ty,pos,af,g⟩ S (S.put d (.d (.v (.bool (decide (b<=a)))))):=
 jI rfl hn (by simp) λA w I ρ C h=>by
  simp only[execOp,h.val hx,h.val hy];simp[binOp,eqGuard,Op.intCmp]
theorem yEM:jQ P r E ⟨some d,.binOp .eql tx x y tz,ty,pos,af,g⟩ S (S.put d (.d (.v (.bool (decide (a=b)))))):=
 jI rfl hn (by simp) λA w I ρ C h=>by
  simp only[execOp,h.val hx,h.val hy];have:(a==b)=decide (a=b):=rfl;simp[binOp,eqGuard,Op.intCmp,this]
theorem yEN:jQ P r E ⟨some d,.binOp .neq tx x y tz,ty,pos,af,g⟩ S (S.put d (.d (.v (.bool (!decide (a=b)))))):=
 jI rfl hn (by simp) λA w I ρ C h=>by
  simp only[execOp,h.val hx,h.val hy];have:(a != b)= !decide (a=b):=rfl;simp[binOp,eqGuard,Op.intCmp,this]
end ints
theorem yEO {k k':IntKind} {x y:Operand} {a:Int} {m:Nat} {tx tz:TypeId} (T:d<E.n) (Y:S.ev x= .d (.v (.int k a))) (Z:S.ev y= .d (.v (.int k' (m:Int))))
  (O:m<=k.bits):jQ P r E ⟨some d,.binOp .shr tx x y tz,ty,pos,af,g⟩ S (S.put d (.d (.v (.int k (a/2 ^ m))))):=
 jI rfl T (by simp) λA w I ρ C h=>by
  simp only[execOp,h.val Y,h.val Z];have D:¬((m:Int)<0):=by omega
  have H:min m k.bits=m:=gX O;have K:a.fdiv (2 ^ m)=a/2 ^ m:=Int.fdiv_eq_ediv_of_nonneg a (Int.le_of_lt (Int.pow_pos (by decide)));simp[binOp,eqGuard,Op.shift,D,H,K]
theorem yEP {x:Operand} {b:Bool} {tx:TypeId} (h:d<E.n) (D:S.ev x= .d (.v (.bool b))):jQ P r E ⟨some d,.unOp .not tx x,ty,pos,af,g⟩ S (S.put d (.d (.v (.bool (!b))))):=
 jI rfl h (by simp) λA w I ρ C k=>by
  simp only[execOp,k.val D];simp[Op.unary]
theorem zXG {c:Operand} {t:Nat} {b h:Bool} (O:d<E.n) (K:S.ev c= .d (.v (.bool b))) (T:S.get t= .cond b (.d (.v (.bool h)))):
  jQ P r E ⟨some d,.pick c (.tmp t) (.const (.bool false)),ty,pos,af,g⟩ S (S.put d (.d (.v (.bool (b&&h))))):=
 jI rfl O (by simp) λA w I ρ C H=>by
  have D:=H.tmps t;rw[T] at D;simp only[execOp,H.val K];cases b with
  | false=>simp[asBool,Act.eval]
  | true=>
   have k:=D.1 rfl;generalize Y:A.tmps.getD t undef=v at k;cases k;simp only[Act.eval,Y];simp[asBool]
theorem z0B {c:Operand} {t:Nat} {b h:Bool} (O:d<E.n) (K:S.ev c= .d (.v (.bool b))) (T:S.get t= .cond (!b) (.d (.v (.bool h)))):
  jQ P r E ⟨some d,.pick c (.const (.bool true)) (.tmp t),ty,pos,af,g⟩ S (S.put d (.d (.v (.bool (b ||h))))):=
 jI rfl O (by simp) λA w I ρ C H=>by
  have D:=H.tmps t;rw[T] at D;simp only[execOp,H.val K];cases b with
  | true=>simp[asBool,Act.eval]
  | false=>
   have k:=D.1 rfl;generalize Y:A.tmps.getD t undef=v at k;cases k;simp only[Act.eval,Y];simp[asBool]
section strs
variable {x y:Operand} {a b:ByteArray} {tx tz:TypeId} (hn:d<E.n) (hx:S.ev x= .d (.v (.string a))) (hy:S.ev y= .d (.v (.string b)))
include hn hx hy
theorem zVK {k:BinOp} {v:Value} (O:k≠ .shl/\k≠ .shr) (h:∀w,(Op.stringOp k a b).run P w= .ok v w):jQ P r E ⟨some d,.binOp k tx x y tz,ty,pos,af,g⟩ S (S.put d (.d (.v v))):=
 jI rfl hn (by simp) λA w I ρ C D=>by
  simp only[execOp,D.val hx,D.val hy];have H:(eqGuard k tx x y (.string a) (.string b)).run P w= .ok () w:=by cases k<;>simp[eqGuard]
  have K:binOp k tx (.string a) (.string b)=Op.stringOp k a b:=by cases k<;>simp_all [binOp]
  simp[H,K,h]
theorem yBH:jQ P r E ⟨some d,.binOp .eql tx x y tz,ty,pos,af,g⟩ S (S.put d (.d (.v (.bool (a.toList==b.toList))))):=zVK hn hx hy (by simp) (λ_=>by simp[Op.stringOp])
theorem yBI:jQ P r E ⟨some d,.binOp .neq tx x y tz,ty,pos,af,g⟩ S (S.put d (.d (.v (.bool (!(a.toList==b.toList)))))):=zVK hn hx hy (by simp) (λ_=>by simp[Op.stringOp])
theorem yBJ:jQ P r E ⟨some d,.binOp .lss tx x y tz,ty,pos,af,g⟩ S (S.put d (.d (.v (.bool (Op.bytesLess a.toList b.toList))))):=zVK hn hx hy (by simp) (λ_=>by simp[Op.stringOp])
end strs
theorem zXH {k D:IntKind} {x:Operand} {a:Int} {H td:TypeId} {ds:TypeDesc} (O:d<E.n) (T:P.underlying H=some ds) (K:P.underlying td=some (.int D)) (Y:S.ev x= .d (.v (.int k a))):
  jQ P r E ⟨some d,.convert H td x,ty,pos,af,g⟩ S (S.put d (.d (.v (.int D (D.wrap a))))):=
 jI rfl O (by simp) λA w I ρ C h=>by
  simp only[execOp,h.val Y];simp[convert,dJ T,dJ K,Conv.intToInt]
theorem z0C {x:Operand} {i:Nat} {ds:List DV} {e:DV} (H:d<E.n) (T:S.ev x= .tup ds) (hi:ds[i]? =some e):jQ P r E ⟨some d,.extract x i,ty,pos,af,g⟩ S (S.put d (.d e)):=
 z7 rfl H (by simp) λA w I ρ C K=>by
  have h:=K.ev x;rw[T] at h;obtain⟨xs,O,D⟩:=h;have k:i<xs.length:=by rw[D.1];exact(c8.1 hi).1
  refine⟨xs[i],?_,D.2 i _ e (cS k) hi⟩;simp only[execOp,O];simp[Instr.extract,cS k]
end
def Cap.mentions (id:Nat):Cap->Bool
 | .row i=>Nat.beq i id
 | .ptr i _=>Nat.beq i id
 | _=>false
def AV.mentions (id:Nat):AV->Bool
 | .row i=>Nat.beq i id
 | .ptr i _=>Nat.beq i id
 | .rs i _ _=>Nat.beq i id
 | .wp i _=>Nat.beq i id
 | .ws i _ _ _=>Nat.beq i id
 | .clo _ h=>h.any (Cap.mentions id)
 | .tupc h=>h.any (Cap.mentions id)
 | .aggc h=>h.any (Cap.mentions id)
 | .cond _ x=>x.mentions id
 | _=>false
def zFL (id:Nat) (x:AV):AV:=if x.mentions id then .top else x
def zUV (id:Nat):Blk->Blk
 | .box e cells=> .box e (cells.map (zFL id))
 | b=>b
def AState.kill (S:AState) (id:Nat):AState:=
 {tmps:=S.tmps.map λp=>(p.1,zFL id p.2),blks:=S.blks.map λp=>(p.1,zUV id p.2)}
theorem zQY {D:Type} (h: D) (f: D->D) (H:f h=h) (l:List (Nat×D)) (k:Nat):look h (l.map λp=>(p.1,f p.2)) k=f (look h l k):=by
 induction l with
 | nil=>simp[look,H]
 | cons p l K=>obtain⟨i,x⟩:=p;simp only[eA,kL,K];split<;>rfl
theorem z2Q (S:AState) (id t:Nat):(S.kill id).get t=zFL id (S.get t):=zQY _ _ rfl _ _
theorem zJG (S:AState) (id i:Nat):(S.kill id).blk i=zUV id (S.blk i):=zQY _ _ rfl _ _
theorem yJR (id:Nat) (x:AV):(match zFL id x with | .gh k=>k | _=>0)=(match x with | .gh k=>k | _=>0):=by
 unfold zFL;by_cases h:x.mentions id=true;simp only[h,dH];cases x<;>first | rfl | (simp[AV.mentions] at h)
 simp only[h];rfl
def upd (ρ:Nat->Value) (id:Nat) (v:Value):Nat->Value:=λi=>if i=id then v else ρ i
theorem HoldsC.upd {w w':World} {I k:Im} {ρ:Nat->Value} {v:Value} {x:Cap} (h:HoldsC w I ρ v x) (K:Same I w w') (H:∀b j,I b j->k b j) (id:Nat) (u:Value) (D:x.mentions id=false):
  HoldsC w' k (upd ρ id u) v x:=by
 cases x with
 | top=>trivial
 | d y=>exact Rep.mono h K H
 | row i=>
  have:i≠id:=by intro e;subst e;simp[Cap.mentions] at D
  simpa[HoldsC,Go.AV.upd,this] using h
 | ptr i off=>
  have:i≠id:=by intro e;subst e;simp[Cap.mentions] at D
  simpa[HoldsC,Go.AV.upd,this] using h
theorem HoldsC.updL {w w':World} {I k:Im} {ρ:Nat->Value} {xs:List Value} {cs:List Cap} (h:Pw (HoldsC w I ρ) xs cs) (O:Same I w w') (H:∀b j,I b j->k b j) (id:Nat) (u:Value) (K:cs.any (Cap.mentions id)=false):
  Pw (HoldsC w' k (Go.AV.upd ρ id u)) xs cs:=⟨h.1,λj x c T D=>(h.2 j x c T D).upd O H id u (by
   have:=gJ.1 K c (eV D);simpa using this)⟩
theorem HoldsC.mono {w w':World} {I k:Im} {ρ:Nat->Value} {v:Value} {x:Cap} (h:HoldsC w I ρ v x) (H:Same I w w') (D:∀b j,I b j->k b j):HoldsC w' k ρ v x:=by
 cases x with
 | top=>trivial
 | d y=>exact Rep.mono h H D
 | row i=>exact h
 | ptr i off=>exact h
theorem Holds.upd {w w':World} {I Z:Im} {ρ:Nat->Value} {v:Value} {x:AV} (h:Holds w I ρ v x) (T:Same I w w') (O:∀b j,I b j->Z b j) (id:Nat) (u:Value):
  Holds w' Z (upd ρ id u) v (zFL id x):=by
 unfold zFL;by_cases D:x.mentions id=true
 ·simp[D,Holds]
 ·simp only[D]
  show Holds w' Z (Go.AV.upd ρ id u) v x
  induction x with
  | top=>trivial
  | d y=>exact Rep.mono h T O
  | row i=>
   have:i≠id:=by intro e;subst e;simp[AV.mentions] at D
   simpa[Holds,Go.AV.upd,this] using h
  | ptr i off=>
   have:i≠id:=by intro e;subst e;simp[AV.mentions] at D
   simpa[Holds,Go.AV.upd,this] using h
  | ip cells k=>
   obtain⟨b,off,xs,H,hr,h1,hc⟩:=h;exact⟨b,off,xs,H,hr.mono T O,h1,λj y hj=>⟨(T _ _ (hc j y hj).2).cell.trans (hc j y hj).1,O _ _ (hc j y hj).2⟩⟩
  | tup ds=>obtain⟨xs,H,hr⟩:=h;exact⟨xs,H,hr.mono T O⟩
  | cond g y ih=>exact⟨λhg=>ih (h.1 hg) (by simpa[AV.mentions] using D),h.2⟩
  | gh k=>trivial
  | rs i off n=>
   have:i≠id:=by intro e;subst e;simp[AV.mentions] at D
   simpa[Holds,Go.AV.upd,this] using h
  | clo f K=>
   obtain⟨xs,H,Y⟩:=h;exact⟨xs,H,HoldsC.updL Y T O id u (by simpa[AV.mentions] using D)⟩
  | tupc K=>
   obtain⟨xs,H,Y⟩:=h;exact⟨xs,H,HoldsC.updL Y T O id u (by simpa[AV.mentions] using D)⟩
  | aggc K=>
   obtain⟨xs,H,Y,h1⟩:=h;exact⟨xs,H,HoldsC.updL Y T O id u (by simpa[AV.mentions] using D),h1⟩
  | wp i off=>
   have:i≠id:=by intro e;subst e;simp[AV.mentions] at D
   simpa[Holds,Go.AV.upd,this] using h
  | ws i off n tt=>
   have:i≠id:=by intro e;subst e;simp[AV.mentions] at D
   simpa[Holds,Go.AV.upd,this] using h
theorem Holds.mono {w w':World} {I I':Im} {ρ:Nat->Value} {v:Value} {x:AV} (h:Holds w I ρ v x) (O:Same I w w') (K:∀b j,I b j->I' b j):Holds w' I' ρ v x:=by
 induction x with
 | top=>trivial
 | d y=>exact Rep.mono h O K
 | row i=>exact h
 | ptr i off=>exact h
 | ip cells k=>
  obtain⟨b,off,xs,D,hr,Y,Z⟩:=h;exact⟨b,off,xs,D,hr.mono O K,Y,λj y hj=>⟨(O _ _ (Z j y hj).2).cell.trans (Z j y hj).1,K _ _ (Z j y hj).2⟩⟩
 | tup ds=>obtain⟨xs,D,hr⟩:=h;exact⟨xs,D,hr.mono O K⟩
 | cond g y ih=>exact⟨λhg=>ih (h.1 hg),h.2⟩
 | gh k=>trivial
 | rs i off n=>exact h
 | clo f H=>obtain⟨xs,D,T⟩:=h;exact⟨xs,D,T.imp λ_ _ h=>h.mono O K⟩
 | tupc H=>obtain⟨xs,D,T⟩:=h;exact⟨xs,D,T.imp λ_ _ h=>h.mono O K⟩
 | aggc H=>obtain⟨xs,D,T,Y⟩:=h;exact⟨xs,D,T.imp λ_ _ h=>h.mono O K,Y⟩
 | wp i off=>exact h
 | ws i off n tt=>exact h
theorem zPN {w w':World} {B e size n:Nat} {v:Value} {xs:List Value} (h:w.ownsRow B e size v n xs) (hb:∀g,v.ownBlock=some g->w'.heap[g]? =w.heap[g]?):w'.ownsRow B e size v n xs:=by
 refine⟨h.1,?_⟩;rcases h.2 with O | ⟨g,k,D,rfl,H,K,rest⟩
 exact .inl O;exact .inr ⟨g,k,D,rfl,H,by rw[hb g rfl];exact K,rest⟩
theorem zB2 {v:Value} {g:Nat} (h:v.ownBlock=some g):blockOf v=some g:=by unfold Value.ownBlock at h;split at h;simpa[blockOf] using h;cases h
theorem BlkOk.mono {w w':World} {I:Im} {ρ:Nat->Value} {M:Nat->Prop} {i:Nat} {x:Blk} (h:BlkOk w I ρ M i x) (hs:Same I w w')
  (hb:∀b,blockOf (ρ i)=some b->w'.heap[b]? =w.heap[b]?):BlkOk w' I ρ M i x:=by
 cases x with
 | none=>trivial
 | row e size sh cells=>
  obtain⟨h0,n,xs,hl,ag,h1,K,T⟩:=h;exact⟨h0,n,xs,hl,zPN ag (λg hg=>hb g (zB2 hg)),h1,K.mono hs (λ_ _ h=>h),T⟩
 | box e cells=>
  obtain⟨b,arr,H,O,Y,h1,K,T⟩:=h;exact⟨b,arr,H,O,by rw[hb b (by rw[H];rfl)];exact Y,h1,K.imp λ_ _ h=>h.mono hs (λ_ _ h=>h),T⟩
 | map es=>
  obtain⟨b,ents,D,H,O,Y,K,T⟩:=h;exact⟨b,ents,D,H,O,by rw[hb b (by rw[H];rfl)];exact Y,K.imp λ_ _ h=>⟨h.1,h.2.mono hs (λ_ _ h=>h)⟩,T⟩
 | it es q=>
  obtain⟨b,bm,ents,D,ah,H,O,Y,T,hm,ad,K,hN,hq⟩:=h;exact⟨b,bm,ents,D,ah,H,O,by rw[hb b (by rw[H];rfl)];exact Y,T,(hs _ _ ad).map _ _ hm,ad,K.imp λ_ _ h=>⟨h.1,h.2.mono hs (λ_ _ h=>h)⟩,hN,hq⟩
 | win e size k cells=>
  obtain⟨A,n,c,xs,H,aj,hp,hl,K,h1,hA⟩:=h;refine⟨A,n,c,xs,H,aj,hp,hl,K.mono hs (λ_ _ h=>h),h1,?_⟩;rcases hA with hA | ⟨b,off,arr,hA,O,Y,Z⟩
  ·exact .inl hA
  ·exact .inr ⟨b,off,arr,hA,O,by rw[hb b (by rw[H,hA];rfl)];exact Y,Z⟩
theorem BlkOk.upd {w w':World} {I:Im} {ρ:Nat->Value} {M:Nat->Prop} {i:Nat} {x:Blk} (h:BlkOk w I ρ M i x) (hs:Same I w w')
  (hb:∀b,blockOf (ρ i)=some b->w'.heap[b]? =w.heap[b]?) {id:Nat} (ao:i≠id) (u:Value):BlkOk w' I (upd ρ id u) M i (zUV id x):=by
 have H:Go.AV.upd ρ id u i= ρ i:=by simp[Go.AV.upd,ao]
 cases x with
 | none=>trivial
 | row e size sh cells=>
  obtain⟨h0,n,xs,hl,ai,h1,O,Z⟩:=h;refine⟨by rw[H];exact h0,n,xs,hl,?_,h1,O.mono hs (λ_ _ h=>h),?_⟩
  ·rw[H];exact zPN ai (λg hg=>hb g (zB2 hg))
  ·rw[H];exact Z
 | box e cells=>
  obtain⟨b,arr,K,Y,hh,h1,O,Z⟩:=h;refine⟨b,arr,by rw[H];exact K,Y,by rw[hb b (by rw[K];rfl)];exact hh,h1,⟨by simpa using O.1,λj y av hj T=>?_⟩,Z⟩
  rw[dW] at T;cases hc:cells[j]? with
  | none=>simp[hc] at T
  | some ak=>
   simp[hc] at T;subst T;exact(O.2 j y ak hj hc).upd hs (λ_ _ h=>h) id u
 | map es=>
  obtain⟨b,ents,D,K,Y,hh,O,Z⟩:=h;exact⟨b,ents,D,by rw[H];exact K,Y,by rw[hb b (by rw[K];rfl)];exact hh,O.imp λ_ _ h=>⟨h.1,h.2.mono hs (λ_ _ h=>h)⟩,Z⟩
 | it es q=>
  obtain⟨b,bm,ents,D,aj,K,Y,hh,Z,hm,ah,O,hN,hq⟩:=h;exact⟨b,bm,ents,D,aj,by rw[H];exact K,Y,by rw[hb b (by rw[K];rfl)];exact hh,Z,(hs _ _ ah).map _ _ hm,ah,O.imp λ_ _ h=>⟨h.1,h.2.mono hs (λ_ _ h=>h)⟩,hN,hq⟩
 | win e size k cells=>
  obtain⟨A,n,c,xs,K,an,hp,hl,O,h1,hA⟩:=h;refine⟨A,n,c,xs,by rw[H];exact K,an,hp,hl,O.mono hs (λ_ _ h=>h),h1,?_⟩
  rcases hA with hA | ⟨b,off,arr,hA,Y,hh,ab⟩
  ·exact .inl hA
  ·exact .inr ⟨b,off,arr,hA,Y,by rw[hb b (by rw[K,hA];rfl)];exact hh,ab⟩
theorem BlkOk.widenI {w:World} {I I':Im} {ρ:Nat->Value} {M:Nat->Prop} {i:Nat} {x:Blk} (h:BlkOk w I ρ M i x) (D:∀b j,I b j->I' b j)
  (hx:∀b j,x≠ .none->blockOf (ρ i)=some b->I' b j->I b j):BlkOk w I' ρ M i x:=by
 have hs:Same I w w:=λ_ _ _=>KeepB.refl;cases x with
 | none=>trivial
 | row e size sh cells=>
  obtain⟨h0,n,xs,hl,ac,Y,T,O⟩:=h;exact⟨h0,n,xs,hl,ac,Y,T.mono hs D,λg j hg hi=>O g j hg (hx g j (by simp) (zB2 hg) hi)⟩
 | box e cells=>
  obtain⟨b,arr,K,Z,hh,Y,T,O⟩:=h;exact⟨b,arr,K,Z,hh,Y,T.imp λ_ _ h=>h.mono hs D,λj hi=>O j (hx b j (by simp) (by rw[K];rfl) hi)⟩
 | map es=>
  obtain⟨b,ents,H,K,Z,hh,T,O⟩:=h;exact⟨b,ents,H,K,Z,hh,T.imp λ_ _ h=>⟨h.1,h.2.mono hs D⟩,λj hi=>O.1 j (hx b j (by simp) (by rw[K];rfl) hi),O.2⟩
 | it es q=>
  obtain⟨b,bm,ents,H,ah,K,Z,hh,O,hm,ak,T,hN,hq⟩:=h;exact⟨b,bm,ents,H,ah,K,Z,hh,λj hi=>O j (hx b j (by simp) (by rw[K];rfl) hi),hm,D _ _ ak,T.imp λ_ _ h=>⟨h.1,h.2.mono hs D⟩,hN,hq⟩
 | win e size k cells=>
  obtain⟨A,n,c,xs,K,al,hp,hl,T,Y,hA⟩:=h;refine⟨A,n,c,xs,K,al,hp,hl,T.mono hs D,Y,?_⟩;rcases hA with hA | ⟨b,off,arr,hA,Z,hh,hf,hc,O⟩
  ·exact .inl hA
  ·exact .inr ⟨b,off,arr,hA,Z,hh,hf,hc,λj Y h2 hi=>O j Y h2 (hx b j (by simp) (by rw[K,hA];rfl) hi)⟩
theorem BlkOk.mineM {w:World} {I:Im} {ρ:Nat->Value} {M M':Nat->Prop} {i:Nat} {x:Blk} (h:BlkOk w I ρ M i x)
  (T:∀b,x≠ .none->blockOf (ρ i)=some b->M b->M' b):BlkOk w I ρ M' i x:=by
 cases x with
 | none=>trivial
 | row e size sh cells=>
  obtain⟨h0,rest⟩:=h;exact⟨⟨h0.1,λg hg=>T g (by simp) (zB2 hg) (h0.2 g hg)⟩,rest⟩
 | box e cells=>
  obtain⟨b,arr,H,K,rest⟩:=h;exact⟨b,arr,H,T b (by simp) (by rw[H];rfl) K,rest⟩
 | map es=>
  obtain⟨b,ents,D,H,K,rest⟩:=h;exact⟨b,ents,D,H,T b (by simp) (by rw[H];rfl) K,rest⟩
 | it es q=>
  obtain⟨b,bm,ents,D,Y,H,K,rest⟩:=h;exact⟨b,bm,ents,D,Y,H,T b (by simp) (by rw[H];rfl) K,rest⟩
 | win e size k cells=>
  obtain⟨A,n,c,xs,H,Z,hp,hl,hr,h1,O⟩:=h;refine⟨A,n,c,xs,H,Z,hp,hl,hr,h1,?_⟩;rcases O with O | ⟨b,off,arr,O,K,rest⟩
  ·exact .inl O
  ·exact .inr ⟨b,off,arr,O,T b (by simp) (by rw[H,O];rfl) K,rest⟩
theorem SatAt.blt {E:Env} {S:AState} {a:Act} {w:World} {I:Im} {ρ:Nat->Value} {C:Nat->Prop} (h:SatAt E S a w I ρ C):∀i b,S.blk i≠ .none->blockOf (ρ i)=some b->E.mine b/\b<w.heap.size:=by
 intro i b hi hb;have:=h.blks i;cases T:S.blk i with
 | none=>exact absurd T hi
 | row e size sh cells=>
  rw[T] at this;obtain⟨hM,n,xs,hl,Z,_⟩:=this;rcases Z.2 with ⟨hn,_⟩ | ⟨g,ad,ag,D,K,H,_⟩
  rw[hn] at hb;simp[blockOf] at hb;have ab:=hM.2 g (by rw[D];rfl)
  rw[D] at hb;simp[blockOf] at hb;subst hb;exact⟨ab,(cU.1 H).1⟩
 | box e cells=>
  rw[T] at this;obtain⟨b',arr,D,K,H,_⟩:=this;rw[D] at hb;simp[blockOf] at hb;subst hb;exact⟨K,(cU.1 H).1⟩
 | map es=>
  rw[T] at this;obtain⟨b',ents,O,D,K,H,_⟩:=this;rw[D] at hb;simp[blockOf] at hb;subst hb;exact⟨K,(cU.1 H).1⟩
 | it es q=>
  rw[T] at this;obtain⟨b',bm,ents,O,ac,D,K,H,_⟩:=this;rw[D] at hb;simp[blockOf] at hb;subst hb;exact⟨K,(cU.1 H).1⟩
 | win e size k cells=>
  rw[T] at this;obtain⟨A,n,c,xs,D,_,_,_,_,_,Y⟩:=this;rcases Y with ⟨Y,_⟩ | ⟨b',off,arr,Y,K,H,_⟩
  rw[D,Y] at hb;simp[blockOf] at hb;rw[D,Y] at hb;simp[blockOf] at hb;subst hb;exact⟨K,(cU.1 H).1⟩
theorem SatAt.grow {E:Env} {S:AState} {a:Act} {w w':World} {I:Im} {ρ:Nat->Value} {C:Nat->Prop} (h:SatAt E S a w I ρ C) (hb:Below w.heap.size w w'):SatAt E S a w' I ρ C:=by
 have H:Same I w w':=λb j hi=>KeepB.of (hb.block b (h.old b j hi).1);refine⟨λt=>(h.tmps t).mono H (λ_ _ h=>h),λi=>?_,h.dist,E.grow _ _ _ _ h.frame hb,h.sub,λb j hi=>⟨eT (h.old b j hi).1 hb.size,(h.old b j hi).2⟩,h.size,h.defers.keep λr D=>(hb.block r (cU.1 D).1).trans D,h.cI,h.cB,h.nm⟩;cases K:S.blk i with
 | none=>trivial
 | _=>
  rw[<-K];exact(h.blks i).mono H (λb k=>hb.block b (h.blt i b (by rw[K];simp) k).2)
theorem SatAt.cellBlk {E:Env} {S:AState} {a:Act} {w:World} {I:Im} {ρ:Nat->Value} {C:Nat->Prop} (h:SatAt E S a w I ρ C) {id b:Nat} (ac:S.blk id≠ .none) (D:blockOf (ρ id)=some b):∃o,w.heap[b]? =some o/\isData o=true:=by
 have:=h.blks id;cases T:S.blk id with
 | none=>exact absurd T ac
 | row e size sh cells=>
  rw[T] at this;obtain⟨_,n,xs,hl,Z,_⟩:=this;rcases Z.2 with ⟨hn,_⟩ | ⟨g,ag,ah,H,hB,K,_⟩
  rw[hn] at D;simp[blockOf] at D;rw[H] at D;simp[blockOf] at D;subst D;exact⟨_,K,rfl⟩
 | box e cells=>
  rw[T] at this;obtain⟨b',arr,H,hB,K,_⟩:=this;rw[H] at D;simp[blockOf] at D;subst D;exact⟨_,K,rfl⟩
 | map es=>
  rw[T] at this;obtain⟨b',ents,O,H,hB,K,_⟩:=this;rw[H] at D;simp[blockOf] at D;subst D;exact⟨_,K,rfl⟩
 | it es q=>
  rw[T] at this;obtain⟨b',bm,ents,O,ad,H,hB,K,_⟩:=this;rw[H] at D;simp[blockOf] at D;subst D;exact⟨_,K,rfl⟩
 | win e size k cells=>
  rw[T] at this;obtain⟨A,n,c,xs,H,_,_,_,_,_,Y⟩:=this;rcases Y with ⟨Y,_⟩ | ⟨b',off,arr,Y,hB,K,_⟩
  rw[H,Y] at D;simp[blockOf] at D;rw[H,Y] at D;simp[blockOf] at D;subst D;exact⟨_,K,rfl⟩
theorem SatAt.modify {E:Env} {S:AState} {a:Act} {w w':World} {I:Im} {ρ:Nat->Value} {C:Nat->Prop} (h:SatAt E S a w I ρ C) {id b:Nat} {x:Blk} (Z:w.grownBy w' (some b))
  (D:S.blk id≠ .none) (O:blockOf (ρ id)=some b) (hs:Same I w w') (hx:BlkOk w' I ρ E.mine id x) (hE:E.wrB=true):SatAt E (S.setBlk id x) a w' I ρ C:=by
 have H:∃o,w.heap[b]? =some o/\isData o=true:=h.cellBlk D O;refine⟨λt=>(h.tmps t).mono hs (λ_ _ h=>h),λi=>?_,λi i' Y ac hi ab hb=>?_,E.wr hE _ _ _ _ _ h.frame (Chg.of Z) (λk hk=>by cases hk;exact⟨(h.blt id _ D O).1,h.cB id _ D O,H⟩) (λb j hi=>hs b j (h.sub b j hi)),h.sub,
  λb j hi=>⟨eT (h.old b j hi).1 Z.size,(h.old b j hi).2⟩,h.size,h.defers.keep λr hr=>(Z.block r (cU.1 hr).1 (λe=>by cases e;obtain⟨o,hc,hd⟩:=H;rw[hc] at hr;cases hr;cases hd)).trans hr,h.cI,λi Y hi K=>?_,λi v hv hi=>h.nm i v hv ?_⟩
 ·rw[yQ]
  by_cases e:id=i
  ·subst e;simpa using hx
  ·simp only[e,cY]
   cases hb:S.blk i with
   | none=>trivial
   | _=>
    rw[<-hb];have T:S.blk i≠ .none:=by rw[hb];simp
    exact(h.blks i).mono hs (λY K=>Z.block Y (h.blt i Y T K).2 (λhe=>h.dist i id Y (λe'=>e e'.symm) T D K (by rw[O,he])))
 ·have key:∀i,(S.setBlk id x).blk i≠ .none->S.blk i≠ .none:=by
   intro i hi;rw[yQ] at hi;by_cases e:id=i
   ·subst e;exact D
   ·simpa[e] using hi
  exact h.dist i i' Y ac (key i hi) (key i' ab) hb
 ·refine h.cB i Y ?_ K
  rw[yQ] at hi;by_cases e:id=i
  ·subst e;exact D
  ·simpa[e] using hi
 ·rw[yQ] at hi
  by_cases e:id=i
  ·subst e;exact D
  ·simpa[e] using hi
theorem SatAt.update {E:Env} {S:AState} {a:Act} {w w':World} {I:Im} {ρ:Nat->Value} {C:Nat->Prop} (h:SatAt E S a w I ρ C) {row:Option Nat} (hg:w.grownBy w' row) {id:Nat} {u:Value} {x:Blk}
  (D:∀k,row=some k->S.blk id≠ .none/\blockOf (ρ id)=some k)
  (hs:Same I w w') (hu:∀b,blockOf u=some b->w.heap.size<=b\/(S.blk id≠ .none/\blockOf (ρ id)=some b)) (hx:BlkOk w' I (upd ρ id u) E.mine id x) (hE:row=none\/E.wrB=true) (ao:E.nm id=none):
  SatAt E ((S.kill id).setBlk id x) a w' I (upd ρ id u) C:=by
 have al:E.fr ((S.kill id).setBlk id x).ghost C w':=by
  have am:((S.kill id).setBlk id x).ghost=S.ghost:=by
   unfold AState.ghost;rw[zVJ,z2Q];exact yJR id _
  rw[am];rcases hE with rfl | hE
  ·exact E.grow _ _ _ _ h.frame ⟨hg.os,hg.tape,hg.output,hg.size,λk hk=>hg.block k hk (by simp)⟩
  ·exact E.wr hE _ _ _ _ _ h.frame (Chg.of hg) (λk hk=>⟨(h.blt id k (D k hk).1 (D k hk).2).1,h.cB id k (D k hk).1 (D k hk).2,h.cellBlk (D k hk).1 (D k hk).2⟩) (λb j hi=>hs b j (h.sub b j hi))
 have blt:∀i b,S.blk i≠ .none->blockOf (ρ i)=some b->b<w.heap.size:=λi b hi hb=>(h.blt i b hi hb).2;refine⟨λt=>?_,λi=>?_,λi Y b T hi ah hb=>?_,al,h.sub,λb j hb=>⟨eT (h.old b j hb).1 hg.size,(h.old b j hb).2⟩,h.size,h.defers.keep λr hr=>(hg.block r (cU.1 hr).1 (λe=>by
  obtain⟨Z,h2⟩:=D r e.symm;obtain⟨o,hc,hd⟩:=h.cellBlk Z h2;rw[hc] at hr;cases hr;cases hd)).trans hr,h.cI,λi b hi hb=>?_,λi v hv hi=>?_⟩
 ·rw[zVJ,z2Q]
  exact(h.tmps t).upd hs (λ_ _ h=>h) id u
 ·rw[yQ]
  by_cases e:id=i
  ·subst e;simpa using hx
  ·simp only[e,cY]
   rw[zJG];cases hb:S.blk i with
   | none=>trivial
   | _=>
    rw[<-hb];refine(h.blks i).upd hs (λb K=>?_) (λH=>e H.symm) u;have ad:S.blk i≠ .none:=by rw[hb];simp
    refine hg.block b (blt i b ad K) (λhe=>?_);obtain⟨Z,h2⟩:=D b he.symm;exact h.dist i id b (λH=>e H.symm) ad Z K h2
 ·have key:∀i,((S.kill id).setBlk id x).blk i≠ .none->i≠id->S.blk i≠ .none:=by
   intro i hi hn;rw[yQ,dN (λe=>hn e.symm),zJG] at hi;intro e;rw[e] at hi;exact hi rfl
  have O:∀i,i≠id->upd ρ id u i= ρ i:=λi hn=>by simp[upd,hn]
  have ag:upd ρ id u id=u:=by simp[upd]
  by_cases e:i=id
  ·have H:Y≠id:=λH=>T (e.trans H.symm)
   subst e;rw[ag] at hb;rw[O Y H];intro K;rcases hu b hb with aj | ⟨Z,h2⟩
   ·have:=blt Y b (key Y ah H) K;omega
   ·exact h.dist i Y b T Z (key Y ah H) h2 K
  ·by_cases H:Y=id
   ·subst H
    rw[O i e] at hb;rw[ag];intro K;rcases hu b K with aj | ⟨Z,h2⟩
    ·have:=blt i b (key i hi e) hb;omega
    ·exact h.dist i Y b T (key i hi e) Z hb h2
   ·rw[O i e] at hb
    rw[O Y H];exact h.dist i Y b T (key i hi e) (key Y ah H) hb
 ·by_cases e:i=id
  ·subst e
   have K:blockOf u=some b:=by simpa[upd] using hb
   rcases hu b K with Z | ⟨Z,h2⟩
   ·intro hc
    have:=E.csize _ _ _ h.frame _ hc;omega
   ·exact h.cB i b Z h2
  ·refine h.cB i b ?_ (by simpa[upd,e] using hb)
   rw[yQ,dN (λH=>e H.symm),zJG] at hi;intro H;rw[H] at hi;exact hi rfl
 ·have T:i≠id:=λe=>by rw[e,ao] at hv;cases hv
  have:upd ρ id u i= ρ i:=by simp[upd,T]
  rw[this];refine h.nm i v hv ?_;rw[yQ,dN (λH=>T H.symm),zJG] at hi;intro H;rw[H] at hi;exact hi rfl
open Go.RowKit
structure OneTy (P:Program) (t:TypeId):Prop where
 agg:∀w,(isAgg t).run P w= .ok false w
 size:∀w,(sizeOf t).run P w= .ok 1 w
structure AggTy (P:Program) (t n:Nat):Prop where
 agg:∀w,(isAgg t).run P w= .ok true w
 size:∀w,(sizeOf t).run P w= .ok n w
structure SlTy (P:Program) (t e size bytes:Nat) (z:Value):Prop where
 und:P.underlying t=some (.slice e)
 info:∃i,P.info? e=some i/\i.zero=some z/\i.size=size/\i.bytes=bytes
 zs:z.cells.size=size
 pos:0<size
 one:∀c∈z.cells.toList,c.oneCell'=true
theorem OneTy.of {P:Program} {t:TypeId} {ds:TypeDesc} (k:P.underlying t=some ds) (D:(match ds with | .struct _ | .array _ _=>true | _=>false)=false) (hi:(P.info? t).map (·.size)=some 1):OneTy P t:=by
 refine⟨λw=>?_,λw=>?_⟩
 · cases ds<;>simp_all [isAgg,dJ k]
 ·
  cases h:P.info? t with
  | none=>simp[h] at hi
  | some i=>simp[h] at hi;simp[sizeOf,typeInfo,h,hi]
theorem AggTy.of {P:Program} {t n:Nat} {ds:TypeDesc} (k:P.underlying t=some ds) (D:(match ds with | .struct _ | .array _ _=>true | _=>false)=true) (hi:(P.info? t).map (·.size)=some n):AggTy P t n:=by
 refine⟨λw=>?_,λw=>?_⟩
 · cases ds<;>simp_all [isAgg,dJ k]
 ·
  cases h:P.info? t with
  | none=>simp[h] at hi
  | some i=>simp[h] at hi;simp[sizeOf,typeInfo,h,hi]
theorem SlTy.of {P:Program} {t e size bytes:Nat} {z:Value} (K:P.underlying t=some (.slice e)) (hi:(P.info? e).map (λi=>(i.zero,i.size,i.bytes))=some (some z,size,bytes))
  (O:z.cells.size=size) (H:0<size) (k:z.cells.toList.all Value.oneCell'=true):SlTy P t e size bytes z:=by
 refine⟨K,?_,O,H,λc D=>eC.1 k c D⟩;cases h:P.info? e with
 | none=>simp[h] at hi
 | some i=>simp[h] at hi;exact⟨i,rfl,hi.1,hi.2.1,hi.2.2⟩
theorem SlTy.size {P:Program} {t e size bytes:Nat} {z:Value} (h:SlTy P t e size bytes z) (w:World):(sizeOf e).run P w= .ok size w:=by obtain⟨i,hi,_,k,_⟩:=h.info;simp[sizeOf,typeInfo,hi,k]
theorem zAC (b off j:Nat):(⟨b,off,none⟩:Addr).add j=⟨b,off+j,none⟩:=by unfold Addr.add;split<;>simp_all
theorem Rep.sl_inv {w:World} {I:Im} {v:Value} {size:Nat} {cells:List DV} (h:Rep w I v (.sl size cells)):
  ∃A n c xs,v= .slice A n c/\n<=c/\cells.length=n*size/\Reps w I xs cells/\(∀x∈xs,x.oneCell'=true)/\
   (0<n->∃b off,A=some ⟨b,off,none⟩/\∀(j:Nat) x,xs[j]? =some x->w.cell? ⟨b,off+j,none⟩=some x/\I b (off+j)):=by
 cases h with
 | nil A c=>exact⟨A,0,c,[],rfl,by omega,by simp,Pw.nil,by simp,λh=>absurd h (by omega)⟩
 | sl b off n c size xs cells Y k K T H D O=>exact⟨_,n,c,xs,rfl,by omega,K,⟨T,O⟩,D,λ_=>⟨b,off,rfl,H⟩⟩
theorem zIO {n m size:Nat} {cells:List DV} (h:cells.length=n*size) (k:cells.length=m*size) (D:0<size):n=m:=
 Nat.eq_of_mul_eq_mul_right D (h.symm.trans k)
section
variable {P:Program} {r:Option Nat} {E:Env} {S:AState} {d:Nat} {ty:TypeId} {pos:String} {af:Array Edge} {g:Option (Nat×Bool)}
theorem zUW (w:World) {t e:TypeId} (k:P.underlying t=some (.slice e)) (A:Option Addr) (n c:Nat) (x:Operand) (a:Act) (D:a.eval x= .slice A n c) (o:Oper)
  (h:o.op= .call {callee:= .builtin .len,args:= #[x],argTypes:= #[t]}):(execOp a.eval o).run P w= .ok (.value (.int .i64 n)) w:=by
 unfold execOp;simp only[h,resolve,eO,eA,fD,D];simp[invoke,builtin,Builtin.len_,dJ k,goInt]
theorem z6M {t e size bytes:Nat} {z:Value} {x:Operand} {cells:List DV} {n:Nat} (O:d<E.n) (D:SlTy P t e size bytes z) (Z:S.ev x= .d (.sl size cells)) (K:cells.length=n*size):
  jQ P r E ⟨some d,.call {callee:= .builtin .len,args:= #[x],argTypes:= #[t]},ty,pos,af,g⟩ S (S.put d (.d (.v (.int .i64 n)))):=
 jI rfl O (by simp) λA w I ρ C T=>by
  have h:=T.ev x;rw[Z] at h;obtain⟨H,n',c,xs,Y,_,k,_⟩:=Rep.sl_inv h;obtain rfl:=zIO k K D.pos;exact zUW w D.und H n' c x A Y _ rfl
theorem z0D {t e size bytes:Nat} {z:Value} {x:Operand} {id:Nat} {sh:Bool} {cells:List DV} {n:Nat} (hn:d<E.n) (K:SlTy P t e size bytes z) (hx:S.ev x= .row id) (hb:S.blk id= .row e size sh cells) (hl:cells.length=n*size):
  jQ P r E ⟨some d,.call {callee:= .builtin .len,args:= #[x],argTypes:= #[t]},ty,pos,af,g⟩ S (S.put d (.d (.v (.int .i64 n)))):=
 jI rfl hn (by simp) λA w I ρ C T=>by
  have h:=T.ev x;rw[hx] at h;have k:=T.blks id;rw[hb] at k;obtain⟨h0,n',xs,O,D,_⟩:=k;obtain rfl:=zIO O hl K.pos;have Y:A.eval x= ρ id:=h;rcases D.2 with ⟨H,rfl⟩ | ⟨gb,Z,aa,H,_⟩
  ·exact zUW w K.und _ _ _ x A (Y.trans H) _ rfl
  ·exact zUW w K.und _ _ _ x A (Y.trans H) _ rfl
theorem z0E {t:TypeId} {x:Operand} {s:ByteArray} (h:d<E.n) (D:P.underlying t=some .string) (H:S.ev x= .d (.v (.string s))):
  jQ P r E ⟨some d,.call {callee:= .builtin .len,args:= #[x],argTypes:= #[t]},ty,pos,af,g⟩ S (S.put d (.d (.v (.int .i64 s.size)))):=
 jI rfl h (by simp) λAc w I ρ C k=>by
  simp only[execOp,resolve,eO,eA,fD,k.val H];simp[invoke,builtin,Builtin.len_,dJ D,goInt]
theorem zKN (w:World) {t e size:Nat} (H:P.underlying t=some (.slice e)) (h:(sizeOf e).run P w= .ok size w) (b off n c:Nat) (K:IntKind) (k:Nat) (D:k<n):
  (Instr.indexAt t (.slice (some ⟨b,off,none⟩) n c) (.int K k)).run P w= .ok (.pointer (some ⟨b,off+k*size,none⟩)) w:=by
 simp[Instr.indexAt,asIntOf,dJ H,h,zAC,D]
theorem z0F {t e size bytes:Nat} {z:Value} {x Y:Operand} {cells:List DV} {n k:Nat} {Z:IntKind} {i:Int} (hn:d<E.n) (D:SlTy P t e size bytes z) (hx:S.ev x= .d (.sl size cells))
  (hi:S.ev Y= .d (.v (.int Z i))) (hk:i=(k:Int)) (hl:cells.length=n*size) (O:k<n):
  jQ P r E ⟨some d,.indexAddr t x Y,ty,pos,af,g⟩ S (S.put d (.ip cells (k*size))):=
 z7 rfl hn (by simp) λA w I ρ C T=>by
  subst hk;have h:=T.ev x;rw[hx] at h;obtain⟨A',n',c,xs,hv,_,K,hr,h1,hc⟩:=Rep.sl_inv h;obtain rfl:=zIO K hl D.pos;obtain⟨b,off,rfl,H⟩:=hc (by omega);refine⟨_,?_,b,off,xs,rfl,hr,h1,H⟩;simp only[execOp,hv,T.val hi,cQ,zKN w D.und (D.size w) b off n' c Z k O];rfl
theorem zVL {t e size bytes:Nat} {z:Value} {x ix:Operand} {id:Nat} {sh:Bool} {cells:List DV} {n k:Nat} {kk:IntKind} {i:Int} (hn:d<E.n) (Y:SlTy P t e size bytes z) (hx:S.ev x= .row id)
  (hb:S.blk id= .row e size sh cells) (hi:S.ev ix= .d (.v (.int kk i))) (hk:i=(k:Int)) (hl:cells.length=n*size) (H:k<n):
  jQ P r E ⟨some d,.indexAddr t x ix,ty,pos,af,g⟩ S (S.put d (.ptr id (k*size))):=
 z7 rfl hn (by simp) λA w I ρ C hs=>by
  subst hk;have h:=hs.ev x;rw[hx] at h;have hv:A.eval x= ρ id:=h;have D:=hs.blks id;rw[hb] at D;obtain⟨h0,n',xs,Z,K,_⟩:=D;obtain rfl:=zIO Z hl Y.pos;rcases K.2 with ⟨T,rfl⟩ | ⟨gb,O,ag,T,_⟩
  ·exact absurd H (by omega)
  ·refine⟨_,?_,gb,by rw[T];rfl,rfl⟩
   simp only[execOp,hv,T,hs.val hi,cQ,zKN w Y.und (Y.size w) gb 0 n' O kk k H];simp
theorem zHT (w:World) {t:TypeId} (h:OneTy P t) (b off:Nat) (v:Value) (k:w.cell? ⟨b,off,none⟩=some v):(Instr.loadAt t (.pointer (some ⟨b,off,none⟩))).run P w= .ok v w:=by simp[Instr.loadAt,Instr.sureAddr,loadVar,h.agg,run_load,k]
theorem zEC (w:World) {t n:Nat} (h:AggTy P t n) (b off:Nat) (vs:List Value) (H:vs.length=n) (k:∀j v,vs[j]? =some v->w.cell? ⟨b,off+j,none⟩=some v):
  (Instr.loadAt t (.pointer (some ⟨b,off,none⟩))).run P w= .ok (.agg vs.toArray) w:=by
 subst H;have:=run_loadCells_list (P:=P) w ⟨b,off,none⟩ vs (λj v D=>by rw[zAC];exact k j v D)
 simp[Instr.loadAt,Instr.sureAddr,loadVar,h.agg,h.size,this]
theorem z0G {t:TypeId} {x:Operand} {cells:List DV} {off:Nat} {e:DV} (Y:d<E.n) (T:OneTy P t) (hx:S.ev x= .ip cells off) (K:cells[off]? =some e):
  jQ P r E ⟨some d,.load t x,ty,pos,af,g⟩ S (S.put d (.d e)):=
 z7 rfl Y (by simp) λA w I ρ C Z=>by
  have h:=Z.ev x;rw[hx] at h;obtain⟨b,o,xs,hv,O,h1,D⟩:=h;have H:off<xs.length:=by rw[O.1];exact(c8.1 K).1
  have k:=cS H;refine⟨xs[off],?_,O.2 off _ e k K⟩;simp only[execOp,hv,cQ,zHT w T b (o+off) _ (D off _ k).1];rfl
theorem zXI {t n:Nat} {x:Operand} {cells:List DV} {off:Nat} {es:List DV} (hn:d<E.n) (hT:AggTy P t n) (k:S.ev x= .ip cells off) (Y:(cells.drop off).take n=es) (Z:es.length=n):
  jQ P r E ⟨some d,.load t x,ty,pos,af,g⟩ S (S.put d (.d (.agg es))):=
 z7 rfl hn (by simp) λA w I ρ C hs=>by
  have h:=hs.ev x;rw[k] at h;obtain⟨b,o,xs,hv,hr,h1,O⟩:=h;have D:((xs.drop off).take n).length=n:=by
   have:((cells.drop off).take n).length=n:=by rw[Y];exact Z
   simp only[dZ,eH] at this ⊢;rw[hr.1];exact this
  refine⟨.agg ((xs.drop off).take n).toArray,?_,.agg _ _ (by rw[D,Z]) (λx k=>h1 x (eP (eD k))) (λj x e k K=>?_)⟩
  ·simp only[execOp,hv,cQ]
   rw[zEC w hT b (o+off) _ D]
   ·rfl
   ·intro j v H
    rw[d6] at H;split at H
    ·rw[eQ] at H
     rw[fV];exact(O _ v H).1
    ·cases H
  ·subst Y
   rw[d6] at k K;split at k
   ·rename_i T
    rw[dG T] at K;rw[eQ] at k K;exact hr.2 _ x e k K
   ·cases k
theorem zXJ {t:TypeId} {x:Operand} {id off eb:Nat} {cells:List AV} {av:AV} (hn:d<E.n) (hT:OneTy P t) (hx:S.ev x= .ptr id off) (hb:S.blk id= .box eb cells) (Y:cells[off]? =some av):
  jQ P r E ⟨some d,.load t x,ty,pos,af,g⟩ S (S.put d av):=
 z7 rfl hn (by simp) λA w I ρ C hs=>by
  have h:=hs.ev x;rw[hx] at h;obtain⟨b,k,hv⟩:=h;have D:=hs.blks id;rw[hb] at D;obtain⟨T,arr,K,hB,hh,h1,Z,hI⟩:=D;rw[K] at k;simp[blockOf] at k;subst k;have H:off<arr.size:=by rw[<-eN,Z.1];exact(c8.1 Y).1
  have O:arr[off]? =some arr[off]:=fJ H;refine⟨arr[off],?_,Z.2 off _ av (by simp[H]) Y⟩;simp only[execOp,hv,cQ];rw[zHT w hT T off arr[off] (by rw[e9 w T off arr eb (0,0) hh];exact O)]
  rfl
theorem zYN {w:World} {I:Im} {ρ:Nat->Value} {M:Nat->Prop} {id e size:Nat} {sh:Bool} {cells:List DV} (h:BlkOk w I ρ M id (.row e size sh cells)) {b:Nat} (hb:blockOf (ρ id)=some b):
  ∃xs,Reps w I xs cells/\(∀x∈xs,x.oneCell'=true)/\∀(j:Nat) x,xs[j]? =some x->w.cell? ⟨b,j,none⟩=some x:=by
 obtain⟨h0,n',xs,Y,k,D,Z,_⟩:=h;refine⟨xs,Z,D,λj x T=>?_⟩;rcases k.2 with ⟨D,rfl⟩ | ⟨O,H,K,D,_⟩
 ·rw[D] at hb;cases hb
 ·rw[D] at hb
  simp[blockOf] at hb;subst hb;have:=k.cells (g:=O) (by rw[D];rfl) j x T
  rw[zAC] at this;simpa using this
theorem zXK {t:TypeId} {x:Operand} {id off e size:Nat} {sh:Bool} {cells:List DV} {y:DV} (hn:d<E.n) (hT:OneTy P t) (hx:S.ev x= .ptr id off) (hb:S.blk id= .row e size sh cells) (T:cells[off]? =some y):
  jQ P r E ⟨some d,.load t x,ty,pos,af,g⟩ S (S.put d (.d y)):=
 z7 rfl hn (by simp) λA w I ρ C Z=>by
  have h:=Z.ev x;rw[hx] at h;obtain⟨b,O,hv⟩:=h;have k:=Z.blks id;rw[hb] at k;obtain⟨xs,Y,h1,H⟩:=zYN k O;have K:off<xs.length:=by rw[Y.1];exact(c8.1 T).1
  have D:=cS K;refine⟨xs[off],?_,Y.2 off _ y D T⟩;simp only[execOp,hv,cQ,zHT w hT b off _ (H off _ D)];rfl
theorem zVM {t n:Nat} {x:Operand} {id off e size:Nat} {sh:Bool} {cells es:List DV} (hn:d<E.n) (hT:AggTy P t n) (k:S.ev x= .ptr id off) (hb:S.blk id= .row e size sh cells)
  (hc:(cells.drop off).take n=es) (hl:es.length=n):
  jQ P r E ⟨some d,.load t x,ty,pos,af,g⟩ S (S.put d (.d (.agg es))):=
 z7 rfl hn (by simp) λA w I ρ C hs=>by
  have h:=hs.ev x;rw[k] at h;obtain⟨b,Z,hv⟩:=h;have H:=hs.blks id;rw[hb] at H;obtain⟨xs,hr,h1,T⟩:=zYN H Z;have D:((xs.drop off).take n).length=n:=by
   have:((cells.drop off).take n).length=n:=by rw[hc];exact hl
   simp only[dZ,eH] at this ⊢;rw[hr.1];exact this
  refine⟨.agg ((xs.drop off).take n).toArray,?_,.agg _ _ (by rw[D,hl]) (λx k=>h1 x (eP (eD k))) (λj x e k O=>?_)⟩
  ·simp only[execOp,hv,cQ]
   rw[zEC w hT b off _ D]
   ·rfl
   ·intro j v K
    rw[d6] at K;split at K
    ·rw[eQ] at K
     exact T _ v K
    ·cases K
  ·subst hc
   rw[d6] at k O;split at k
   ·rename_i Y
    rw[dG Y] at O;rw[eQ] at k O;exact hr.2 _ x e k O
   ·cases k
theorem zGX {o:Oper} {S':AState} (D:o.dst=none) (k:∀c,o.op≠ .defer c)
  (h:∀a w I ρ C,SatAt E S a w I ρ C->∃w',(execOp a.eval o).run P w= .ok .skip w'/\Sat E S' a w'):jQ P r E o S S':=by
 rintro a w K Q ⟨I,ρ,C,T⟩ H
 obtain⟨w',O,Y⟩:=h a w I ρ C T;refine⟨λf _=>trivial,?_⟩;rw[Oper.semAt_eq _ _ _ k,O];refine H _ _ ?_;rw[D];exact Y
theorem zLM {v:Value} (h:v.oneCell'=true):v.cells= #[v]:=by cases v<;>simp_all [Value.oneCell',Value.cells]
theorem zVN (w:World) {t:TypeId} (H:OneTy P t) {b off e:Nat} {arr:Array Value} {v:Value} (K:w.heap[b]? =some (.cells arr e (0,0))) (h:off<arr.size) (k:v.oneCell'=true):
  (Instr.storeAt t (.pointer (some ⟨b,off,none⟩)) v).run P w= .ok () (w.setRow b (arr.toList.set off v).toArray):=by
 have:=run_storeCells_at P b off e [v] 0 arr w K (by simp;omega) (by simpa using k)
 have D:arr.toList.take off++ [v]++arr.toList.drop (off+1)=arr.toList.set off v:=by
  rw[gy,dG (by simpa using h)];simp
 simp only[fE,gY,D] at this;simp[Instr.storeAt,Instr.sureAddr,storeVar,H.size,zLM k,this]
theorem zVO (w:World) {t n:Nat} (D:AggTy P t n) {b off e:Nat} {arr:Array Value} {vs:List Value} (H:w.heap[b]? =some (.cells arr e (0,0))) (h:off+n<=arr.size) (K:vs.length=n) (k:∀v∈vs,v.oneCell'=true):
  (Instr.storeAt t (.pointer (some ⟨b,off,none⟩)) (.agg vs.toArray)).run P w= .ok () (w.setRow b (arr.toList.take off++vs++arr.toList.drop (off+n)).toArray):=by
 subst K;have:=run_storeCells_at P b off e vs 0 arr w H (by simpa using h) k;simp only[fE] at this;simp only[Instr.storeAt,Instr.sureAddr,storeVar,cQ,dT,cV,D.size,Value.cells];simp[this]
theorem zCL (w:World) (b:Nat) (arr:Array Value):w.grownBy (w.setRow b arr) (some b):=
 ⟨rfl,rfl,rfl,by simp,λk _ h=>setRow_other w b k arr (λe=>h (by rw[e]))⟩
theorem vX {w:World} {I:Im} {b:Nat} {arr:Array Value} (h:∀j,¬I b j):Same I w (w.setRow b arr):=by intro k j hi;have:k≠b:=λe=>h j (e▸hi);exact KeepB.of (setRow_other w b k arr this)
def AV.one:AV->Bool
 | .d (.v u)=>u.oneCell'
 | .d (.sl _ _)=>true
 | .d (.pt _)=>true
 | .d (.fn _ _)=>true
 | .d (.bm _ _)=>true
 | .d (.mp _ _)=>true
 | .row _=>true
 | .ptr _ _=>true
 | .clo _ _=>true
 | _=>false
theorem zP2 {w:World} {I:Im} {ρ:Nat->Value} {M:Nat->Prop} {S:AState} (hb:∀id,BlkOk w I ρ M id (S.blk id)) {v:Value} {av:AV} (h:Holds w I ρ v av) (Z:av.one=true)
  (hr:∀id,av= .row id->S.blk id≠ .none):v.oneCell'=true:=by
 cases av with
 | d x=>
  cases x with
  | v u=>cases h;simpa[AV.one] using Z
  | sl s c=>obtain⟨A,n,c,xs,rfl,_⟩:=Rep.sl_inv h;rfl
  | agg c=>simp[AV.one] at Z
  | pt c=>cases h;rfl
  | fn f c=>cases h;rfl
  | bm f c=>cases h;rfl
  | mp ks vs=>cases h;rfl
 | row id=>
  have K:v= ρ id:=h;have D:=hb id;cases T:S.blk id with
  | none=>exact absurd T (hr id rfl)
  | row e size sh cells=>
   rw[T] at D;obtain⟨_,n,xs,hl,Y,_⟩:=D;rcases Y.2 with ⟨H,_⟩ | ⟨g,ad,ag,H,_⟩<;>rw[K,H]<;>rfl
  | box e cells=>
   rw[T] at D;obtain⟨b',arr,H,_⟩:=D;rw[K,H];rfl
  | map es=>
   rw[T] at D;obtain⟨b',ents,O,H,_⟩:=D;rw[K,H];rfl
  | it es q=>
   rw[T] at D;obtain⟨b',bm,ents,O,ac,H,_⟩:=D;rw[K,H];rfl
  | win e size k cells=>
   rw[T] at D;obtain⟨A,n,c,xs,H,_⟩:=D;rw[K,H];rfl
 | ptr id off=>obtain⟨b,_,K⟩:=h;rw[K];rfl
 | clo f ab=>obtain⟨xs,K,_⟩:=h;rw[K];rfl
 | _=>simp[AV.one] at Z
def zTL (S:AState):AV->Bool
 | .row id=>match S.blk id with | .none=>false | _=>true
 | _=>true
theorem zMA {S:AState} {av:AV} (h:zTL S av=true):∀id,av= .row id->S.blk id≠ .none:=by
 rintro id rfl e
 simp[zTL,e] at h
theorem zJH {t:TypeId} {x y:Operand} {id off eb:Nat} {cells:List AV} (hT:OneTy P t) (hx:S.ev x= .ptr id off) (hb:S.blk id= .box eb cells) (ad:off<cells.length)
  (h1:(S.ev y).one=true) (hr:zTL S (S.ev y)=true) (hE:E.wrB=true):
  jQ P r E ⟨none,.store t x y,ty,pos,af,g⟩ S (S.setBlk id (.box eb (cells.set off (S.ev y)))):=
 zGX rfl (by simp) λA w I ρ C Z=>by
  have h:=Z.ev x;rw[hx] at h;obtain⟨b,H,hv⟩:=h;have O:=Z.blks id;rw[hb] at O;obtain⟨K,arr,D,hB,hh,ab,Y,hI⟩:=O;have ac:K=b:=by rw[D] at H;simpa[blockOf] using H
  subst ac;have hy:=Z.ev y;have k:=zP2 Z.blks hy h1 (zMA hr);have T:off<arr.size:=by rw[<-eN,Y.1];exact ad
  refine⟨w.setRow K (arr.toList.set off (A.eval y)).toArray,?_,I,ρ,C,Z.modify (zCL w K _) (by rw[hb];simp) H (vX hI) ⟨K,_,D,hB,iu w K arr _ eb _ hh,?_,?_,hI⟩ hE⟩
  ·simp only[execOp,hv,cQ,zVN w hT hh T k]
   rfl
  ·intro u hu
   simp only at hu;rcases gu hu with hu | hu
   ·exact ab u hu
   ·rw[hu];exact k
  ·exact(Y.imp λ_ _ h=>h.mono (vX hI) (λ_ _ h=>h)).set (hy.mono (vX hI) (λ_ _ h=>h)) off
theorem zVP {t:TypeId} {x y:Operand} {id off e size:Nat} {cells:List DV} {u:DV} (hT:OneTy P t) (hx:S.ev x= .ptr id off) (hb:S.blk id= .row e size false cells) (ad:off<cells.length)
  (hy:S.ev y= .d u) (h1:(AV.d u).one=true) (hE:E.wrB=true):
  jQ P r E ⟨none,.store t x y,ty,pos,af,g⟩ S (S.setBlk id (.row e size false (cells.set off u))):=
 zGX rfl (by simp) λA w I ρ C hs=>by
  have h:=hs.ev x;rw[hx] at h;obtain⟨b,k,hv⟩:=h;have ab:=hs.blks id;rw[hb] at ab;obtain⟨h0,n,xs,hl,K,ak,an,hI⟩:=ab;have Z:=hs.ev y;rw[hy] at Z;have H:=zP2 hs.blks Z h1 (by intro _ e;cases e)
  rcases K.2 with ⟨hn,_⟩ | ⟨T,aj,O,hn,hB,hh,ah,am,ac,ao⟩
  ·rw[hn] at k;cases k
  ·have al:T=b:=by rw[hn] at k;simpa[blockOf] using k
   subst al;have D:∀j,¬I T j:=λj hj=>by have:=(hI T j (by rw[hn];rfl) hj).1;cases this
   have aq:xs.length=n*size:=K.1;have ag:off<O.size:=by rw[ac];rw[hl] at ad;exact eT ad (dU _ ah)
   refine⟨w.setRow T (O.toList.set off (A.eval y)).toArray,?_,I,ρ,C,hs.modify (zCL w T _) (by rw[hb];simp) k (vX D) ⟨h0,n,xs.set off (A.eval y),by simp[hl],⟨by simp[aq],.inr ⟨T,aj,_,hn,hB,iu w T O _ e _ hh,ah,am,?_,?_⟩⟩,?_,?_,?_⟩ hE⟩
   ·simp only[execOp,hv,cQ,zVN w hT hh ag H]
    rfl
   ·simp[ac]
   ·simp only[List.take_set,ao]
   ·intro v ap
    rcases gu ap with hu | hu
    ·exact ak v hu
    ·rw[hu];exact H
   ·exact(an.imp λ_ _ h=>h.mono (vX D) (λ_ _ h=>h)).set (Rep.mono Z (vX D) (λ_ _ h=>h)) off
   ·intro g' j Y hi
    rw[hn] at Y;simp[Value.ownBlock] at Y;subst Y;exact absurd hi (D j)
theorem zVQ (w:World) (o:Obj) {b:Nat} (h:b<w.heap.size):(w.alloc o).heap[b]? =w.heap[b]?:=(World.grownBy_alloc w o none).block b h (by simp)
theorem zJI (w:World) (o:Obj):w.grownBy (w.alloc o) none:=World.grownBy_alloc w o none
theorem zFM {w:World} {I:Im} (o:Obj) (h:∀b j,I b j->b<w.heap.size):Same I w (w.alloc o):=λb j hi=>KeepB.of (zVQ w o (h b j hi))
theorem SatAt.newRow {A:Act} {w:World} {I:Im} {ρ:Nat->Value} {C:Nat->Prop} (Y:SatAt E S A w I ρ C) {id e size n c:Nat} {xs rest:List Value} {cells:List DV} (hp:0<size) (Z:cells.length=n*size) (hc:n<=c) (K:c<=maxLen)
  (hr:rest.length=(c-n)*size) (D:Reps w I xs cells) (h1:∀x∈xs,x.oneCell'=true) (T:E.nm id=none):
  SatAt E ((S.kill id).setBlk id (.row e size false cells)) A (w.alloc (.cells (xs++rest).toArray e)) I (upd ρ id (.slice (some ⟨w.heap.size,0,none⟩) n c)) C:=by
 have H:∀b j,I b j->b<w.heap.size:=λb j h=>(Y.old b j h).1;have k:xs.length=n*size:=by rw[D.1,Z]
 refine Y.update (zJI w _) (by simp) (zFM _ H) (λb hb=> .inl (by simp[blockOf] at hb;omega)) ⟨⟨hp,λg hg=>E.mineB g (by simp[upd,Value.ownBlock] at hg;have:=E.size _ _ _ Y.frame;omega)⟩,n,xs,Z,?_,h1,D.mono (zFM _ H) (λ_ _ h=>h),?_⟩ (.inl rfl) T
 ·have eu:upd ρ id (.slice (some ⟨w.heap.size,0,none⟩) n c) id= .slice (some ⟨w.heap.size,0,none⟩) n c:=by simp[upd]
  rw[eu];refine⟨k,.inr ⟨w.heap.size,c,_,rfl,gD _,gP w _,hc,K,?_,?_⟩⟩
  ·simp only[fY,cX,k,hr,<-eG]
   congr 1;omega
  ·rw[<-k]
   exact gQ
 ·intro g' j O hi
  simp[upd,Value.ownBlock] at O;have:=H g' j hi;omega
theorem SatAt.newBox {A:Act} {w:World} {I:Im} {ρ:Nat->Value} {C:Nat->Prop} (Y:SatAt E S A w I ρ C) {id e:Nat} {arr:Array Value} {cells:List AV} (D:Pw (Holds w I ρ) arr.toList cells) (Z:∀x∈arr.toList,x.oneCell'=true) (T:E.nm id=none):
  SatAt E ((S.kill id).setBlk id (.box e (cells.map (zFL id)))) A (w.alloc (.cells arr e)) I (upd ρ id (.pointer (some ⟨w.heap.size,0,none⟩))) C:=by
 have K:∀b j,I b j->b<w.heap.size:=λb j h=>(Y.old b j h).1;refine Y.update (zJI w _) (by simp) (zFM _ K) (λb hb=> .inl (by simp[blockOf] at hb;omega)) ⟨w.heap.size,arr,by simp[upd],E.mineB _ (E.size _ _ _ Y.frame),gP w _,Z,⟨by simpa using D.1,λj x av hx k=>?_⟩,λj hj=>by have:=K _ j hj;omega⟩ (.inl rfl) T
 rw[dW] at k;cases O:cells[j]? with
 | none=>simp[O] at k
 | some H=>
  simp[O] at k;subst k;exact(D.2 j x H hx O).upd (zFM _ K) (λ_ _ h=>h) id _
def dvs (vs:List Value):List AV:=vs.map λv=> .d (.v v)
theorem yBK (w:World) (I:Im) (ρ:Nat->Value) (vs:List Value):Pw (Holds w I ρ) vs (dvs vs):=by refine⟨by simp[dvs],λj x y k h=>?_⟩;simp[dvs,k] at h;subst h;exact .v x
theorem yEQ (id:Nat) (vs:List Value):(dvs vs).map (zFL id)=dvs vs:=by simp[dvs,zFL,AV.mentions]
theorem kK {h:TypeId} {zs:List Value} (O:d<E.n) (D:((P.info? h).bind (·.zero)).map (·.cells.toList)=some zs) (K:zs.all Value.oneCell'=true) (H:E.nm d=none):
    jQ P r E ⟨some d,.alloc h,ty,pos,af,g⟩ S (((S.kill d).setBlk d (.box h (dvs zs))).put d (.ptr d 0)):=
  zAQ (by simp) λA w I ρ C T=>by
    cases hi:P.info? h with
    | none=>simp[hi] at D
    | some i=>
      cases k:i.zero with
      | none=>simp[hi,k] at D
      | some z=>
        simp[hi,k] at D;have hb:=T.newBox (id:=d) (e:=h) (arr:=z.cells) (cells:=dvs zs) (by rw[D];exact yBK _ _ _ _) (by rw[D];exact λx Y=>eC.1 K x Y) H
        rw[yEQ] at hb;refine⟨.pointer (some ⟨w.heap.size,0,none⟩),w.alloc (.cells z.cells h),?_,I,_,C,hb.put O ⟨w.heap.size,by simp[upd,blockOf],rfl⟩⟩;simp[execOp,Instr.alloc,zeroValue,typeInfo,hi,k,newVar,newRow]
end
open Go.RowKit
def AState.dv (S:AState):AV->Option DV
 | .d x=>some x
 | .row id=>match S.blk id with
  | .row _ size _ cells=>some (.sl size cells)
  | _=>none
 | _=>none
def AState.shareAV (S:AState):AV->AState
 | .row id=>match S.blk id with
  | .row e size _ cells=>S.setBlk id (.row e size true cells)
  | _=>S
 | _=>S
theorem zXL {w:World} {B e size n:Nat} {v:Value} {xs:List Value} (h:w.ownsRow B e size v n xs) {b:Nat} (hb:v.ownBlock=some b):∃arr H K,w.heap[b]? =some (.cells arr H K):=by rcases h.2 with ⟨T,_⟩ | ⟨g,k,D,Y,Z,O,_⟩;rw[T] at hb;simp[Value.ownBlock] at hb;rw[Y] at hb;simp[Value.ownBlock] at hb;subst hb;exact⟨_,_,_,O⟩
theorem k6 (I:Im) (w:World):Same I w w:=λ_ _ _=>KeepB.refl
theorem SatAt.shareRow {E:Env} {S:AState} {a:Act} {w:World} {I:Im} {ρ:Nat->Value} {C:Nat->Prop} (h:SatAt E S a w I ρ C) {id e size:Nat} {sh:Bool} {cells:List DV} (hb:S.blk id= .row e size sh cells):
  ∃Y:Im,(∀b j,I b j->Y b j)/\SatAt E (S.setBlk id (.row e size true cells)) a w Y ρ C/\Rep w Y (ρ id) (.sl size cells):=by
 have hk:=h.blks id;rw[hb] at hk;obtain⟨hp,n,xs,Z,K,h1,O,hI⟩:=hk;have D:S.blk id≠ .none:=by rw[hb];simp
 let Y:Im:=λb j=>I b j\/((ρ id).ownBlock=some b/\j<cells.length)
 have k:∀b j,I b j->Y b j:=λb j hi=> .inl hi;refine⟨Y,k,⟨λt=>(h.tmps t).mono (k6 I w) k,λi=>?_,λi i' b T hi ad=>?_,h.frame,λb j hi=>k b j (h.sub b j hi),λb j hi=>?_,h.size,h.defers,λb j hi=>?_,λi b hi ab=>?_,λi v hv hi=>h.nm i v hv ?_⟩,?_⟩
 ·rw[yQ]
  by_cases H:id=i
  ·subst H
   simp only[dH];refine⟨hp,n,xs,Z,K,h1,O.mono (k6 I w) k,λg j hg hi=>⟨rfl,?_⟩⟩;rcases hi with hi | ⟨_,hi⟩
   ·exact(hI g j hg hi).2
   ·exact hi
  ·simp only[H,cY]
   refine(h.blks i).widenI k λb j hx ac hi=>?_;rcases hi with hi | ⟨hi,_⟩
   ·exact hi
   ·exact absurd ac (h.dist id i b H D hx (zB2 hi))
 ·have key:∀i,(S.setBlk id (.row e size true cells)).blk i≠ .none->S.blk i≠ .none:=by
   intro i hi;rw[yQ] at hi;by_cases H:id=i
   ·subst H;exact D
   ·simpa[H] using hi
  exact h.dist i i' b T (key i hi) (key i' ad)
 ·rcases hi with hi | ⟨hi,_⟩
  ·exact h.old b j hi
  ·have:=h.blt id b D (zB2 hi)
   exact⟨this.2,.inr this.1⟩
 ·rcases hi with hi | ⟨hi,_⟩
  ·exact h.cI b j hi
  ·exact h.cB id b D (zB2 hi)
 ·refine h.cB i b ?_ ab
  rw[yQ] at hi;by_cases H:id=i
  ·subst H;exact D
  ·simpa[H] using hi
 ·rw[yQ] at hi
  by_cases H:id=i
  ·subst H;exact D
  ·simpa[H] using hi
 ·rcases K.2 with ⟨T,rfl⟩ | ⟨gb,aa,am,T,hB,hh,ag,ap,aq,aw⟩
  ·have:cells= []:=cP (by simpa using Z)
   subst this;rw[T];exact .nil _ _ _
  ·rw[T]
   by_cases h0:n=0
   ·subst h0
    have:cells= []:=cP (by simpa using Z);subst this;exact .nil _ _ _
   ·refine .sl gb 0 n aa size xs cells (by omega) ag Z O.1 (λj x hj=>⟨?_,.inr ⟨by rw[T];rfl,?_⟩⟩) h1 (O.mono (k6 I w) k).2
    ·have:=K.cells (g:=gb) (by rw[T];rfl) j x hj
     rw[zAC] at this;exact this
    ·rw[<-O.1,em]
     exact(c8.1 hj).1
theorem SatAt.dv {E:Env} {S:AState} {a:Act} {w:World} {I:Im} {ρ:Nat->Value} {C:Nat->Prop} (h:SatAt E S a w I ρ C) {v:Value} {x:AV} {y:DV} (O:Holds w I ρ v x) (D:S.dv x=some y):
  ∃H:Im,(∀b j,I b j->H b j)/\SatAt E (S.shareAV x) a w H ρ C/\Rep w H v y:=by
 cases x with
 | d z=>simp[AState.dv] at D;subst D;exact⟨I,λ_ _ h=>h,h,O⟩
 | row id=>
  simp only[AState.dv] at D;cases hb:S.blk id with
  | row e size sh cells=>
   rw[hb] at D;simp at D;subst D;obtain⟨H,T,Y,Z⟩:=h.shareRow hb;have K:v= ρ id:=O;refine⟨H,T,?_,by rw[K];exact Z⟩
   simp only[AState.shareAV,hb];exact Y
  | none=>rw[hb] at D;simp at D
  | box e c=>rw[hb] at D;simp at D
  | map es=>rw[hb] at D;simp at D
  | it es q=>rw[hb] at D;simp at D
  | win e s k c=>rw[hb] at D;simp at D
 | _=>simp[AState.dv] at D
theorem zVR (S:AState) (x y:AV):(S.shareAV x).dv y=S.dv y:=by
 unfold AState.shareAV;split;rename_i id;split;rename_i e size k cells hb;cases y with
 | row i=>
  simp only[AState.dv,yQ];by_cases h:id=i;subst h;simp[hb];simp[h]
 | _=>rfl
 rfl;rfl
def AState.dvL (S:AState):List AV->Option (List DV)
 | []=>some []
 | x::r=>match S.dv x,S.dvL r with
  | some y,some ys=>some (y::ys)
  | _,_=>none
def AState.shareL (S:AState):List AV->AState
 | []=>S
 | x::r=>(S.shareAV x).shareL r
theorem zYO (S:AState) (x:AV) (l:List AV):(S.shareAV x).dvL l=S.dvL l:=by
 induction l with
 | nil=>rfl
 | cons y l h=>simp only[AState.dvL,zVR,h]
theorem SatAt.dvL {E:Env} {a:Act} {w:World} {ρ:Nat->Value} {C:Nat->Prop} (l:List AV):∀{S:AState} {I:Im} (_:SatAt E S a w I ρ C) {vs:List Value} {ds:List DV} (_:Pw (Holds w I ρ) vs l) (_:S.dvL l=some ds),
  ∃K:Im,(∀b j,I b j->K b j)/\SatAt E (S.shareL l) a w K ρ C/\Reps w K vs ds:=by
 induction l with
 | nil=>
  intro S I h vs ds D k;simp[AState.dvL] at k;subst k;have:vs= []:=cP D.1;subst this;exact⟨I,λ_ _ h=>h,h,Pw.nil⟩
 | cons x l ih=>
  intro S I h vs ds D k;cases vs with
  | nil=>have:=D.1;simp at this
  | cons v vs=>
   simp only[AState.dvL] at k;cases H:S.dv x with
   | none=>simp[H] at k
   | some y=>
    cases O:S.dvL l with
    | none=>simp[H,O] at k
    | some ys=>
     simp[H,O] at k;subst k;obtain⟨Y,Z,h2,h3⟩:=h.dv (D.2 0 v x rfl rfl) H;have T:Pw (Holds w Y ρ) vs l:=⟨by have:=D.1;simpa using this,λj u z hu hz=>(D.2 (j+1) u z (by simpa using hu) (by simpa using hz)).mono (k6 I w) Z⟩
     obtain⟨I2,h4,h5,h6⟩:=ih h2 T (by rw[zYO];exact O)
     exact⟨I2,λb j hi=>h4 b j (Z b j hi),h5,Pw.cons (h3.mono (k6 Y w) h4) h6⟩
def z2R (w:World) (I:Im) (v:Value):List DV->Prop
 | [y]=>Rep w I v y
 | ys=> ∃xs,v= .tuple xs.toArray/\Reps w I xs ys
def gdNames:List (String×List Value):=[("unicodetext/ordering.hangulRanges",[.int .i64 4352,.int .i64 4370,.int .i64 4449,.int .i64 4469,.int .i64 4520,.int .i64 4546,.int .i64 44032,.int .i64 55203]),("internal/strconv.uint64pow10",[.int .u64 1,.int .u64 10,.int .u64 100,.int .u64 1000,.int .u64 10000,.int .u64 100000,.int .u64 1000000,.int .u64 10000000,.int .u64 100000000,.int .u64 1000000000,.int .u64 10000000000,.int .u64 100000000000,.int .u64 1000000000000,.int .u64 10000000000000,.int .u64 100000000000000,.int .u64 1000000000000000,.int .u64 10000000000000000,.int .u64 100000000000000000,.int .u64 1000000000000000000,.int .u64 10000000000000000000])]
def uB (P:Program) (g:Nat):Option (List Value):=(gdNames.find? λp=>P.globalNamed p.1==some g).map Prod.snd
def zE (P:Program) (f:FuncId) (ds D:List DV):Prop:=
 (∃k,P.funcs[f]? =some k/\(k.name== "runtime.NumGoroutine")=false/\k.body.isNone=false)/\
 ∀(w:World) (I:Im) (vs:List Value),(∀b j,I b j->b<w.heap.size)->GlI (uB P) w I->Reps w I vs ds->
  Calls P f vs.toArray w λe w'=> ∃v h,e= .returned v/\Below w.heap.size w w'/\(∀b j,I b j->h b j)/\(∀b j,h b j->b<w'.heap.size/\(I b j\/w.heap.size<=b))/\z2R w' h v D
def zYP:List DV->AV
 | [y]=> .d y
 | ys=> .tup ys
theorem zNO {w:World} {I:Im} {ρ:Nat->Value} {v:Value}:∀{k:List DV},z2R w I v k->Holds w I ρ v (zYP k)
 | [],h=>h
 | [_],h=>h
 | _::_::_,h=>h
section
variable {P:Program} {r:Option Nat} {E:Env} {S:AState} {d:Nat} {ty:TypeId} {pos:String} {af:Array Edge} {g:Option (Nat×Bool)}
theorem SatAt.widen {a:Act} {w:World} {I H:Im} {ρ:Nat->Value} {C:Nat->Prop} {B:Nat} (h:SatAt E S a w I ρ C) (D:∀b j,I b j->H b j) (k:∀b j,H b j->b<w.heap.size/\(I b j\/B<=b))
  (O:∀i b,S.blk i≠ .none->blockOf (ρ i)=some b->b<B) (Y:E.B<=B) (T:∀b,C b->b<B):SatAt E S a w H ρ C:=by
 refine⟨λt=>(h.tmps t).mono (k6 I w) D,λi=>?_,h.dist,h.frame,λb j hi=>D b j (h.sub b j hi),λb j hi=>⟨(k b j hi).1,?_⟩,h.size,h.defers,λb j hi=>?_,h.cB,h.nm⟩
 ·refine(h.blks i).widenI D λb j hx K hi=>?_
  rcases (k b j hi).2 with hi | hi
  ·exact hi
  ·have:=O i b hx K;omega
 ·rcases (k b j hi).2 with hi | hi
  ·exact(h.old b j hi).2
  ·exact .inr (E.mineB b (by omega))
 ·rcases (k b j hi).2 with hi | hi
  ·exact h.cI b j hi
  ·intro Z;have:=T b Z;omega
theorem zCC {A:Act} {w:World} {I:Im} {ρ:Nat->Value} {C:Nat->Prop} (h:SatAt E S A w I ρ C) (xs:List Operand):Pw (Holds w I ρ) (xs.map A.eval) (xs.map S.ev):=by
 induction xs with
 | nil=>exact Pw.nil
 | cons x xs k=>exact Pw.cons (h.ev x) k
theorem zYQ {f:FuncId} {xs:List Operand} {ats:Array TypeId} {ds rs:List DV} (hn:d<E.n) (ad:S.dvL (xs.map S.ev)=some ds) (hc:zE P f ds rs) (hG:E.gdt=uB P:=by rfl):
  jQ P r E ⟨some d,.call {callee:= .value (.func f),args:=xs.toArray,argTypes:=ats},ty,pos,af,g⟩ S ((S.shareL (xs.map S.ev)).put d (zYP rs)):=by
 rintro A w K Q ⟨I,ρ,C,hs⟩ hk
 obtain⟨⟨fn,hf,D,h⟩,k⟩:=hc;obtain⟨I1,h1,H,h3⟩:=SatAt.dvL _ hs (zCC hs xs) ad;have ac:=k w I1 (xs.map A.eval) (λb j hi=>(H.old b j hi).1) (hG▸H.gl) h3;refine⟨λf _=>trivial,?_⟩;rw[Oper.semAt_eq _ _ _ (by simp)];have Y:(execOp A.eval ⟨some d,.call {callee:= .value (.func f),args:=xs.toArray,argTypes:=ats},ty,pos,af,g⟩).run P w= .ok (.enter f (xs.map A.eval).toArray) w:=by
  simp only[execOp,resolve,Act.eval,Deferred.ofValue];have ag:¬fn.name= "runtime.NumGoroutine" :=by simpa using D
  have ah:¬fn.body=none:=by intro e;simp[e] at h
  simp[invoke,callFunc,hf,ag,ah,eO]
 rw[Y];refine⟨by simp[fen,Fence.wide],?_⟩;show CallsIn Fence.wide 0 P f _ w _;refine gG.2 (ac.mono ?_)
 rintro e w' ⟨v,I',rfl,hb,Z,O,T⟩
 refine hk _ _ ⟨I',ρ,C,SatAt.put ?_ hn (zNO T)⟩;have h4:=H.grow hb;exact h4.widen Z O (λi b hi aa=>(H.blt i b hi aa).2) (E.size _ _ _ H.frame) (λb hc=>E.csize _ _ _ H.frame b hc)
end
open Go.RowKit
def yN2 (E:Env) (K:Exit->AState->Prop):Exit->Act->World->Prop:=λe a w=> ∃S,K e S/\Sat E S a w
def Avc (P:Program) (r:Option Nat) (E:Env) (c:Code) (K:Exit->AState->Prop) (S:AState):Prop:=
 ∀a w,Sat E S a w->c.wpIn (fen r) 0 P (yN2 E K) a w
def zGS (E:Env) (S S':AState):Prop:= ∀a w,Sat E S a w->Sat E S' a w
def yM4 (J:AState->Prop) (K:Exit->AState->Prop):Exit->AState->Prop
 | .normal,S=>J S
 | e,S=>K e S
def yER (id:Nat) (K:Exit->AState->Prop):Exit->AState->Prop
 | .exit i,S=>if Nat.beq i id then K .normal S else K (.exit i) S
 | e,S=>K e S
def gd (h b:Bool):Bool:=match h with
 | true=>b
 | false=>!b
section
variable {P:Program} {r:Option Nat} {E:Env} {S S':AState} {K:Exit->AState->Prop} {J:AState->Prop} {ops:Array Oper} {rest:List Oper} {o:Oper} {d:Nat}
theorem SatAt.yield {a:Act} {w:World} {I:Im} {ρ:Nat->Value} {C:Nat->Prop} (D:SatAt E S a w I ρ C) {j t:Nat} {b:Bool} (H:(ops[j]?).bind (·.dst)=some t) (T:S.get t= .d (.v (.bool b))) (O:t<E.n):
    yielded ops a.tmps j=some b:=by
  have h:=D.tmps t;rw[T] at h;have k:t<a.tmps.size:=by rw[D.size];exact O
  have e:a.tmps.getD t undef=a.tmps[t]:=by simp[dI,k]
  rw[e] at h;generalize Y:a.tmps[t]=v at h;cases h;simp[yielded,H,k,Y]
theorem SatAt.yield2 {a:Act} {w:World} {I:Im} {ρ:Nat->Value} {C:Nat->Prop} (H:SatAt E S a w I ρ C) {j t:Nat} {b c:Bool} (D:(ops[j]?).bind (·.dst)=some t) (Y:S.get t= .cond c (.d (.v (.bool b)))) (T:t<E.n):
    yielded ops a.tmps j=if c then some b else none:=by
  have h:=H.tmps t;rw[Y] at h;have k:t<a.tmps.size:=by rw[H.size];exact T
  have e:a.tmps.getD t undef=a.tmps[t]:=by simp[dI,k]
  rw[e] at h;generalize O:a.tmps[t]=v at h;cases c with
  | true=>
    have h:=h.1 rfl;cases h;simp[yielded,D,k,O]
  | false=>
    have h:=h.2 rfl;subst h;simp[yielded,D,k,O,undef]
theorem z2S {c:Code} {D:Exit->AState->Prop} (h:Avc P r E c K S) (O:∀e S,K e S->D e S):Avc P r E c D S:=λa w T=>
 gV (h a w T) λe _ _ ⟨S',H,k⟩=>⟨S',O e S' H,k⟩
theorem zO {c:Code} (D:zGS E S S') (h:Avc P r E c K S'):Avc P r E c K S:=λa w k=>h a w (D a w k)
theorem yJS {x y:Code} (h:∀J:AState->Prop,(∀S,Avc P r E y K S->J S)->Avc P r E x (yM4 J K) S):Avc P r E (.seq x y) K S:=λa w O=>
 wpIn_seq (gV (h _ (λ_ h=>h) a w O) λe H w' ⟨S',D,k⟩=>by
  cases e with
  | normal=>exact D H w' k
  | _=>exact⟨S',D,k⟩)
theorem yES {c:Operand} {x y:Code} {b:Bool} (k:S.ev c= .d (.v (.bool b))) (O:b=true->Avc P r E x K S) (D:b=false->Avc P r E y K S):Avc P r E (.cond c x y) K S:=λa w H=>by obtain⟨I,ρ,C,h⟩:=H;exact wpIn_cond_split (h.val k) (λhb=>O hb a w ⟨I,ρ,C,h⟩) (λhb=>D hb a w ⟨I,ρ,C,h⟩)
theorem yY {id:Nat} {c:Code} (h:Avc P r E c (yER id K) S):Avc P r E (.block id c) K S:=λa w H=>
 wpIn_block (gV (h a w H) λe O w' ⟨S',D,k⟩=>by
  cases e with
  | exit i=>
   simp only[yER,hP] at D;simp only[Exit.inBlock];by_cases e:i=id;simp only[e,dH] at D ⊢;exact⟨S',D,k⟩;simp only[e,cY] at D ⊢;exact⟨S',D,k⟩
  | _=>exact⟨S',D,k⟩)
theorem zG {id:Nat} (h:K (.exit id) S):Avc P r E (.exit id) K S:=λ_ _ k=>wpIn_exit ⟨S,h,k⟩
theorem yE (h:K .ret S):Avc P r E .ret K S:=λ_ _ k=>wpIn_ret ⟨S,h,k⟩
theorem zP (h:K .normal S):Avc P r E .skip K S:=λ_ _ k=>wpIn_skip ⟨S,h,k⟩
theorem yET {c:Code} {ι:Type} (T: ι->AState) (k: ι->Prop) (H: ι->Nat) (i0: ι) (h0:k i0) (hS:zGS E S (T i0))
  (round:∀i,k i->Avc P r E c (yM4 (λS'=> ∃j,k j/\H j<H i/\zGS E S' (T j)) K) (T i)):Avc P r E (.loop c) K S:=by
 intro a w O;have key:∀n i a w,k i->H i<n->Sat E (T i) a w->Code.roundsIn (fen r) 0 P c (yN2 E K) n a w:=by
  intro n
  induction n with
  | zero=>intro i a w _ h;omega
  | succ n ih=>
   intro i a w hp hn O;rw[roundsIn_succ];exact gV (round i hp a w O) λe Y w' ⟨S',Z,D⟩=>by
    cases e with
    | normal=>obtain⟨j,hj,ad,hw⟩:=Z;exact ih j Y w' hj (by omega) (hw Y w' D)
    | _=>exact⟨S',Z,D⟩
 exact wpIn_loop_rounds _ (key (H i0+1) i0 a w h0 (by omega) (hS a w O))
theorem yJT (ht:∀p∈S'.tmps,S.get p.1=p.2\/p.2= .top) (hb:∀p∈S'.blks,S.blk p.1=p.2) (T:∀C w,E.fr S.ghost C w->E.fr S'.ghost C w):zGS E S S':=by
 have D:∀t,S'.get t= .top\/S.get t=S'.get t:=by
  intro t;unfold AState.get;generalize Y:S'.tmps=l at ht;clear Y
  induction l with
  | nil=>exact .inl rfl
  | cons p l ih=>
   obtain⟨i,x⟩:=p;rw[kL];by_cases e:i=t;simp only[e,dH];have:=ht (i,x) (by simp);simp only[e] at this;exact this.symm;simp only[e,cY];exact ih λq Z=>ht q (by simp[Z])
 have k:∀t,S'.blk t= .none\/S.blk t=S'.blk t:=by
  intro t;unfold AState.blk;generalize Y:S'.blks=l at hb;clear Y
  induction l with
  | nil=>exact .inl rfl
  | cons p l ih=>
   obtain⟨i,x⟩:=p;rw[kL];by_cases e:i=t;simp only[e,dH];have:=hb (i,x) (by simp);simp only[e] at this;exact .inr this;simp only[e,cY];exact ih λq Z=>hb q (by simp[Z])
 rintro a w ⟨I,ρ,C,h⟩
 refine⟨I,ρ,C,⟨λt=>?_,λi=>?_,λi i' b hn hi H=>?_,T _ _ h.frame,h.sub,h.old,h.size,h.defers,h.cI,λi b hi O=>?_,λi v hv hi=>h.nm i v hv ?_⟩⟩;rcases D t with e | e
 rw[e];trivial;rw[<-e];exact h.tmps t;rcases k i with e | e
 rw[e];trivial;rw[<-e];exact h.blks i;refine h.dist i i' b hn ?_ ?_;rcases k i with e | e
 exact absurd e hi;rw[e];exact hi;rcases k i' with e | e
 exact absurd e H;rw[e];exact H;refine h.cB i b ?_ O;rcases k i with e | e
 exact absurd e hi;rw[e];exact hi;rcases k i with e | e
 exact absurd e hi;rw[e];exact hi
theorem xJ {t:Nat} (id e size:Nat) (O:0<size) (H:t<E.n) (D:E.nm id=none) (T:S.get t= .d (.v (.slice none 0 0))):zGS E S (((S.kill id).setBlk id (.row e size false [])).put t (.row id)):=by
 rintro a w ⟨I,ρ,C,h⟩
 have k:=h.update (im w none) (id:=id) (u:= .slice none 0 0) (x:= .row e size false []) (by simp) (k6 I w) (by simp[blockOf])
  ⟨⟨O,by simp[upd,Value.ownBlock]⟩,0,[],by simp,by simp only[upd,dH];exact hO w _ e size,by simp,Pw.nil,by simp[upd,Value.ownBlock]⟩ (.inl rfl) D
 refine⟨I,_,C,⟨λu=>?_,k.blks,k.dist,by have:=k.frame;rw[zDR _ _ H];exact this,k.sub,k.old,k.size,k.defers,k.cI,k.cB,k.nm⟩⟩
 rw[zB1];by_cases e:t=u;subst e;simp only[dH];have:=h.tmps t;rw[T] at this;generalize a.tmps.getD t undef=v at this ⊢;cases this;simp[Holds,upd];simp only[e,cY];exact k.tmps u
def zNP:List DV->Nat->List (Nat×AV)
 | [],_=>[]
 | x::r,k=>(k,.d x)::zNP r (k+1)
theorem zYR (ds:List DV):∀(k t:Nat),(k<=t/\∃x,ds[t-k]? =some x/\look AV.top (zNP ds k) t= .d x)\/look AV.top (zNP ds k) t= .top:=by
 induction ds with
 | nil=>intro k t;exact .inr rfl
 | cons x ds O=>
  intro k t;simp only[zNP,kL];by_cases e:k=t;subst e;simp;simp only[e,cY];rcases O (k+1) t with ⟨T,y,H,D⟩ | h
  refine .inl ⟨by omega,y,?_,D⟩;have:t-k=(t-(k+1))+1:=by omega
  rw[this];simpa using H;exact .inr h
def yQU (P:Program) (S:AState) (t:TypeId) (cells:List AV) (y:DV):Prop:=
 (OneTy P t/\∃av,cells= [av]/\S.dv av=some y)\/(∃ds,AggTy P t cells.length/\S.dvL cells=some ds/\y= .agg ds)
def RetS (P:Program) (S:AState):List ResultVar->List DV->Prop
 | [],ys=>ys= []
 | .tmp t::h,ys=> ∃y zs,ys=y::zs/\S.dv (S.get t).un=some y/\RetS P S h zs
 | .cell a t::h,ys=> ∃y zs id e cells,ys=y::zs/\(S.get a).un= .ptr id 0/\S.blk id= .box e cells/\yQU P S t cells y/\RetS P S h zs
def ySY (P:Program) (h:Func) (k:List DV):Exit->AState->Prop
 | .ret,S | .normal,S=>RetS P S h.results.toList k
 | _,_=>False
theorem zYS (S:AState) (x:AV) (t:Nat):(S.shareAV x).get t=S.get t:=by unfold AState.shareAV;split;split<;>rfl;rfl
theorem yBL {S:AState} {x:AV} {id e:Nat} {cells:List AV} (h:S.blk id= .box e cells):(S.shareAV x).blk id= .box e cells:=by unfold AState.shareAV;split;rename_i i;split;rename_i D size H cs hb;rw[yQ];by_cases k:i=id;subst k;rw[h] at hb;cases hb;simp[k,h];exact h;exact h
theorem RetS.share {S:AState} (x:AV):∀{l:List ResultVar} {ys:List DV},RetS P S l ys->RetS P (S.shareAV x) l ys
 | [],_,h=>h
 | .tmp t::rs,_,⟨y,zs,e,k,D⟩=>⟨y,zs,e,by rw[zVR,zYS];exact k,RetS.share x D⟩
 | .cell a t::rs,_,⟨y,zs,id,e,cells,O,k,D,T,Y⟩=>⟨y,zs,id,e,cells,O,by rw[zYS];exact k,yBL D,by
   rcases T with ⟨ho,av,hc,H⟩ | ⟨ds,Z,H,hy⟩
   ·exact .inl ⟨ho,av,hc,by rw[zVR];exact H⟩
   ·exact .inr ⟨ds,Z,by rw[zYO];exact H,hy⟩,RetS.share x Y⟩
theorem RetS.shareL (xs:List AV):∀{S:AState} {l:List ResultVar} {ys:List DV},RetS P S l ys->RetS P (S.shareL xs) l ys:=by
 induction xs with
 | nil=>exact λh=>h
 | cons x xs k=>exact λh=>k (h.share x)
def zVS (tmps:Array Value):ResultVar->Sem Value
 | .tmp t=>pure (tmps.getD t undef)
 | .cell a t=>do loadVar t (<-asAddr (tmps.getD a undef))
theorem RetS.holds {a:Act} {w:World} {ρ:Nat->Value} {C:Nat->Prop}:∀(l:List ResultVar) (rs:List DV) {S:AState} {I:Im} (_:SatAt E S a w I ρ C) (_:RetS P S l rs),
  ∃I':Im,(∀b j,I b j->I' b j)/\∃S2,SatAt E S2 a w I' ρ C/\∃xs:List Value,(l.mapM (zVS a.tmps)).run P w= .ok xs w/\Reps w I' xs rs:=by
 intro l
 induction l with
 | nil=>
  intro rs S I h hr;cases hr;exact⟨I,λ_ _ h=>h,S,h,[],by simp,Pw.nil⟩
 | cons x l ih=>
  intro rs S I h hr;cases x with
  | tmp t=>
   obtain⟨y,ys,rfl,h1,h2⟩:=hr;obtain⟨I1,ab,T,H⟩:=h.dv (h.tmps t).un h1;obtain⟨I2,O,S2,D,xs,ac,k⟩:=ih ys T (h2.share _);exact⟨I2,λb j hi=>O b j (ab b j hi),S2,D,_::xs,by simp[hZ,zVS,ac],Pw.cons (H.mono (k6 I1 w) O) k⟩
  | cell ad t=>
   obtain⟨y,ys,id,e,cells,rfl,h1,h2,h3,h4⟩:=hr;have hp:=(h.tmps ad).un;rw[h1] at hp;obtain⟨b,an,hv⟩:=hp;have aj:=h.blks id;rw[h2] at aj;obtain⟨b',arr,ao,hB,hh,ax,aa,hI⟩:=aj;have az:b'=b:=by rw[ao] at an;simpa[blockOf] using an
   subst az;have Y:∀(j:Nat) v,arr.toList[j]? =some v->w.cell? ⟨b',0+j,none⟩=some v:=λj v hj=>by
    rw[em,e9 w b' j arr e (0,0) hh];simpa using hj
   rcases h3 with ⟨ho,av,hc,hd⟩ | ⟨ds,ha,hd,rfl⟩
   ·subst hc
    have al:=aa.1
    match ai:arr.toList,al with
    | [v0],_=>
     rw[ai] at aa Y;obtain⟨I1,ab,T,H⟩:=h.dv (aa.2 0 v0 av rfl rfl) hd;obtain⟨I2,O,S2,D,xs,ac,k⟩:=ih ys T (h4.share _);refine⟨I2,λb j hi=>O b j (ab b j hi),S2,D,v0::xs,?_,Pw.cons (H.mono (k6 I1 w) O) k⟩;have ak:=Y 0 v0 rfl;simp only[fE] at ak;simp[hZ,zVS,hv,asAddr,loadVar,ho.agg,run_load,ak,ac]
   ·obtain⟨I1,ab,T,H⟩:=SatAt.dvL cells h aa hd
    obtain⟨I2,O,S2,D,xs,ac,k⟩:=ih ys T (h4.shareL _);have am:=H.mono (k6 I1 w) O;refine⟨I2,λb j hi=>O b j (ab b j hi),S2,D,.agg arr.toList.toArray::xs,?_,Pw.cons (.agg _ _ am.1 ax am.2) k⟩;have Z:=zEC (P:=P) w ha b' 0 arr.toList aa.1 Y;simp only[Instr.loadAt,Instr.sureAddr,cQ,dT,cV] at Z;simp only[hZ,zVS,hv,asAddr,cQ,dT,cV,Z,ac]
theorem zNQ {k:Func} {tmps:Array Value} {w:World} {xs:List Value} (h:(k.results.toList.mapM (zVS tmps)).run P w= .ok xs w):
  (results k tmps).run P w= .ok (if h:xs.toArray.size=1 then xs.toArray[0] else .tuple xs.toArray) w:=by
 have e:results k tmps=(do let vs <-k.results.mapM (zVS tmps);pure (if h:vs.size=1 then vs[0] else .tuple vs)):=by
  unfold results;congr 1
 rw[e,Array.mapM_eq_mapM_toList];simp only[cQ,dT,h,cV,Sem.run_map]
def Env.norm (gdt:Nat->Option (List Value)) (w0:World) (I0:Im) (T:∀b j,I0 b j->b<w0.heap.size) (hG:GlI gdt w0 I0) (n:Nat) (Y:n<=1000000):Env where
 B:=w0.heap.size
 I0:=I0
 n:=n
 fr:=λ_ C w=>Below w0.heap.size w0 w/\∀b,¬C b
 wrB:=true
 nle:=Y
 mine:=λb=>w0.heap.size<=b
 mineB:=λ_ h=>h
 nm:=λ_=>none
 size:=λ_ _ _ h=>h.1.size
 csize:=λ_ _ _ h b hb=>absurd hb (h.2 b)
 grow:=λ_ _ _ _ h hb=>⟨h.1.trans (hb.mono h.1.size),h.2⟩
 wr:=λ_ _ _ _ _ _ h D Z _=>⟨h.1.trans ⟨D.os,D.tape,D.output,D.size,λk O=>D.block k (eT O h.1.size) (λe=>by have:=(Z k e).1;omega)⟩,h.2⟩
 turn:=λ_ _ _ w w' l h hl H _=>⟨h.1.trans ⟨H.os,H.tape,H.output,by rw[H.size];exact dC _,λk O=>H.blk k (by omega)⟩,h.2⟩
 gdt:=gdt
 gl:=λ_ _ w h g zs D j=>⟨(World.cell?_of_block (a:=⟨g,j,none⟩) (h.1.block g (T g j (hG g zs D j).2))).trans (hG g zs D j).1,(hG g zs D j).2⟩
theorem zQZ {w:World} {D:Nat} (h:w.heap[D]? =some (.deferred (some []))):(Instr.takeDeferred D).run P w= .ok [] {w with heap:=w.heap.setIfInBounds D (.deferred none)}:=by simp[Instr.takeDeferred,getObj,setObj,Sem.run,h]
structure Taken (w w':World):Prop where
 blk:∀k:Nat,w'.heap[k]? =w.heap[k]?\/(w.heap[k]? =some (Obj.deferred (some []))/\w'.heap[k]? =some (Obj.deferred none))
 size:w'.heap.size=w.heap.size
theorem Taken.same {I:Im} {w w':World} (h:Taken w w'):Same I w w':=by
 intro b j _;rcases h.blk b with e | ⟨e,k⟩
 exact KeepB.of e;exact⟨by simp[World.cell?,e,k],λ_ _ q=>by rw[e] at q;cases q⟩
theorem zQ0 {fn:Func} {tmps:Array Value} {R:Ending->World->Prop} {B:Nat} {ah:Bool} {C:Nat->Prop}:∀(ds:List Deferred) (w:World),DefOk B ah C w ds->
  (∀w',Below B w w'->Taken w w'->∃v,(results fn tmps).run P w'= .ok v w'/\R (.returned v) w')->
  LeavesInM (fen none) 0 P fn tmps R ds .returning w:=by
 intro ds
 induction ds with
 | nil=>intro w _ h;exact h w (Below.refl _ _) ⟨λ_=> .inl rfl,rfl⟩
 | cons d ds ih=>
  intro w T h;obtain⟨r,h1,h2,ao,h3⟩:=T.each d (by simp);refine⟨by simp,.inl ⟨r,_,h1,zQZ h3,ih _ ?_ ?_⟩⟩
  ·refine⟨λe he=>?_,(eZ.1 T.dist).2,λ_=>T.wr (by simp)⟩
   obtain⟨r',H,Z,O,ab⟩:=T.each e (by simp[he]);have D:r≠r':=λag=>(eZ.1 T.dist).1 e he r h1 (ag▸H);exact⟨r',H,Z,O,by simp only[dX D];exact ab⟩
  ·intro w' hb hk
   refine h w' ?_ ⟨λk=>?_,?_⟩
   ·refine⟨hb.os,hb.tape,hb.output,by have:=hb.size;simpa using this,λk ad=>?_⟩
    rw[hb.block k ad];exact dX (by omega)
   ·have Y:=(cU.1 h3).1
    by_cases D:r=k
    ·subst D
     refine .inr ⟨h3,?_⟩;rcases hk.blk r with e | ⟨e,_⟩
     ·rw[e];simp[Y]
     ·simp[Y] at e
    ·have e1:(w.heap.setIfInBounds r (Obj.deferred none))[k]? =w.heap[k]?:=dX D
     rcases hk.blk k with e | ⟨e,e'⟩
     ·exact .inl (e.trans e1)
     ·exact .inr ⟨e1.symm.trans e,e'⟩
   ·rw[hk.size];simp
theorem SatAt.taken {S:AState} {a:Act} {w w':World} {I:Im} {ρ:Nat->Value} {C:Nat->Prop} (h:SatAt E S a w I ρ C) (k:Taken w w') (D:E.fr S.ghost C w'):SatAt E S {a with defers:=[]} w' I ρ C:=by
 refine⟨λt=>(h.tmps t).mono k.same (λ_ _ h=>h),λi=>?_,h.dist,D,h.sub,λb j hi=>⟨by rw[k.size];exact(h.old b j hi).1,(h.old b j hi).2⟩,h.size,DefOk.nil,h.cI,h.cB,h.nm⟩
 cases H:S.blk i with
 | none=>trivial
 | _=>
  rw[<-H];refine(h.blks i).mono k.same (λb hb=>?_);obtain⟨o,O,T⟩:=h.cellBlk (by rw[H];simp) hb
  rcases k.blk b with e | ⟨e,_⟩;exact e;rw[O] at e;cases e;cases T
theorem RetS.run {S:AState} {a:Act} {w:World} {I:Im} {ρ:Nat->Value} {C:Nat->Prop} {fn:Func} {Z:List DV} (hs:SatAt E S a w I ρ C) (D:RetS P S fn.results.toList Z):
  ∃v O,(results fn a.tmps).run P w= .ok v w/\(∀b j,I b j->O b j)/\(∀b j,O b j->b<w.heap.size/\(E.I0 b j\/E.mine b))/\z2R w O v Z:=by
 obtain⟨I2,H,S2,T,xs,Y,h⟩:=RetS.holds _ _ hs D;refine⟨_,I2,zNQ Y,H,T.old,?_⟩;have hl:=h.1
 match xs,Z,hl,h with
 | [],[],_,k=>exact⟨_,rfl,k⟩
 | [x],[y],_,k=>exact k.2 0 _ y rfl rfl
 | x::u::xs,y::z::ys,_,k=>exact⟨x::u::xs,by simp,k⟩
theorem z2T {f:FuncId} {k:Func} {c:Code} {ds rs:List DV} (hf:P.funcs[f]? =some k) (D:(k.name== "runtime.NumGoroutine")=false) (hb:k.body=some c) (hn:ds.length<=k.ntmps) (aa:k.ntmps<=1000000)
  (h:∀w0 I0 T hG,Avc P none (Env.norm (uB P) w0 I0 T hG k.ntmps aa) c (ySY P k rs) ⟨zNP ds 0,[]⟩):zE P f ds rs:=by
 refine⟨⟨k,hf,D,by simp[hb]⟩,λw I vs T hG ad=>?_⟩;refine gG (n:=0) |>.1 (callsIn_of_wp_marks hf hb trivial ?_)
 have Z:vs.length=ds.length:=ad.1;have ac:Sat (Env.norm (uB P) w I T hG k.ntmps aa) ⟨zNP ds 0,[]⟩ {tmps:=vs.toArray++Array.replicate (k.ntmps-vs.toArray.size) undef,defers:=[]} w:=by
  refine⟨I,λ_=>undef,λ_=>False,⟨λt=>?_,λ_=>trivial,λ_ _ _ _ h=>absurd rfl h,⟨Below.refl _ _,λ_ h=>h⟩,λ_ _ h=>h,λb j h=>⟨T b j h,.inl h⟩,by simp[Env.norm];omega,DefOk.nil,λ_ _ _ h=>h,λ_ _ h=>absurd rfl h,λ_ _ h=>by cases h⟩⟩
  rcases zYR ds 0 t with ⟨_,x,hx,hl⟩ | hl
  ·show Holds _ _ _ _ (look AV.top (zNP ds 0) t)
   rw[hl];simp only[Nat.sub_zero] at hx;have ht:t<vs.length:=by rw[Z];exact(c8.1 hx).1
   refine ad.2 t _ x ?_ hx;simp[dI,Array.getElem?_append,ht]
  ·show Holds _ _ _ _ (look AV.top (zNP ds 0) t)
   rw[hl];trivial
 refine gV (h w I T hG _ w ac) ?_
 rintro e a w' ⟨S,hK,I1,ρ,C,H⟩
 have O:RetS P S k.results.toList rs->LeavesInM (fen none) 0 P k a.tmps (λe w'=> ∃v I',e= .returned v/\Below w.heap.size w w'/\(∀b j,I b j->I' b j)/\(∀b j,I' b j->b<w'.heap.size/\(I b j\/w.heap.size<=b))/\z2R w' I' v rs) a.defers .returning w':=by
  intro ab;refine zQ0 (B:=w.heap.size) a.defers w' H.defers λw2 Y aj=>?_;have ak:=H.taken aj ⟨H.frame.1.trans Y,H.frame.2⟩;obtain⟨v,I2,h1,h2,h3,h4⟩:=RetS.run ak ab;exact⟨v,h1,v,I2,rfl,H.frame.1.trans Y,λb j hi=>h2 b j (H.sub b j hi),h3,h4⟩
 cases e with
 | normal=>exact O hK
 | ret=>exact O hK
 | _=>exact hK.elim
end
open Go.RowKit
theorem zTM {w:World} {H e:Nat} {k:Array Value} (K:w.heap[H]? =some (.cells k e (0,0))) (D:Array Value) {j:Nat} (h:D[j]? =k[j]?):
  (w.setRow H D).cell? ⟨H,j,none⟩=w.cell? ⟨H,j,none⟩:=by
 rw[e9 _ H j D e (0,0) (iu w H k D e _ K),e9 w H j k e (0,0) K,h]
section
variable {P:Program} (w:World)
theorem z6N {B t ty e size bytes:Nat} {z:Value} (hT:SlTy P t e size bytes z) {v:Value} {n:Nat} {xs:List Value} (h:w.ownsRow B e size v n xs)
  {A:Option Addr} {m c:Nat} {news:List Value} (hl:news.length=m*size) (ai:0<m->∃b off,A=some ⟨b,off,none⟩/\∀(j:Nat) u,news[j]? =some u->w.cell? ⟨b,off+j,none⟩=some u)
  (h1:∀u∈news,u.oneCell'=true) (ak:n+m<=maxLen) (O:(n+m)*bytes<=140737488355328) (hB:B<=w.heap.size):
  ∃v' w',(Builtin.append_ #[t,t] ty #[v,.slice A m c]).run P w= .ok v' w'/\w'.ownsRow B e size v' (n+m) (xs++news)/\
   ((w.grownBy w' v.ownBlock/\v'.ownBlock=v.ownBlock/\∀gb,v.ownBlock=some gb->∀j,j<n*size->w'.cell? ⟨gb,j,none⟩=w.cell? ⟨gb,j,none⟩)\/(w.grownBy w' none/\v'.ownBlock=some w.heap.size)):=by
 obtain⟨i,hi,hz,rfl,rfl⟩:=hT.info;have ht:=hT.und;have bb:=hT.zs;have aq:n+m<=9223372036854775807:=by simp only[maxLen] at ak;omega
 have T:(xs++news).length=(n+m)*i.size:=by rw[cX,h.1,hl,eG]
 by_cases hm:m=0
 ·subst hm
  have hn:news= []:=cP (by simpa using hl);subst hn;refine⟨v,w,?_,by simpa using h,.inl ⟨im w _,rfl,λ_ _ _ _=>rfl⟩⟩;rcases h.2 with ⟨rfl,rfl⟩ | ⟨gb,Y,ab,rfl,_,_,an,_⟩
  ·cases A<;>simp[Builtin.append_,dJ ht,sizeOf,typeInfo,hi,Builtin.lenOf,Builtin.firstCells,loadCells,loadCellsFrom]
  ·cases A<;>simp[Builtin.append_,dJ ht,sizeOf,typeInfo,hi,Builtin.lenOf,Builtin.firstCells,an,storeCells,loadCells,loadCellsFrom]
 ·obtain⟨b,off,rfl,ad⟩:=ai (by omega)
  have D:∀(j:Nat) u,news[j]? =some u->w.cell? ((⟨b,off,none⟩:Addr).add j)=some u:=λj u hu=>by rw[zAC];exact ad j u hu
  have ac:∀(K:Nat),
    (w.drew.alloc (.cells (xs.toArray++news.toArray++Builtin.zeroCells z.cells (grownCap w (n+m) K e-(n+m))) e)).ownsRow B e i.size
     (.slice (some ⟨w.heap.size,0,none⟩) (n+m) (grownCap w (n+m) K e)) (n+m) (xs++news)/\
    w.grownBy (w.drew.alloc (.cells (xs.toArray++news.toArray++Builtin.zeroCells z.cells (grownCap w (n+m) K e-(n+m))) e)) none:=by
   intro K;have az:=grownCap_ge w (n+m) K e;have ag:grownCap w (n+m) K e<=maxLen:=grownCap_le_maxLen w (n+m) K e ak;refine⟨⟨T,.inr ⟨w.heap.size,_,_,rfl,hB,gP w.drew _,az,ag,?_,?_⟩⟩,⟨rfl,rfl,rfl,by simp,λk hk _=>_root_.Go.heap_alloc_old w.drew _ hk⟩⟩
   ·simp only[Array.size_append,fY,size_zeroCells,bb,h.1,hl,<-eG]
    congr 1;omega
   ·simp only[Array.toList_append,c9]
    rw[<-c9,<-T];exact gQ
  rcases h.2 with ⟨rfl,rfl⟩ | ⟨gb,Y,ab,rfl,aw,hg,an,ag,ax,aj⟩
  ·have hx:xs= []:=cP (by simpa using h.1)
   subst hx;have hr:=run_append_nil (P:=P) w t ty e i z ht hi hz ⟨b,off,none⟩ m c news hl D (by omega) (by omega) (by have hb:=O;simp only[em] at hb;omega)
   have Z:=ac 0;simp only[em,dO,Array.empty_append] at Z ⊢;exact⟨_,_,hr,Z.1,.inr ⟨Z.2,rfl⟩⟩
  ·by_cases H:n+m<=Y
   ·have al:n*i.size+news.length<=ab.size:=by rw[hl,ax,<-eG];exact dU _ H
    have hr:=run_append_room (P:=P) w t ty e i ht hi gb n Y ab hg ⟨b,off,none⟩ m c news hl D h1 H al;refine⟨_,_,hr,⟨T,.inr ⟨gb,Y,_,rfl,aw,iu w gb ab _ e _ hg,H,ag,?_,?_⟩⟩,.inl ⟨⟨rfl,rfl,rfl,by simp,λk _ hk=>setRow_other w gb k _ (λe=>hk (by simp[Value.ownBlock,e]))⟩,rfl,?_⟩⟩
    ·simp only[fY,cX,dZ,eH,eN]
     omega
    ·rw[aj,<-T]
     exact gQ
    ·intro g' am j hj
     simp[Value.ownBlock] at am;subst am;refine zTM hg _ ?_;have:j<ab.size:=by omega
     simp only[eX,c9];rw[dY (by simp;omega),d6,dG hj]
     simp
   ·have holds:∀j u,xs[j]? =some u->w.cell? ((⟨gb,0,none⟩:Addr).add j)=some u:=h.cells (g:=gb) rfl
    have hr:=run_append_grow (P:=P) w t ty e i z ht hi hz ⟨gb,0,none⟩ n Y xs h.1 holds ⟨b,off,none⟩ m c news hl D (by omega) (by omega) (growslice_fits (by omega) O);have Z:=ac Y;exact⟨_,_,hr,Z.1,.inr ⟨Z.2,rfl⟩⟩
end
section
variable {P:Program} {r:Option Nat} {E:Env} {S:AState} {d:Nat} {ty:TypeId} {pos:String} {af:Array Edge} {g:Option (Nat×Bool)}
theorem zPO {x:AV} {id e size:Nat} {k:Bool} {cells:List DV} (hb:S.blk id= .row e size k cells):∃D,(S.shareAV x).blk id= .row e size D cells:=by unfold AState.shareAV;split;rename_i i;split;rename_i T H O cs h;rw[yQ];by_cases K:i=id;subst K;rw[hb] at h;cases h;exact⟨true,by simp⟩;exact⟨k,by simp[K,hb]⟩;exact⟨k,hb⟩;exact⟨k,hb⟩
def Blk.appended (b:Blk) (cells:List DV):Blk:=match b with
 | .row e size h cs=> .row e size h (cs++cells)
 | b=>b
theorem zYT {t e size bytes:Nat} {z:Value} {s x:Operand} {id:Nat} {sh:Bool} {cells news:List DV} {n m:Nat} (hn:d<E.n) (hT:SlTy P t e size bytes z) (hb:S.blk id= .row e size sh cells)
  (hx:S.dv (S.ev x)=some (.sl size news)) (hl:cells.length=n*size) (bj:news.length=m*size) (aa:(n+m)*bytes<=140737488355328) (bh:n+m<=maxLen) (hE:E.wrB=true) (ax:E.nm id=none):
  ∀{A:Act} {w:World} {I:Im} {ρ:Nat->Value} {C:Nat->Prop},SatAt E S A w I ρ C->A.eval s= ρ id->∃v w',(execOp A.eval ⟨some d,.call {callee:= .builtin .append,args:= #[s,x],argTypes:= #[t,t]},ty,pos,af,g⟩).run P w= .ok (.value v) w'/\
   Sat E ((((S.shareAV (S.ev x)).kill id).setBlk id (((S.shareAV (S.ev x)).blk id).appended news)).put d (.row id)) (A.put (some d) v) w':=by
  intro A w I ρ C ag bl;obtain⟨I1,ca,D,az⟩:=ag.dv (ag.ev x) hx;obtain⟨ba,ai⟩:=zPO (x:=S.ev x) hb;have hk:=D.blks id;rw[ai] at hk;obtain⟨hp,n',xs,aq,ad,h1,bk,an⟩:=hk;obtain rfl:=zIO aq hl hp.1;obtain⟨Ax,m',c,ys,hv,_,aj,ay,am,bi⟩:=Rep.sl_inv az;obtain rfl:=zIO aj bj hp.1;obtain⟨v',w',hr,Z,K⟩:=z6N (ty:=ty) w hT ad (A:=Ax) (m:=m') (c:=c) (news:=ys) (by rw[ay.1,aj]) (λh0=>by
   obtain⟨b,off,hA,hc⟩:=bi h0;exact⟨b,off,hA,λj u hu=>(hc j u hu).1⟩) am bh aa (gD _)
  refine⟨v',w',?_,?_⟩
  ·simp only[execOp,resolve,invoke,builtin,cQ,dT,cV,eO,eA,fD,bl,hv,hr]
  ·have O:Same I1 w w':=by
    intro b j hi;have ar:=(D.old b j hi).1;rcases K with ⟨Y,_,ab⟩ | ⟨Y,_⟩
    ·by_cases e':(ρ id).ownBlock=some b
     ·obtain⟨bm,bt,bu,ap⟩:=zXL ad e'
      exact KeepB.ofCell ap (ab b e' j (by have:=(an b j e' hi).2;omega))
     ·exact KeepB.of (Y.block b ar (λe2=>e' e2.symm))
    ·exact KeepB.of (Y.block b ar (by simp))
   have ac:∀b,blockOf v'=some b->v'.ownBlock=some b:=by
    intro b T;rcases Z.2 with ⟨ak,_⟩ | ⟨gb,bp,bq,ak,_⟩
    ·rw[ak] at T;cases T
    ·rw[ak] at T ⊢;exact T
   have aw:(S.shareAV (S.ev x)).blk id≠ .none:=by rw[ai];simp
   have ao:((S.shareAV (S.ev x)).blk id).appended news= .row e size ba (cells++news):=by rw[ai];rfl
   rw[ao];have au:BlkOk w' I1 (upd ρ id v') E.mine id (.row e size ba (cells++news)):=by
    have eu:upd ρ id v' id=v':=by simp[upd]
    refine⟨⟨hp.1,λgb Y=>?_⟩,n'+m',xs++ys,by rw[cX,aq,aj,eG],by rw[eu];exact Z,?_,Pw.append (bk.mono O (λ_ _ h=>h)) (ay.mono O (λ_ _ h=>h)),?_⟩
    ·rw[eu] at Y
     rcases K with ⟨_,H,_⟩ | ⟨_,H⟩
     ·exact hp.2 gb (by rw[<-H];exact Y)
     ·rw[H] at Y;cases Y;exact E.mineB _ (E.size _ _ _ D.frame)
    ·intro u hu
     rcases eK.1 hu with hu | hu
     ·exact h1 u hu
     ·exact am u hu
    ·rw[eu]
     intro gb j Y hi;rcases K with ⟨_,H,_⟩ | ⟨_,H⟩
     ·rw[H] at Y
      have:=an gb j Y hi;exact⟨this.1,by rw[cX];omega⟩
     ·rw[H] at Y
      cases Y;have:=(D.old _ j hi).1;omega
   rcases K with ⟨Y,H,_⟩ | ⟨Y,H⟩
   ·have h2:=D.update Y (id:=id) (u:=v') (λk hk=>⟨aw,zB2 hk⟩) O (λb T=> .inr ⟨aw,zB2 (by rw[<-H];exact ac b T)⟩) au (.inr hE) ax
    exact⟨I1,_,C,h2.put hn (by simp[Holds,upd])⟩
   ·have h2:=D.update Y (id:=id) (u:=v') (λk hk=>by cases hk) O (λb T=> .inl (by have:=ac b T;rw[H] at this;cases this;exact dC _)) au (.inl rfl) ax
    exact⟨I1,_,C,h2.put hn (by simp[Holds,upd])⟩
theorem z2U {t e size bytes:Nat} {z:Value} {s x:Operand} {id:Nat} {sh:Bool} {cells news:List DV} {n m:Nat} (Z:d<E.n) (T:SlTy P t e size bytes z) (hs:S.ev s= .row id) (hb:S.blk id= .row e size sh cells)
  (hx:S.dv (S.ev x)=some (.sl size news)) (Y:cells.length=n*size) (H:news.length=m*size) (h:(n+m)*bytes<=140737488355328) (D:n+m<=maxLen) (O:E.wrB=true) (K:E.nm id=none):
  jQ P r E ⟨some d,.call {callee:= .builtin .append,args:= #[s,x],argTypes:= #[t,t]},ty,pos,af,g⟩ S
   ((((S.shareAV (S.ev x)).kill id).setBlk id (((S.shareAV (S.ev x)).blk id).appended news)).put d (.row id)):=
 zAQ (by simp) λA w I ρ C k=>zYT Z T hb hx Y H h D O K k (by have:=k.ev s;rw[hs] at this;exact this)
def vN:DV->List DV
 | .agg es=>es
 | x=>[x]
def okDV (size:Nat):DV->Bool
 | .agg es=>es.length==size
 | .v u=>u.oneCell'&&size==1
 | .sl _ _=>size==1
 | .pt _=>size==1
 | .fn _ _=>size==1
 | .bm _ _=>size==1
 | .mp _ _=>size==1
theorem Rep.flat {w:World} {I:Im} {v:Value} {x:DV} {size:Nat} (h:Rep w I v x) (k:okDV size x=true):
  Reps w I v.cells.toList (vN x)/\(∀u∈v.cells.toList,u.oneCell'=true)/\(vN x).length=size:=by
 cases h with
 | v=>
  simp[okDV] at k;rw[zLM k.1];exact⟨Pw.cons (.v v) Pw.nil,by simpa using k.1,by simp[vN,k.2]⟩
 | nil A c s=>
  simp[okDV] at k;exact⟨Pw.cons (.nil A c s) Pw.nil,by simp[Value.cells,Value.oneCell'],by simp[vN,k]⟩
 | sl b off n c s xs cells hn T hl H Y O D=>
  simp[okDV] at k;exact⟨Pw.cons (.sl b off n c s xs cells hn T hl H Y O D) Pw.nil,by simp[Value.cells,Value.oneCell'],by simp[vN,k]⟩
 | pt b off xs cells H Y O D=>
  simp[okDV] at k;exact⟨Pw.cons (.pt b off xs cells H Y O D) Pw.nil,by simp[Value.cells,Value.oneCell'],by simp[vN,k]⟩
 | fn f xs cells H D=>
  simp[okDV] at k;exact⟨Pw.cons (.fn f xs cells H D) Pw.nil,by simp[Value.cells,Value.oneCell'],by simp[vN,k]⟩
 | bm f xs cells H D=>
  simp[okDV] at k;exact⟨Pw.cons (.bm f xs cells H D) Pw.nil,by simp[Value.cells,Value.oneCell'],by simp[vN,k]⟩
 | mp b K ents vs hh hb H D Z=>
  simp[okDV] at k;exact⟨Pw.cons (.mp b K ents vs hh hb H D Z) Pw.nil,by simp[Value.cells,Value.oneCell'],by simp[vN,k]⟩
 | agg xs cells H O D=>
  simp[okDV] at k;exact⟨⟨by simpa[Value.cells,vN] using H,by simpa[Value.cells,vN] using D⟩,by simpa[Value.cells] using O,by simp[vN,k]⟩
theorem yBM (vs:List Value) (off:Nat):∀(k:Nat) (arr:Array Value),off+k+vs.length<=arr.size->
  ((vs.zipIdx k).foldl (λcs (p:Value×Nat)=>cs.setIfInBounds (off+p.2) p.1) arr).toList=arr.toList.take (off+k)++vs++arr.toList.drop (off+k+vs.length):=by
 induction vs with
 | nil=>intro k arr _;simp
 | cons v vs T=>
  intro k arr h;simp only[dR] at h;rw[List.zipIdx_cons,io,T (k+1) _ (by simp;omega)]
  simp only[Array.toList_setIfInBounds,dR];have D:off+k<arr.toList.length:=by simp;omega
  rw[gy,dG D];have H:(arr.toList.take (off+k)).length=off+k:=by simp;omega
  have K:off+(k+1)=(arr.toList.take (off+k)).length+1:=by rw[H];omega
  have O:off+(k+1)+vs.length=(arr.toList.take (off+k)).length+(1+vs.length):=by rw[H];omega
  rw[O,K,List.take_length_add_append,List.drop_length_add_append];rw[Nat.add_comm 1 vs.length,List.drop_succ_cons,List.drop_drop,show off+k+1+vs.length=off+k+(vs.length+1) by omega];simp
theorem z2V {k:Nat->Option (Nat×Nat)} {arr:Array Value} {i off size:Nat} {v:Value} {rest:List (Nat×Value)} (K:k i=some (off,size)) (O:v.cells.size=size) (D:off+size<=arr.size):
  Instr.fill k arr ((i,v)::rest)=Instr.fill k (arr.toList.take off++v.cells.toList++arr.toList.drop (off+size)).toArray rest:=by
 subst O;have h:=yBM v.cells.toList off 0 arr (by simpa using D);simp only[fE] at h;have e:v.cells.zipIdx.foldl (λcs (x:Value×Nat)=>cs.setIfInBounds (off+x.2) x.1) arr=(arr.toList.take off++v.cells.toList++arr.toList.drop (off+v.cells.size)).toArray:=by
  apply Array.ext';rw[<-Array.foldl_toList,Array.toList_zipIdx];simpa using h
 have H:¬(v.cells.size≠v.cells.size ||off+v.cells.size > arr.size)=true:=by simp;omega
 simp only[Instr.fill,K];rw[dN H];congr 1
def zB3 {h:Type}:Nat->List h->List (Nat×h)
 | _,[]=>[]
 | k,x::r=>(k,x)::zB3 (k+1) r
theorem zMB {h D:Type} (f: h->D):∀(l:List h) (k:Nat),(zB3 k l).map (λp=>(p.1,f p.2))=zB3 k (l.map f)
 | [],_=>rfl
 | x::l,k=>by simp[zB3,zMB f l (k+1)]
theorem z2W (size:Nat):∀(vs:List Value) (k:Nat) (arr:Array Value),(∀v∈vs,v.cells.size=size)->(k+vs.length)*size<=arr.size->
  Instr.fill (λi=>some (i*size,size)) arr (zB3 k vs)=some (arr.toList.take (k*size)++vs.flatMap (λv=>v.cells.toList)++arr.toList.drop ((k+vs.length)*size)).toArray:=by
 intro vs
 induction vs with
 | nil=>intro k arr _ _;simp[zB3,Instr.fill]
 | cons v vs ih=>
  intro k arr O h;simp only[dR] at h;have Y:(k+(vs.length+1))*size=k*size+size+vs.length*size:=by
   rw[eG,eG,Nat.one_mul];omega
  have D:(k+1)*size=k*size+size:=by rw[eG,Nat.one_mul]
  have K:(k+1+vs.length)*size=k*size+size+vs.length*size:=by rw[eG,D]
  have H:v.cells.toList.length=size:=by rw[eN];exact O v (by simp)
  rw[zB3,z2V rfl (O v (by simp)) (by omega),ih (k+1) _ (λu Z=>O u (by simp[Z])) (by simp[H];omega)]
  congr 2;rw[K,D];simp only[dR,d5,Y];have T:(arr.toList.take (k*size)++v.cells.toList).length=k*size+size:=by simp[H];omega
  rw[<-T,gQ,List.drop_length_add_append,List.drop_drop];simp only[c9]
theorem zSI {w:World} {I:Im} {size:Nat}:∀{vs:List Value} {ds:List DV},Reps w I vs ds->ds.all (okDV size)=true->
  Reps w I (vs.flatMap λv=>v.cells.toList) (ds.flatMap vN)/\(∀u∈vs.flatMap (λv=>v.cells.toList),u.oneCell'=true)/\(∀v∈vs,v.cells.size=size)/\(ds.flatMap vN).length=ds.length*size
 | [],[],_,_=>⟨Pw.nil,by simp,by simp,by simp⟩
 | [],_::_,h,_=>by have:=h.1;simp at this
 | _::_,[],h,_=>by have:=h.1;simp at this
 | v::vs,x::ds,h,D=>by
  simp only[ij,dL] at D;have k:=(h.2 0 v x rfl rfl).flat D.1;have K:Reps w I vs ds:=⟨by have:=h.1;simpa using this,λj u y hu O=>h.2 (j+1) u y (by simpa using hu) (by simpa using O)⟩
  obtain⟨a1,a2,a3,H⟩:=zSI K D.2;refine⟨by simp only[d5];exact Pw.append k.1 a1,?_,?_,?_⟩
  ·intro u hu
   simp only[d5,eK] at hu;rcases hu with hu | hu
   ·exact k.2.1 u hu
   ·exact a2 u hu
  ·intro u hu
   rcases dM.1 hu with rfl | hu
   ·have:=k.1.1;rw[k.2.2,eN] at this;exact this
   ·exact a3 u hu
  ·simp only[d5,cX,dR,k.2.2,H,eG];omega
theorem zT8 {t e size bytes:Nat} {z:Value} {len:Nat} {K:List (Nat×Operand)} {ds:List DV} (hn:d<E.n) (O:SlTy P t e size bytes z) (H:K=zB3 0 (K.map Prod.snd)) (Z:K.length=len)
    (T:S.dvL ((K.map Prod.snd).map S.ev)=some ds) (ai:ds.all (okDV size)=true) (ax:len*size<=16777216) (ah:E.nm d=none):
    jQ P r E ⟨some d,.buildSlice t len K.toArray,ty,pos,af,g⟩ S
      ((((S.shareL ((K.map Prod.snd).map S.ev)).kill d).setBlk d (.row e size false (ds.flatMap vN))).put d (.row d)):=
  zAQ (by simp) λA w I ρ C hs=>by
    generalize ak:K.map Prod.snd=xs at H T ⊢;obtain⟨I1,h1,h2,h3⟩:=SatAt.dvL _ hs (zCC hs xs) T;obtain⟨a1,a2,a3,a4⟩:=zSI h3 ai;have D:(xs.map A.eval).length=len:=by rw[<-Z,<-ak];simp
    have ad:ds.length=len:=by rw[<-h3.1];exact D
    have ag:len<=maxLen:=by
      have:=O.pos;have:len*1<=len*size:=gN _ this;simp only[maxLen];omega
    have ac:=h2.newRow (id:=d) (e:=e) (size:=size) (n:=len) (c:=len) (rest:=[]) O.pos (by rw[a4,ad]) (dC _) ag (by simp) a1 a2 ah;refine⟨.slice (some ⟨w.heap.size,0,none⟩) len len,_,?_,I1,_,C,ac.put hn (by simp[Holds,upd])⟩;obtain⟨i,hi,hz,aw,ar⟩:=O.info;have k:=z2W size (xs.map A.eval) 0 ((Array.range (len*size)).map ((if len*size=0 then (#[]:Array Value) else z.cells)[· % (if len*size=0 then (#[]:Array Value) else z.cells).size]!)) a3 (by simp[<-D]);have aa:K.toArray.map (λp:Nat×Operand=>(p.1,A.eval p.2))=(zB3 0 (xs.map A.eval)).toArray:=by
      rw[H,eO,zMB]
    have ab:¬(len*size > 2 ^ 24):=by omega
    simp only[gz,iz,dO,em,D] at k;rw[dE (by simp)] at k;simp only[et] at k ⊢;simp only[execOp,Instr.buildSlice,cQ,dJ O.und,cV,O.size w,ab,cY,dT];by_cases h0:len*size=0
    · have Y:len=0:=by
        rcases Nat.mul_eq_zero.1 h0 with h | h
        · exact h
        · have:=O.pos;omega
      have aj:xs= []:=cP (by simpa[Y] using D);subst aj;subst Y;simp[aa,zB3,Instr.fill,newRow,Array.range_zero']
    · simp only[h0,cY] at k ⊢
      simp[zeroValue,typeInfo,hi,hz,aa,k,newRow]
def zKO (z:Value) (n:Nat):List DV:=(List.replicate n (z.cells.toList.map DV.v)).flatten
theorem zVT (z:Array Value) (n:Nat):(madeCells z (n*z.size)).toList=(List.replicate n z.toList).flatten:=by
 apply fR;intro j;simp only[madeCells,Array.toList_map,Array.toList_range,dW]
 induction n generalizing j with
 | zero=>simp
 | succ n H=>
  rw[List.replicate_succ,gK];by_cases D:j<z.size;rw[dY (by simpa using D)];have h:j<(n+1)*z.size:=by rw[eG,Nat.one_mul];omega
  rw[List.getElem?_range h];simp[Nat.mod_eq_of_lt D,D];rw[dV (by simp;omega),<-H]
  simp only[eN];by_cases h:j<(n+1)*z.size;have k:j-z.size<n*z.size:=by rw[eG,Nat.one_mul] at h;omega
  rw[List.getElem?_range h,List.getElem?_range k];simp only[e6];have:j%z.size=(j-z.size)%z.size:=by
   rw[Nat.mod_eq_sub_mod (by omega)]
  rw[this];have k:¬j-z.size<n*z.size:=by rw[eG,Nat.one_mul] at h;omega
  rw[fQ (by simpa using h),fQ (by simpa using k)]
theorem zP3 (w:World) (I:Im) (vs:List Value):Reps w I vs (vs.map DV.v):=by refine⟨by simp,λj x y k h=>?_⟩;simp[k] at h;subst h;exact .v x
theorem zYU {t e size bytes:Nat} {z:Value} {x:Operand} {n:Nat} {m:Int} (hn:d<E.n) (H:SlTy P t e size bytes z) (hx:S.ev x= .d (.v (.int .i64 m))) (hm:m=(n:Int)) (hb:n*bytes<=140737488355328) (Y:n<=maxLen) (ad:E.nm d=none):
  jQ P r E ⟨some d,.makeSlice t x x,ty,pos,af,g⟩ S (((S.kill d).setBlk d (.row e size false (zKO z n))).put d (.row d)):=
 zAQ (by simp) λA w I ρ C hs=>by
  subst hm;obtain⟨i,hi,hz,ag,ac⟩:=H.info;subst ag ac;have k:zKO z n=((List.replicate n z.cells.toList).flatten).map DV.v:=by simp[zKO,List.map_flatten]
  have K:((List.replicate n z.cells.toList).flatten).length=n*i.size:=by simp[H.zs]
  have Z:=hs.newRow (id:=d) (e:=e) (size:=i.size) (n:=n) (c:=n) (xs:=(List.replicate n z.cells.toList).flatten) (cells:=zKO z n) (rest:=[]) H.pos (by rw[k];simpa using K) (dC _) Y (by simp)
   (by rw[k];exact zP3 _ _ _) (by
    intro u hu;obtain⟨l,hl,hu⟩:=List.mem_flatten.1 hu;rw[List.mem_replicate] at hl;rw[hl.2] at hu;exact H.one u hu) ad
  refine⟨.slice (some ⟨w.heap.size,0,none⟩) n n,_,?_,I,_,C,Z.put hn (by simp[Holds,upd])⟩;have O:=zVT z.cells n;rw[H.zs] at O;have T:madeCells z.cells (n*i.size)=((List.replicate n z.cells.toList).flatten).toArray:=by
   apply Array.ext';simpa using O
  have ab:(i.bytes:Int)*(n:Int)<=281474976710656:=by
   have h:((i.bytes*n:Nat):Int)<=281474976710656:=by rw[Nat.mul_comm];omega
   rwa [Int.natCast_mul] at h
  have D:=run_make (P:=P) w t e i z H.und hi hz .i64 .i64 n n (by omega) (by omega) ab (by simp only[maxLen] at Y;omega)
  simp only[Int.toNat_natCast] at D;simp only[execOp,hs.val hx,cQ,et];rw[D,T];rfl
end
open Go.RowKit
structure Agree (S S':AState) (o:Oper):Prop where
 blks:S'.blks=S.blks
 get:∀t,Operand.tmp t∈o.op.operands->S'.get t=S.get t
theorem Agree.ev {S S':AState} {o:Oper} (h:Agree S S' o) {x:Operand} (k:x∈o.op.operands):S'.ev x=S.ev x:=by
 cases x with
 | tmp t=>simp only[AState.ev,h.get t k]
 | _=>rfl
theorem Agree.blk {S S':AState} {o:Oper} (h:Agree S S' o) (id:Nat):S'.blk id=S.blk id:=by unfold AState.blk;rw[h.blks]
def AOp (P:Program) (r:Option Nat) (E:Env) (S:AState) (o:Oper) (d:Nat) (x:AV):Prop:=
 o.dst=some d/\d<E.n/\∀S',Agree S S' o->jQ P r E o S' (S'.put d x)
theorem AOp.step {P:Program} {r:Option Nat} {E:Env} {S:AState} {o:Oper} {d:Nat} {x:AV} (h:AOp P r E S o d x):jQ P r E o S (S.put d x):=h.2.2 S ⟨rfl,λ_ _=>rfl⟩
section
variable {P:Program} {r:Option Nat} {E:Env} {S:AState} {d:Nat} {ty:TypeId} {pos:String} {af:Array Edge} {g:Option (Nat×Bool)}
theorem yN3 {x:Operand} (k:d<E.n):AOp P r E S ⟨some d,.move x,ty,pos,af,g⟩ d (S.ev x):=
 ⟨rfl,k,λS' h=>by have:=yBG (P:=P) (r:=r) (S:=S') (x:=x) (ty:=ty) (pos:=pos) (af:=af) (g:=g) k;rwa [h.ev (by simp[Op.operands])] at this⟩
theorem yEU {x:Operand} (k:d<E.n):AOp P r E S ⟨some d,.assign x,ty,pos,af,g⟩ d (S.ev x):=
 ⟨rfl,k,λS' h=>by have:=z2P (P:=P) (r:=r) (S:=S') (x:=x) (ty:=ty) (pos:=pos) (af:=af) (g:=g) k;rwa [h.ev (by simp[Op.operands])] at this⟩
section ints
variable {k:IntKind} {x y:Operand} {a b:Int} {tx tz:TypeId} (hn:d<E.n) (hx:S.ev x= .d (.v (.int k a))) (hy:S.ev y= .d (.v (.int k b)))
include hn hx hy
theorem zQ1:AOp P r E S ⟨some d,.binOp .lss tx x y tz,ty,pos,af,g⟩ d (.d (.v (.bool (decide (a<b))))):=
 ⟨rfl,hn,λ_ h=>yEI hn ((h.ev (by simp[Op.operands])).trans hx) ((h.ev (by simp[Op.operands])).trans hy)⟩
theorem zKP:AOp P r E S ⟨some d,.binOp .leq tx x y tz,ty,pos,af,g⟩ d (.d (.v (.bool (decide (a<=b))))):=
 ⟨rfl,hn,λ_ h=>yEJ hn ((h.ev (by simp[Op.operands])).trans hx) ((h.ev (by simp[Op.operands])).trans hy)⟩
theorem zQ2:AOp P r E S ⟨some d,.binOp .gtr tx x y tz,ty,pos,af,g⟩ d (.d (.v (.bool (decide (b<a))))):=
 ⟨rfl,hn,λ_ h=>yEK hn ((h.ev (by simp[Op.operands])).trans hx) ((h.ev (by simp[Op.operands])).trans hy)⟩
theorem zNR:AOp P r E S ⟨some d,.binOp .geq tx x y tz,ty,pos,af,g⟩ d (.d (.v (.bool (decide (b<=a))))):=
 ⟨rfl,hn,λ_ h=>yEL hn ((h.ev (by simp[Op.operands])).trans hx) ((h.ev (by simp[Op.operands])).trans hy)⟩
theorem zM2:AOp P r E S ⟨some d,.binOp .eql tx x y tz,ty,pos,af,g⟩ d (.d (.v (.bool (decide (a=b))))):=
 ⟨rfl,hn,λ_ h=>yEM hn ((h.ev (by simp[Op.operands])).trans hx) ((h.ev (by simp[Op.operands])).trans hy)⟩
theorem zTN:AOp P r E S ⟨some d,.binOp .neq tx x y tz,ty,pos,af,g⟩ d (.d (.v (.bool (!decide (a=b))))):=
 ⟨rfl,hn,λ_ h=>yEN hn ((h.ev (by simp[Op.operands])).trans hx) ((h.ev (by simp[Op.operands])).trans hy)⟩
end ints
theorem yQV {k T:IntKind} {x y:Operand} {a:Int} {m:Nat} {tx tz:TypeId} (D:d<E.n) (K:S.ev x= .d (.v (.int k a))) (O:S.ev y= .d (.v (.int T (m:Int))))
  (H:m<=k.bits):AOp P r E S ⟨some d,.binOp .shr tx x y tz,ty,pos,af,g⟩ d (.d (.v (.int k (a/2 ^ m)))):=
 ⟨rfl,D,λ_ h=>yEO D ((h.ev (by simp[Op.operands])).trans K) ((h.ev (by simp[Op.operands])).trans O) H⟩
theorem zYV {x:Operand} {b:Bool} {tx:TypeId} (k:d<E.n) (D:S.ev x= .d (.v (.bool b))):AOp P r E S ⟨some d,.unOp .not tx x,ty,pos,af,g⟩ d (.d (.v (.bool (!b)))):=
 ⟨rfl,k,λ_ h=>yEP k ((h.ev (by simp[Op.operands])).trans D)⟩
theorem zGY {c:Operand} {t:Nat} {b k:Bool} (D:d<E.n) (H:S.ev c= .d (.v (.bool b))) (K:S.get t= .cond b (.d (.v (.bool k)))):
  AOp P r E S ⟨some d,.pick c (.tmp t) (.const (.bool false)),ty,pos,af,g⟩ d (.d (.v (.bool (b&&k)))):=
 ⟨rfl,D,λ_ h=>zXG D ((h.ev (by simp[Op.operands])).trans H) ((h.get t (by simp[Op.operands])).trans K)⟩
theorem zSJ {c:Operand} {t:Nat} {b k:Bool} (D:d<E.n) (H:S.ev c= .d (.v (.bool b))) (K:S.get t= .cond (!b) (.d (.v (.bool k)))):
  AOp P r E S ⟨some d,.pick c (.const (.bool true)) (.tmp t),ty,pos,af,g⟩ d (.d (.v (.bool (b ||k)))):=
 ⟨rfl,D,λ_ h=>z0B D ((h.ev (by simp[Op.operands])).trans H) ((h.get t (by simp[Op.operands])).trans K)⟩
section strs
variable {x y:Operand} {a b:ByteArray} {tx tz:TypeId} (hn:d<E.n) (hx:S.ev x= .d (.v (.string a))) (hy:S.ev y= .d (.v (.string b)))
include hn hx hy
theorem yN4:AOp P r E S ⟨some d,.binOp .eql tx x y tz,ty,pos,af,g⟩ d (.d (.v (.bool (a.toList==b.toList)))):=
 ⟨rfl,hn,λ_ h=>yBH hn ((h.ev (by simp[Op.operands])).trans hx) ((h.ev (by simp[Op.operands])).trans hy)⟩
theorem yN5:AOp P r E S ⟨some d,.binOp .neq tx x y tz,ty,pos,af,g⟩ d (.d (.v (.bool (!(a.toList==b.toList))))):=
 ⟨rfl,hn,λ_ h=>yBI hn ((h.ev (by simp[Op.operands])).trans hx) ((h.ev (by simp[Op.operands])).trans hy)⟩
theorem yN6:AOp P r E S ⟨some d,.binOp .lss tx x y tz,ty,pos,af,g⟩ d (.d (.v (.bool (Op.bytesLess a.toList b.toList)))):=
 ⟨rfl,hn,λ_ h=>yBJ hn ((h.ev (by simp[Op.operands])).trans hx) ((h.ev (by simp[Op.operands])).trans hy)⟩
end strs
theorem z6O {k D:IntKind} {x:Operand} {a:Int} {K td:TypeId} {ds:TypeDesc} (H:d<E.n) (T:P.underlying K=some ds) (O:P.underlying td=some (.int D)) (Y:S.ev x= .d (.v (.int k a))):
  AOp P r E S ⟨some d,.convert K td x,ty,pos,af,g⟩ d (.d (.v (.int D (D.wrap a)))):=
 ⟨rfl,H,λ_ h=>zXH H T O ((h.ev (by simp[Op.operands])).trans Y)⟩
theorem zYW {x:Operand} {i:Nat} {ds:List DV} {e:DV} (k:d<E.n) (D:S.ev x= .tup ds) (hi:ds[i]? =some e):AOp P r E S ⟨some d,.extract x i,ty,pos,af,g⟩ d (.d e):=
 ⟨rfl,k,λ_ h=>z0C k ((h.ev (by simp[Op.operands])).trans D) hi⟩
theorem yJU {t e size bytes:Nat} {z:Value} {x:Operand} {cells:List DV} {n:Nat} (k:d<E.n) (D:SlTy P t e size bytes z) (K:S.ev x= .d (.sl size cells)) (H:cells.length=n*size):
  AOp P r E S ⟨some d,.call {callee:= .builtin .len,args:= #[x],argTypes:= #[t]},ty,pos,af,g⟩ d (.d (.v (.int .i64 n))):=
 ⟨rfl,k,λ_ h=>z6M k D ((h.ev (by simp[Op.operands,Call.operands])).trans K) H⟩
theorem yBN {t e size bytes:Nat} {z:Value} {x:Operand} {id:Nat} {O:Bool} {cells:List DV} {n:Nat} (k:d<E.n) (D:SlTy P t e size bytes z) (K:S.ev x= .row id) (hb:S.blk id= .row e size O cells) (H:cells.length=n*size):
  AOp P r E S ⟨some d,.call {callee:= .builtin .len,args:= #[x],argTypes:= #[t]},ty,pos,af,g⟩ d (.d (.v (.int .i64 n))):=
 ⟨rfl,k,λ_ h=>z0D k D ((h.ev (by simp[Op.operands,Call.operands])).trans K) ((h.blk id).trans hb) H⟩
theorem yBO {t:TypeId} {x:Operand} {s:ByteArray} (k:d<E.n) (D:P.underlying t=some .string) (H:S.ev x= .d (.v (.string s))):
  AOp P r E S ⟨some d,.call {callee:= .builtin .len,args:= #[x],argTypes:= #[t]},ty,pos,af,g⟩ d (.d (.v (.int .i64 s.size))):=
 ⟨rfl,k,λ_ h=>z0E k D ((h.ev (by simp[Op.operands,Call.operands])).trans H)⟩
theorem yBP {t e size bytes:Nat} {z:Value} {x K:Operand} {cells:List DV} {n k:Nat} {kk:IntKind} {i:Int} (H:d<E.n) (O:SlTy P t e size bytes z) (Z:S.ev x= .d (.sl size cells))
  (hi:S.ev K= .d (.v (.int kk i))) (T:i=(k:Int)) (Y:cells.length=n*size) (D:k<n):
  AOp P r E S ⟨some d,.indexAddr t x K,ty,pos,af,g⟩ d (.ip cells (k*size)):=
 ⟨rfl,H,λ_ h=>z0F H O ((h.ev (by simp[Op.operands])).trans Z) ((h.ev (by simp[Op.operands])).trans hi) T Y D⟩
theorem z2X {t e size bytes:Nat} {z:Value} {x K:Operand} {id:Nat} {sh:Bool} {cells:List DV} {n k:Nat} {kk:IntKind} {i:Int} (H:d<E.n) (O:SlTy P t e size bytes z) (Z:S.ev x= .row id)
  (hb:S.blk id= .row e size sh cells) (hi:S.ev K= .d (.v (.int kk i))) (T:i=(k:Int)) (Y:cells.length=n*size) (D:k<n):
  AOp P r E S ⟨some d,.indexAddr t x K,ty,pos,af,g⟩ d (.ptr id (k*size)):=
 ⟨rfl,H,λ_ h=>zVL H O ((h.ev (by simp[Op.operands])).trans Z) ((h.blk id).trans hb) ((h.ev (by simp[Op.operands])).trans hi) T Y D⟩
theorem vC {t:TypeId} {x:Operand} {cells:List DV} {off:Nat} {e:DV} (k:d<E.n) (D:OneTy P t) (K:S.ev x= .ip cells off) (H:cells[off]? =some e):
  AOp P r E S ⟨some d,.load t x,ty,pos,af,g⟩ d (.d e):=
 ⟨rfl,k,λ_ h=>z0G k D ((h.ev (by simp[Op.operands])).trans K) H⟩
theorem zFN {t n:Nat} {x:Operand} {cells:List DV} {off:Nat} {es:List DV} (k:d<E.n) (D:AggTy P t n) (O:S.ev x= .ip cells off) (H:(cells.drop off).take n=es) (K:es.length=n):
  AOp P r E S ⟨some d,.load t x,ty,pos,af,g⟩ d (.d (.agg es)):=
 ⟨rfl,k,λ_ h=>zXI k D ((h.ev (by simp[Op.operands])).trans O) H K⟩
theorem zGZ {t:TypeId} {x:Operand} {id off eb:Nat} {cells:List AV} {av:AV} (k:d<E.n) (D:OneTy P t) (K:S.ev x= .ptr id off) (hb:S.blk id= .box eb cells) (H:cells[off]? =some av):
  AOp P r E S ⟨some d,.load t x,ty,pos,af,g⟩ d av:=
 ⟨rfl,k,λ_ h=>zXJ k D ((h.ev (by simp[Op.operands])).trans K) ((h.blk id).trans hb) H⟩
theorem z6P {t:TypeId} {x:Operand} {id off e size:Nat} {O:Bool} {cells:List DV} {y:DV} (k:d<E.n) (D:OneTy P t) (K:S.ev x= .ptr id off) (hb:S.blk id= .row e size O cells) (H:cells[off]? =some y):
  AOp P r E S ⟨some d,.load t x,ty,pos,af,g⟩ d (.d y):=
 ⟨rfl,k,λ_ h=>zXK k D ((h.ev (by simp[Op.operands])).trans K) ((h.blk id).trans hb) H⟩
theorem z2Y {t n:Nat} {x:Operand} {id off e size:Nat} {T:Bool} {cells es:List DV} (k:d<E.n) (D:AggTy P t n) (O:S.ev x= .ptr id off) (hb:S.blk id= .row e size T cells)
  (H:(cells.drop off).take n=es) (K:es.length=n):AOp P r E S ⟨some d,.load t x,ty,pos,af,g⟩ d (.d (.agg es)):=
 ⟨rfl,k,λ_ h=>zVM k D ((h.ev (by simp[Op.operands])).trans O) ((h.blk id).trans hb) H K⟩
def unD:List AV->Option (List DV)
 | []=>some []
 | .d x::r=>match unD r with
  | some ys=>some (x::ys)
  | none=>none
 | _::_=>none
theorem zJJ (S:AState):∀{l:List AV} {ds:List DV},unD l=some ds->S.dvL l=some ds/\S.shareL l=S
 | [],ds,h=>by simp[unD] at h;subst h;exact⟨rfl,rfl⟩
 | .d x::l,ds,h=>by
  simp only[unD] at h;cases k:unD l with
  | none=>simp[k] at h
  | some ys=>
   simp[k] at h;subst h;obtain⟨D,H⟩:=zJJ S k;exact⟨by simp[AState.dvL,AState.dv,D],by simpa[AState.shareL,AState.shareAV] using H⟩
 | .top::_,_,h=>by simp[unD] at h
 | .row _::_,_,h=>by simp[unD] at h
 | .ptr _ _::_,_,h=>by simp[unD] at h
 | .ip _ _::_,_,h=>by simp[unD] at h
 | .tup _::_,_,h=>by simp[unD] at h
 | .cond _ _::_,_,h=>by simp[unD] at h
 | .gh _::_,_,h=>by simp[unD] at h
 | .rs _ _ _::_,_,h=>by simp[unD] at h
theorem jP {f:FuncId} {xs:List Operand} {ats:Array TypeId} {ds K:List DV} (H:d<E.n) (k:unD (xs.map S.ev)=some ds) (Y:zE P f ds K) (hG:E.gdt=uB P:=by rfl):
  AOp P r E S ⟨some d,.call {callee:= .value (.func f),args:=xs.toArray,argTypes:=ats},ty,pos,af,g⟩ d (zYP K):=
 ⟨rfl,H,λS' h=>by
  have D:xs.map S'.ev=xs.map S.ev:=gt λx Z=>h.ev (by simp[Op.operands,Call.operands,Z]);obtain⟨O,T⟩:=zJJ S' k;have:=zYQ (P:=P) (r:=r) (S:=S') (ty:=ty) (pos:=pos) (af:=af) (g:=g) (ats:=ats) H (by rw[D];exact O) Y hG
  rwa [D,T] at this⟩
def z2Z (P:Program) (r:Option Nat) (E:Env) (ops:Array Oper) (o:Oper) (S S':AState):Prop:=
 ∀a w (K:Act->World->Prop) (Q:Exit->Act->World->Prop),Sat E S a w->(∀h w',Sat E S' h w'->K h w')->
  if Region.wanted o (yielded ops a.tmps) then o.wpIn (fen r) 0 P a w K Q else (∀f,o.about P w a.eval=some f->(fen r).fn f)/\K (a.put o.dst undef) w
def z21 (P:Program) (r:Option Nat) (E:Env) (ops:Array Oper) (S:AState) (o:Oper) (d:Nat) (x:AV):Prop:=
 o.dst=some d/\d<E.n/\∀S',S'.blks=S.blks->(∀t∈o.looksAt ops,S'.get t=S.get t)->z2Z P r E ops o S' (S'.put d x)
theorem zSK {ops:Array Oper} {o:Oper} {t:Nat} (h:Operand.tmp t∈o.op.operands):t∈o.looksAt ops:=
 List.mem_append_left _ (List.mem_filterMap.2 ⟨.tmp t,by simpa using h,rfl⟩)
theorem zQ3 {ops:Array Oper} {o:Oper} {S':AState} (k:o.guard=none) (h:jQ P r E o S S'):z2Z P r E ops o S S':=λa w K Q H D=>by simp only[Region.wanted,k,dH];exact h a w K Q H D
theorem z23 {ops:Array Oper} {o:Oper} {x:AV} (k:o.guard=none) (h:AOp P r E S o d x):z21 P r E ops S o d x:=
 ⟨h.1,h.2.1,λS' hb D=>zQ3 k (h.2.2 S' ⟨hb,λt H=>D t (zSK H)⟩)⟩
theorem z24 {a:Act} {w:World} {c:Bool} {x:AV} (Y:d<E.n) (T:c=true) (h:Sat E (S.put d x) a w):Sat E (S.put d (.cond c x)) a w:=by
 obtain⟨O,D,K,k⟩:=h;refine⟨O,D,K,⟨λu=>?_,k.blks,k.dist,by have:=k.frame;rw[zDR _ _ Y] at this ⊢;exact this,k.sub,k.old,k.size,k.defers,k.cI,k.cB,k.nm⟩⟩
 have:=k.tmps u;rw[zB1] at this ⊢;by_cases e:d=u;simp only[e,dH] at this ⊢;exact⟨λ_=>this,λH=>by rw[T] at H;cases H⟩
 simp only[e,cY] at this ⊢;exact this
theorem z25 {ops:Array Oper} {o:Oper} {j t:Nat} {k b:Bool} {x:AV} (hg:o.guard=some (j,k)) (hj:(ops[j]?).bind (·.dst)=some t) (hd:o.dst=some d) (O:d<E.n) (T:t<E.n)
    (Z:S.get t= .d (.v (.bool b))) (h:gd k b=true->AOp P r E S o d x):z21 P r E ops S o d (.cond (gd k b) x):=by
  refine⟨hd,O,λS' hb hl a w Kn Q hs hk=>?_⟩;obtain⟨I,ρ,C,D⟩:=hs;have aa:t∈o.looksAt ops:=List.mem_append_right _ (by simp[hg,hj]);have hy:=D.yield (ops:=ops) hj ((hl t aa).trans Z) T;have K:Region.wanted o (yielded ops a.tmps)=gd k b:=by
    simp only[Region.wanted,hg,hy];cases k<;>cases b<;>rfl
  rw[K];cases H:gd k b with
  | true=>
    simp only[dH];refine(h H).2.2 S' ⟨hb,λt Z=>hl t (zSK Z)⟩ a w Kn Q ⟨I,ρ,C,D⟩ λa' w' Y=>hk a' w' ?_;rw[H];exact z24 O rfl Y
  | false=>
    simp only[dQ,cY];refine⟨λ_ _=>trivial,hk _ _ ?_⟩;rw[hd,H];exact⟨I,ρ,C,D.put O ⟨λhf=>(by cases hf),λ_=>rfl⟩⟩
theorem zYX {ops:Array Oper} {o:Oper} {j t:Nat} {k b c:Bool} {x:AV} (hg:o.guard=some (j,k)) (hj:(ops[j]?).bind (·.dst)=some t) (hd:o.dst=some d) (O:d<E.n) (T:t<E.n)
    (Z:S.get t= .cond c (.d (.v (.bool b)))) (h:(c&&gd k b)=true->AOp P r E S o d x):z21 P r E ops S o d (.cond (c&&gd k b) x):=by
  refine⟨hd,O,λS' hb hl a w Kn Q hs hk=>?_⟩;obtain⟨I,ρ,C,D⟩:=hs;have aa:t∈o.looksAt ops:=List.mem_append_right _ (by simp[hg,hj]);have hy:=D.yield2 (ops:=ops) hj ((hl t aa).trans Z) T;have K:Region.wanted o (yielded ops a.tmps)=(c&&gd k b):=by
    simp only[Region.wanted,hg,hy];cases k<;>cases b<;>cases c<;>rfl
  rw[K];cases H:(c&&gd k b) with
  | true=>
    simp only[dH];refine(h H).2.2 S' ⟨hb,λt Z=>hl t (zSK Z)⟩ a w Kn Q ⟨I,ρ,C,D⟩ λa' w' Y=>hk a' w' ?_;rw[H];exact z24 O rfl Y
  | false=>
    simp only[dQ,cY];refine⟨λ_ _=>trivial,hk _ _ ?_⟩;rw[hd,H];exact⟨I,ρ,C,D.put O ⟨λhf=>(by cases hf),λ_=>rfl⟩⟩
def Sq (P:Program) (r:Option Nat) (E:Env) (ops:Array Oper):List Oper->AState->(AState->Prop)->Prop
 | [],S,J=>J S
 | o::rest,S,J=> ∃S',z2Z P r E ops o S S'/\Sq P r E ops rest S' J
theorem zN {ops:Array Oper} {J:AState->Prop} (h:J S):Sq P r E ops [] S J:=h
theorem yN7 {ops:Array Oper} {o:Oper} {rest:List Oper} {J:AState->Prop} {x:AV} (h:z21 P r E ops S o d x) (k:Sq P r E ops rest (S.put d x) J):Sq P r E ops (o::rest) S J:=
 ⟨_,h.2.2 S rfl (λ_ _=>rfl),k⟩
theorem yH {ops:Array Oper} {o:Oper} {rest:List Oper} {J:AState->Prop} {S':AState} (D:o.guard=none) (h:jQ P r E o S S') (k:Sq P r E ops rest S' J):Sq P r E ops (o::rest) S J:=
 ⟨_,zQ3 D h,k⟩
theorem zEP {ops:Array Oper} {rest:List Oper} {J:AState->Prop} {S':AState} (T:zGS E S S') (k:Sq P r E ops rest S' J) (D:rest≠[]):Sq P r E ops rest S J:=by
 cases rest with
 | nil=>exact absurd rfl D
 | cons o rest=>
  obtain⟨S2,h,k⟩:=k;exact⟨S2,λa w K Q O H=>h a w K Q (T a w O) H,k⟩
theorem Sq.wp {ops:Array Oper} {Q:Exit->Act->World->Prop}:∀(l:List Oper) {S:AState} {J:AState->Prop} (_:Sq P r E ops l S J) (a:Act) (w:World),Sat E S a w->(∀S' D w',J S'->Sat E S' D w'->Q .normal D w')->wpListIn (fen r) 0 P ops Q l a w
 | [],_,_,h,a,w,O,H=>H _ a w h O
 | _::l,_,_,⟨_,h,k⟩,a,w,O,H=>wpListIn_step λK Y=>h a w K Q O λD w' T=>Y D w' (Sq.wp l k D w' T H)
theorem x9 {id:Nat} {l:List Oper} {K:Exit->AState->Prop} (h:Sq P r E l.toArray l S (K .normal)):Avc P r E (.region id l.toArray false) K S:=λa w H=>
 wpIn_region_lit (Sq.wp l h a w H λS' _ _ D k=>⟨S',D,k⟩)
end
open Go.RowKit
def aft (o:Oper):List Nat:=(o.after.toList.filter λe=>Region.binds .any e).map (·.on)
def clo:List Oper->List (List Nat)->List (List Nat)
 | [],acc=>acc
 | o::l,acc=>clo l (acc++ [((aft o).flatMap λj=>j::acc.getD j []).eraseDups])
inductive Reach (l:List Oper):Nat->Nat->Prop
 | one {i j:Nat} {o:Oper} (h:l[i]? =some o) (hj:j∈aft o):Reach l i j
 | more {i k j:Nat} {o:Oper} (h:l[i]? =some o) (hk:k∈aft o) (hr:Reach l k j):Reach l i j
theorem yBQ (K:List Oper):∀(l:List Oper) (acc:List (List Nat)),(∀(k:Nat) o,l[k]? =some o->K[acc.length+k]? =some o)->(∀i j,j∈acc.getD i []->Reach K i j)->∀i j,j∈(clo l acc).getD i []->Reach K i j:=by
 intro l
 induction l with
 | nil=>intro acc _ h i j hj;exact h i j hj
 | cons o l Z=>
  intro acc Y D;refine Z _ (λk o' H=>?_) (λi j hj=>?_)
  ·have:=Y (k+1) o' (by simpa using H)
   simp only[cX,gY]
   rwa [show acc.length+1+k=acc.length+(k+1) by omega]
  ·have T:K[acc.length]? =some o:=by simpa using Y 0 o rfl
   rcases Nat.lt_trichotomy i acc.length with O | heq | hgt
   ·have:(acc++ [((aft o).flatMap λj=>j::acc.getD j []).eraseDups]).getD i []=acc.getD i []:=by
     simp[List.getD,dY O]
    rw[this] at hj;exact D i j hj
   ·subst heq
    have:(acc++ [((aft o).flatMap λj=>j::acc.getD j []).eraseDups]).getD acc.length []=((aft o).flatMap λj=>j::acc.getD j []).eraseDups:=by
     simp[List.getD]
    rw[this,List.mem_eraseDups,iD] at hj;obtain⟨k,H,hj⟩:=hj;rcases dM.1 hj with rfl | hj
    ·exact .one T H
    ·exact .more T H (D k j hj)
   ·have:(acc++ [((aft o).flatMap λj=>j::acc.getD j []).eraseDups]).getD i []= []:=by
     simp only[List.getD];rw[fQ (by simp;omega)]
     rfl
    rw[this] at hj;cases hj
def dstAt (l:List Oper) (i:Nat):Option Nat:=(l[i]?).bind (·.dst)
def z0H (l:List Oper) (N:Nat):Bool:=
 let c:=clo l []
 decide (N<=l.length)&&
 (List.range l.length).all λi=>match l[i]? with
  | none=>true
  | some o=>
   ((aft o).all λj=>decide (j<i))&&
   (if i<N then
    ((o.looksAt l.toArray).all λt=>(List.range N).all λj=>(Nat.beq j i ||(dstAt l j != some t)) ||(if j<i then (c.getD i []).contains j else (c.getD j []).contains i))&&
    ((List.range N).all λj=>Nat.beq j i ||(dstAt l j != o.dst))
   else (List.range i).all λj=>(c.getD i []).contains j)
structure DrawOk (l:List Oper) (N:Nat):Prop where
 le:N<=l.length
 aft:∀i o,l[i]? =some o->∀j∈aft o,j<i
 looks:∀i o,i<N->l[i]? =some o->∀t∈o.looksAt l.toArray,∀j,j<N->j≠i->dstAt l j=some t->if j<i then Reach l i j else Reach l j i
 dist:∀i o,i<N->l[i]? =some o->∀j,j<N->j≠i->dstAt l j≠o.dst
 tail:∀i o,N<=i->l[i]? =some o->∀j,j<i->Reach l i j
theorem z26 {l:List Oper} {N:Nat} (h:z0H l N=true):DrawOk l N:=by
 have Y:∀i j,j∈(clo l []).getD i []->Reach l i j:=yBQ l l [] (λk o hk=>by simpa using hk) (λi j H=>by simp at H);simp only[z0H,dL,cZ,eC,fO] at h;obtain⟨Z,h⟩:=h;have hi:∀(i:Nat) o,l[i]? =some o->i<l.length:=λi o D=>(c8.1 D).1;refine⟨Z,λi o D j H=>?_,λi o T D t ht j H K hd=>?_,λi o T D j H K=>?_,λi o T D j H=>?_⟩;have:=h i (hi i o D);simp only[D,dL,eC,cZ] at this;exact this.1 j H;have:=h i (hi i o D);simp only[D,dL,eC,cZ,T,dH,fO,fP,hP] at this;have h2:=this.2.1 t ht j H;rcases h2 with (h2 | h2) | h2
 exact absurd h2 K;rw[hd] at h2;simp at h2;by_cases O:j<i;simp only[O,dH] at h2 ⊢;exact Y i j (by simpa using h2);simp only[O,cY] at h2 ⊢;exact Y j i (by simpa using h2);have:=h i (hi i o D);simp only[D,dL,eC,cZ,T,dH,fO,fP,hP] at this;rcases this.2.2 j H with h2 | h2
 exact absurd h2 K;simpa using h2;have:=h i (hi i o D);have hn:¬i<N:=by omega
 simp only[D,dL,eC,cZ,hn,cY,fO] at this;exact Y i j (by simpa using this.2 j H)
def DA (P:Program) (r:Option Nat) (E:Env) (ops:Array Oper):List Oper->AState->(AState->Prop)->Prop
 | [],S,J=>J S
 | o::rest,S,J=> ∃d x,z21 P r E ops S o d x/\DA P r E ops rest (S.put d x) J
section
variable {P:Program} {r:Option Nat} {E:Env} {S:AState} {d:Nat}
theorem wF {ops:Array Oper} {J:AState->Prop} (h:J S):DA P r E ops [] S J:=h
theorem yN8 {ops:Array Oper} {o:Oper} {rest:List Oper} {J:AState->Prop} {x:AV} (h:z21 P r E ops S o d x) (k:DA P r E ops rest (S.put d x) J):DA P r E ops (o::rest) S J:=⟨d,x,h,k⟩
def zQ4 (S:AState):List (Nat×AV)->AState
 | []=>S
 | p::h=>zQ4 (S.put p.1 p.2) h
theorem zSL (S:AState) (h:List (Nat×AV)):(zQ4 S h).blks=S.blks:=by
 induction h generalizing S with
 | nil=>rfl
 | cons q h k=>exact k _
theorem DA.list {ops:Array Oper}:∀(l:List Oper) {S:AState} {J:AState->Prop},DA P r E ops l S J->
  ∃D:List (Nat×AV),D.length=l.length/\J (zQ4 S D)/\∀(i:Nat) o p,l[i]? =some o->D[i]? =some p->z21 P r E ops (zQ4 S (D.take i)) o p.1 p.2
 | [],S,_,h=>⟨[],rfl,h,by simp⟩
 | o::l,S,_,⟨d,x,h,k⟩=>by
  obtain⟨D,O,T,Y⟩:=DA.list l k;refine⟨(d,x)::D,by simp[O],T,λi Z p H K=>?_⟩;cases i with
  | zero=>simp at H K;subst H;subst K;exact h
  | succ i=>exact Y i Z p (by simpa using H) (by simpa using K)
theorem z27 (h:List (Nat×AV)):∀(S:AState),(∀(i j:Nat) p q,h[i]? =some p->h[j]? =some q->i≠j->p.1≠q.1)->
  (∀(i:Nat) p,h[i]? =some p->(zQ4 S h).get p.1=p.2)/\∀t,(∀(i:Nat) p,h[i]? =some p->p.1≠t)->(zQ4 S h).get t=S.get t:=by
 induction h with
 | nil=>intro S _;exact⟨by simp,λt _=>rfl⟩
 | cons q h ih=>
  intro S K;have D:∀(i j:Nat) p q,h[i]? =some p->h[j]? =some q->i≠j->p.1≠q.1:=λi j p q k Z Y=>K (i+1) (j+1) p q (by simpa using k) (by simpa using Z) (by omega);obtain⟨T,H⟩:=ih (S.put q.1 q.2) D;refine⟨λi p k=>?_,λt O=>?_⟩
  ·cases i with
   | zero=>
    simp at k;subst k;show (zQ4 (S.put q.1 q.2) h).get q.1=q.2;rw[H q.1 (λi p k=>K (i+1) 0 p q (by simpa using k) rfl (by omega)),zB1];simp
   | succ i=>exact T i p (by simpa using k)
  ·show (zQ4 (S.put q.1 q.2) h).get t=S.get t
   rw[H t (λi p k=>O (i+1) p (by simpa using k)),zB1,dN (O 0 q rfl)]
theorem zYY {S S':AState} (hb:S'.blks=S.blks) (K:∀t,S'.get t=S.get t) {a:Act} {w:World} (h:Sat E S a w):Sat E S' a w:=by
 obtain⟨I,ρ,C,h⟩:=h;have k:∀i,S'.blk i=S.blk i:=λi=>by unfold AState.blk;rw[hb]
 exact⟨I,ρ,C,⟨λt=>by rw[K];exact h.tmps t,λi=>by rw[k];exact h.blks i,λi Y b O hi H=>h.dist i Y b O (by rw[<-k];exact hi) (by rw[<-k];exact H),by have:=h.frame;unfold AState.ghost at this ⊢;rw[K];exact this,h.sub,h.old,h.size,h.defers,h.cI,λi b hi D=>h.cB i b (by rw[<-k];exact hi) D,λi v T hi=>h.nm i v T (by rw[<-k];exact hi)⟩⟩
theorem z29 {S:AState} {a:Act} {w:World} (h:Sat E S a w):Sat E S a {w with drawn:=w.drawn+1}:=by obtain⟨I,ρ,C,h⟩:=h;exact⟨I,ρ,C,h.grow (Below.drew (Below.refl _ _))⟩
structure Lst (S:AState) (ps:List (Nat×AV)) (L:Nat->Bool) (S':AState):Prop where
 blks:S'.blks=S.blks
 yes:∀(i:Nat) p,ps[i]? =some p->L i=true->S'.get p.1=p.2
 no:∀t,(∀(i:Nat) p,ps[i]? =some p->L i=true->p.1≠t)->S'.get t=S.get t
def unl (listed:Array Bool):Nat:=(listed.toList.filter (λb=>!b)).length
theorem z9A {listed:Array Bool} {i:Nat} (h:listed[i]? =some false):unl (listed.setIfInBounds i true)+1=unl listed:=by
 obtain⟨H,T⟩:=cU.1 h;unfold unl;rw[Array.toList_setIfInBounds];have D:i<listed.toList.length:=by simpa using H
 have k:listed.toList=listed.toList.take i++false::listed.toList.drop (i+1):=by
  have O:listed.toList[i]=false:=by simpa using T
  have K:listed.toList.drop i=listed.toList[i]::listed.toList.drop (i+1):=cW D;rw[O] at K;rw[<-K,ey]
 rw[gy,dG D]
 conv=>rhs;rw[k]
 simp;omega
theorem zMC {l:List Oper} {listed:Array Bool} {i:Nat} (h:i∈Region.ready .any l.toArray listed):
  i<l.length/\listed.getD i true=false/\∀o,l[i]? =some o->∀j∈aft o,listed.getD j false=true:=by
 simp only[Region.ready,fb,fO,dL,fS,fY] at h;obtain⟨D,H,h3⟩:=h;refine⟨D,H,λo O j k=>?_⟩;simp only[eX,O,e6,gR,Array.all_eq_true_iff_forall_mem,fP,fS] at h3;simp only[aft,eM,fb] at k;obtain⟨e,⟨K,hb⟩,rfl⟩:=k;rcases h3 e (by simpa using K) with h3 | h3
 ·rw[hb] at h3;cases h3
 ·exact h3
theorem z3A {l:List Oper} {listed:Array Bool} {i:Nat} {o:Oper} (h:l[i]? =some o) (k:listed.getD i true=false) (D:∀j∈aft o,listed.getD j false=true):
  i∈Region.ready .any l.toArray listed:=by
 simp only[Region.ready,fb,fO,dL,fS,fY];refine⟨(c8.1 h).1,k,?_⟩;simp only[eX,h,e6,gR,Array.all_eq_true_iff_forall_mem,fP,fS];intro e H;cases hb:Region.binds .any e with
 | false=>exact .inl rfl
 | true=>exact .inr (D e.on (by simp only[aft,eM,fb];exact⟨e,⟨by simpa using H,hb⟩,rfl⟩))
structure Down (l:List Oper) (listed:Array Bool):Prop where
 size:listed.size=l.length
 down:∀(i:Nat) o,l[i]? =some o->listed.getD i false=true->∀j∈aft o,listed.getD j false=true
theorem Down.reach {l:List Oper} {listed:Array Bool} (h:Down l listed) {i j:Nat} (Y:Reach l i j) (hi:∀o,l[i]? =some o->∀k∈aft o,listed.getD k false=true):listed.getD j false=true:=by
 induction Y with
 | one H O=>exact hi _ H _ O
 | more H T _ Z=>exact Z λo' K k' D=>h.down _ o' K (hi _ H _ T) k' D
theorem Down.set {l:List Oper} {listed:Array Bool} (h:Down l listed) {i:Nat} (hi:∀o,l[i]? =some o->∀k∈aft o,listed.getD k false=true):Down l (listed.setIfInBounds i true):=by
 have mono:∀k,listed.getD k false=true->(listed.setIfInBounds i true).getD k false=true:=by
  intro k D;simp only[dI] at D ⊢;by_cases e:i=k;subst e;by_cases K:i<listed.size;simp[K];simp[K] at D;rw[dX e];exact D
 refine⟨by simp[h.size],λj o O H k D=>mono k ?_⟩;by_cases e:i=j;subst e;exact hi o O k D;refine h.down j o O ?_ k D;simp only[dI] at H ⊢
 rwa [dX e] at H
theorem zNS {listed:Array Bool} {i k:Nat} (hi:i<listed.size):(listed.setIfInBounds i true).getD k false=(if i=k then true else listed.getD k false):=by simp only[dI];by_cases e:i=k;subst e;simp[hi];rw[dX e,dN e]
theorem zYZ {l:List Oper} {N:Nat} (H:DrawOk l N) {listed:Array Bool} (T:listed.size=l.length) (h:Region.ready .any l.toArray listed= []):∀i,i<l.length->listed.getD i false=true:=by
 intro i
 induction i using Nat.strongRecOn with
 | _ i Y=>
  intro hi;cases hb:listed.getD i false with
  | true=>rfl
  | false=>
   exfalso;have D:i<listed.size:=by omega
   have K:listed.getD i true=false:=by simpa[dI,D] using hb
   have:=z3A (l:=l) (o:=l[i]) (cS hi) K (λj O=>by
    have k:=H.aft i _ (cS hi) j O;exact Y j k (by omega))
   rw[h] at this;cases this
theorem z3B {listed:Array Bool} (h:unl listed=0):∀i,i<listed.size->listed.getD i false=true:=by intro i hi;unfold unl at h;have:=cP h;rw[List.filter_eq_nil_iff] at this;have k:=this listed[i] (by simp);simp[dI,hi];simpa using k
theorem zY0 {l:List Oper} {listed:Array Bool} (h:∀i,i<l.length->listed.getD i false=true) (K:listed.size=l.length):Region.ready .any l.toArray listed= []:=by
 apply List.eq_nil_iff_forall_not_mem.2;intro i hi;obtain⟨H,k,_⟩:=zMC hi;have:=h i H;have D:i<listed.size:=by omega
 simp[dI,D] at this k;rw[this] at k;cases k
variable {l:List Oper} {N:Nat} {Q:Exit->Act->World->Prop}
theorem yEV (ag:DrawOk l N) {J:AState->Prop} (hq:∀S' a' w',J S'->Sat E S' a' w'->Q .normal a' w'):
  ∀(fuel m:Nat) (listed:Array Bool) (S:AState) (a:Act) (w:World),N<=m->Down l listed->unl listed<=fuel->(∀i,i<l.length->(listed.getD i false=true↔i<m))->
   Sq P r E l.toArray (l.drop m) S J->Sat E S a w->wpAnyIn (fen r) 0 P .any l.toArray Q fuel listed a w:=by
 intro fuel
 induction fuel with
 | zero=>
  intro m listed S a w hm O hu Z D hs;have H:∀i,i<l.length->listed.getD i false=true:=λi hi=>z3B (by omega) i (by rw[O.size];exact hi)
  have T:l.length<=m:=by
   rcases fF m l.length with h | h
   ·have:=(Z m h).1 (H m h);omega
   ·exact h
  rw[dE T] at D;exact⟨zY0 H O.size,hq S a w D hs⟩
 | succ fuel ih=>
  intro m listed S a w hm O hu Z D hs;refine⟨λad=>?_,λi hi=>?_⟩
  ·have H:=zYZ ag O.size ad
   have T:l.length<=m:=by
    rcases fF m l.length with h | h
    ·have:=(Z m h).1 (H m h);omega
    ·exact h
   rw[dE T] at D;exact hq S a w D hs
  ·obtain⟨h1,h2,h3⟩:=zMC hi
   have K:i<listed.size:=by rw[O.size];exact h1
   have ac:=cS h1;have aa:listed.getD i false=false:=by simpa[dI,K] using h2
   have aq:m<=i:=by
    rcases fF i m with h | h
    ·have:=(Z i h1).2 h;rw[aa] at this;cases this
    ·exact h
   have ab:i=m:=by
    rcases fF m i with h | h
    ·have hr:=ag.tail i _ (by omega) ac m h
     have:=O.reach hr h3;have:=(Z m (by omega)).1 this;omega
    ·omega
   subst ab;rw[cW h1] at D;obtain⟨S',Y,ah⟩:=D;have al:listed[i]? =some false:=by
    have:listed[i]=false:=by simpa[dI,K] using aa
    rw[fJ K,this]
   unfold wpOpIn;simp only[eX,ac];refine Y a w _ Q hs λa' w' am=>?_;refine ih (i+1) _ S' a' w' (by omega) (O.set h3) (by have:=z9A al;omega) (λk hk=>?_) ah am
   rw[zNS K];by_cases e:i=k
   ·subst e;simp
   ·simp only[e,cY]
    rw[Z k hk];omega
theorem yBR (al:DrawOk l N) {J:AState->Prop} (hq:∀S' a' w',J S'->Sat E S' a' w'->Q .normal a' w') (S:AState) (Y:List (Nat×AV)) (cc:Y.length=N)
  (hA:∀(i:Nat) o p,i<N->l[i]? =some o->Y[i]? =some p->z21 P r E l.toArray (zQ4 S (Y.take i)) o p.1 p.2) (hB:Sq P r E l.toArray (l.drop N) (zQ4 S Y) J):
  ∀(fuel:Nat) (listed:Array Bool) (S':AState) (a:Act) (w:World),Down l listed->unl listed<=fuel->(∀i,N<=i->i<l.length->listed.getD i false=false)->
   Lst S Y (λi=>listed.getD i false) S'->Sat E S' a w->wpAnyIn (fen r) 0 P .any l.toArray Q fuel listed a w:=by
 have cp:=al.le;have ab:∀(i:Nat) p,Y[i]? =some p->∃o,l[i]? =some o/\i<N/\o.dst=some p.1:=by
  intro i p K;have hi:i<N:=by rw[<-cc];exact(c8.1 K).1
  have ad:=cS (l:=l) (i:=i) (by omega);exact⟨_,ad,hi,(hA i _ p hi ad K).1⟩
 have H:∀(i j:Nat) p q,Y[i]? =some p->Y[j]? =some q->i≠j->p.1≠q.1:=by
  intro i j p q K am ba he;obtain⟨o,ho,hi,hd⟩:=ab i p K;obtain⟨o',bb,hj,bq⟩:=ab j q am;refine al.dist i o hi ho j hj (λe=>ba e.symm) ?_;simp only[dstAt,bb,Option.bind_some,bq,hd,he]
 have aw:∀S',Lst S Y (λ_=>true) S'->∀t,S'.get t=(zQ4 S Y).get t:=by
  intro S' h t;obtain⟨g1,g2⟩:=z27 Y S H;by_cases an:∃(i:Nat) (p:Nat×AV),Y[i]? =some p/\p.1=t
  ·obtain⟨i,p,K,rfl⟩:=an
   rw[h.yes i p K rfl,g1 i p K]
  ·have ap:∀(i:Nat) p,Y[i]? =some p->p.1≠t:=λi p K e=>an ⟨i,p,K,e⟩
   rw[h.no t (λi p K _=>ap i p K),g2 t ap]
 intro fuel
 induction fuel with
 | zero=>
  intro listed S' a w hd hu hN hL hs;have T:∀i,i<l.length->listed.getD i false=true:=λi hi=>z3B (by omega) i (by rw[hd.size];exact hi)
  have ay:N=l.length:=by
   rcases fF N l.length with h | h
   ·have:=hN N (dC _) h;rw[T N h] at this;cases this
   ·omega
  rw[ay,dE (dC _)] at hB;refine⟨zY0 T hd.size,hq _ a w hB (zYY (by rw[zSL,hL.blks]) (λt=>(aw S' ⟨hL.blks,λi p K _=>hL.yes i p K ?_,λt ht=>hL.no t λi p K _=>ht i p K rfl⟩ t).symm) hs)⟩;exact T i (by obtain⟨_,_,h,_⟩:=ab i p K;omega)
 | succ fuel ih=>
  intro listed S' a w hd hu hN hL hs;have aj:(∀i,i<N->listed.getD i false=true)->Sat E (zQ4 S Y) a w:=λh=>
   zYY (by rw[zSL,hL.blks]) (λt=>(aw S' ⟨hL.blks,λi p K _=>hL.yes i p K (h i (ab i p K).choose_spec.2.1),λt ht=>hL.no t λi p K _=>ht i p K rfl⟩ t).symm) hs
  refine⟨λbk=>?_,λi hi=>?_⟩
  ·have T:=zYZ al hd.size bk
   have ay:N=l.length:=by
    rcases fF N l.length with h | h
    ·have:=hN N (dC _) h;rw[T N h] at this;cases this
    ·omega
   have aq:=aj λi hi=>T i (by omega);rw[ay,dE (dC _)] at hB;exact hq _ a w hB aq
  ·obtain⟨h1,h2,h3⟩:=zMC hi
   have ah:i<listed.size:=by rw[hd.size];exact h1
   have ad:=cS h1;have az:listed.getD i false=false:=by simpa[dI,ah] using h2
   have bw:listed[i]? =some false:=by
    have:listed[i]=false:=by simpa[dI,ah] using az
    rw[fJ ah,this]
   by_cases bi:i<N
   ·have cb:i<Y.length:=by omega
    have K:=cS cb;obtain⟨ck,cm,bc⟩:=hA i _ _ bi ad K;have bp:∀t∈(l[i]).looksAt l.toArray,S'.get t=(zQ4 S (Y.take i)).get t:=by
     intro t ht;have ar:∀(a b:Nat) p q,(Y.take i)[a]? =some p->(Y.take i)[b]? =some q->a≠b->p.1≠q.1:=by
      intro a b p q K am ba;rw[d6] at K am;split at K
      ·split at am
       ·exact H a b p q K am ba
       ·cases am
      ·cases K
     obtain⟨g1,g2⟩:=z27 (Y.take i) S ar;have O:∀(k:Nat) p,(Y.take i)[k]? =some p->k<i/\Y[k]? =some p:=by
      intro k p D;rw[d6] at D;split at D
      ·exact⟨by assumption,D⟩
      ·cases D
     by_cases an:∃(j:Nat) (q:Nat×AV),Y[j]? =some q/\q.1=t
     ·obtain⟨j,q,ai,rfl⟩:=an
      obtain⟨o',bb,bt,br⟩:=ab j q ai;have bh:dstAt l j=some q.1:=by simp[dstAt,bb,br]
      by_cases bj:j=i
      ·subst bj
       rw[hL.no q.1 (λk p D Z he=>by
         have:k=j:=by
          rcases Nat.decEq k j with h | h
          ·exact absurd he (H k j p q D ai h)
          ·exact h
         subst this;rw[az] at Z;cases Z),
        g2 q.1 (λk p D he=>by
         obtain⟨bu,ag⟩:=O k p D;exact H k j p q ag ai (by omega) he)]
      ·have:=al.looks i _ bi ad q.1 ht j bt bj bh
       by_cases ao:j<i
       ·simp only[ao,dH] at this
        have bx:=hd.reach this h3;rw[hL.yes j q ai bx];exact(g1 j q (by rw[d6,dG ao];exact ai)).symm
       ·simp only[ao,cY] at this
        have bz:listed.getD j false=false:=by
         cases hb:listed.getD j false with
         | false=>rfl
         | true=>
          have:=hd.reach this (λo ho k D=>hd.down j o ho hb k D);rw[az] at this;cases this
        rw[hL.no q.1 (λk p D Z he=>by
          have:k=j:=by
           rcases Nat.decEq k j with h | h
           ·exact absurd he (H k j p q D ai h)
           ·exact h
          subst this;rw[bz] at Z;cases Z),
         g2 q.1 (λk p D he=>by
          obtain⟨bu,ag⟩:=O k p D;exact H k j p q ag ai (by omega) he)]
     ·have ap:∀(k:Nat) p,Y[k]? =some p->p.1≠t:=λk p D e=>an ⟨k,p,D,e⟩
      rw[hL.no t (λk p D _=>ap k p D),g2 t (λk p D=>ap k p (O k p D).2)]
    have aq:=bc S' (by rw[zSL,hL.blks]) bp;unfold wpOpIn;simp only[eX,ad];refine aq a w _ Q hs λa' w' ce=>?_;refine ih _ (S'.put Y[i].1 Y[i].2) a' w' (hd.set h3) (by have:=z9A bw;omega) (λk D bv=>?_) ⟨hL.blks,λk p D Z=>?_,λt ht=>?_⟩ ce
    ·rw[zNS ah,dN (by omega)];exact hN k D bv
    ·rw[zNS ah] at Z
     rw[zB1];by_cases e:i=k
     ·subst e
      rw[K] at D;cases D;simp
     ·simp only[e,cY] at Z
      rw[dN (H i k _ p K D e)];exact hL.yes k p D Z
    ·rw[zB1,dN (ht i _ K (by rw[zNS ah];simp))]
     exact hL.no t λk p D Z=>ht k p D (by rw[zNS ah];split<;>simp_all)
   ·have ac:∀k,k<i->listed.getD k false=true:=λk D=>hd.reach (al.tail i _ (by omega) ad k D) h3
    have ch:i=N:=by
     rcases fF N i with h | h
     ·have:=ac N h;rw[hN N (dC _) (by omega)] at this;cases this
     ·omega
    have aq:=aj λk D=>ac k (by omega);have bd:=yEV (P:=P) (r:=r) al hq (fuel+1) N listed (zQ4 S Y) a w (dC _) hd hu (λk D=>⟨λag=>(by
      rcases fF k N with h | h
      ·exact h
      ·rw[hN k h D] at ag;cases ag),λag=>ac k (by omega)⟩) hB aq
    exact bd.2 i hi
theorem zF3 {id:Nat} {K:Exit->AState->Prop} {S:AState} (N:Nat) (hm:P.follows .mixedOrders=true) (k:z0H l N=true)
  (h:DA P r E l.toArray (l.take N) S (λY=>Sq P r E l.toArray (l.drop N) Y (K .normal))):Avc P r E (.region id l.toArray true) K S:=by
 intro a w hs;have O:=z26 k;obtain⟨T,Z,h2,h3⟩:=DA.list _ h;have D:T.length=N:=by rw[Z,dZ];have:=O.le;omega
 refine wpIn_region_any hm (yBR O (J:=K .normal) (λS' a' w' hj H=>⟨S',hj,H⟩) S T D (λi o p hi ho hp=>h3 i o p (by rw[d6,dG hi];exact ho) hp) h2 _ _ S a _ ⟨by simp,λi o _ hi=>?_⟩ ?_ (λi _ hi=>by simp[hi]) ⟨rfl,λi p _ hi=>?_,λt _=>rfl⟩ (z29 hs))
 ·simp[dI,Array.getElem?_replicate] at hi
  split at hi<;>simp at hi
 ·simp[unl]
 ·simp[dI,Array.getElem?_replicate] at hi
  split at hi<;>simp at hi
end
open Go.RowKit
def di (n:Int):DV:= .v (.int .i64 n)
def db (b:Bool):DV:= .v (.bool b)
theorem w64 {n:Int} (h: -9223372036854775808<=n) (k:n<=9223372036854775807):IntKind.i64.wrap n=n:=IntWalk.i64_in _ (by omega)
def Cov (S:AState):List (Nat×AV)->Prop
 | []=>True
 | p::r=>S.get p.1=p.2/\Cov S r
def zP4 (S:AState):List (Nat×Blk)->Prop
 | []=>True
 | p::r=>S.blk p.1=p.2/\zP4 S r
theorem yEW {E : Env} {S S' : AState} (ht : Cov S S'.tmps) (hb : zP4 S S'.blks) (hgh : ∀ C w, E.fr S.ghost C w -> E.fr S'.ghost C w := by exact λ_ _ h => h) : zGS E S S' := by
  have h1 : ∀ l, Cov S l -> ∀ p ∈ l, S.get p.1 = p.2 := by
    intro l
    induction l with
    | nil => intro _ p hp; cases hp
    | cons q l ih => intro h p hp; rcases dM.1 hp with rfl | hp
                     · exact h.1
                     · exact ih h.2 p hp
  have h2 : ∀ l, zP4 S l -> ∀ p ∈ l, S.blk p.1 = p.2 := by
    intro l
    induction l with
    | nil => intro _ p hp; cases hp
    | cons q l ih => intro h p hp; rcases dM.1 hp with rfl | hp
                     · exact h.1
                     · exact ih h.2 p hp
  exact yJT (λp hp => .inl (h1 _ ht p hp)) (h2 _ hb) hgh
section
variable {P:Program} {r:Option Nat} {E:Env} {S:AState} {d:Nat} {ty:TypeId} {pos:String} {af:Array Edge} {g:Option (Nat×Bool)}
theorem zFR {x:Operand} {y:AV} (h:d<E.n) (k:S.ev x=y):AOp P r E S ⟨some d,.move x,ty,pos,af,g⟩ d y:=k▸yN3 h
theorem zKQ {x:Operand} {y:AV} (h:d<E.n) (k:S.ev x=y):AOp P r E S ⟨some d,.assign x,ty,pos,af,g⟩ d y:=k▸yEU h
theorem kF {x:Operand} {y:DV} (h:d<E.n) (k:S.ev x= .d y):AOp P r E S ⟨some d,.move x,ty,pos,af,g⟩ d (.d y):=zFR h k
theorem zJK {x:Operand} {i:Nat} (h:d<E.n) (k:S.ev x= .row i):AOp P r E S ⟨some d,.move x,ty,pos,af,g⟩ d (.row i):=zFR h k
theorem zVU {x:Operand} {i k:Nat} (h:d<E.n) (D:S.ev x= .ptr i k):AOp P r E S ⟨some d,.move x,ty,pos,af,g⟩ d (.ptr i k):=zFR h D
theorem zMD {x:Operand} {c:List DV} (h:d<E.n) (k:S.ev x= .tup c):AOp P r E S ⟨some d,.move x,ty,pos,af,g⟩ d (.tup c):=zFR h k
theorem zP5 {x:Operand} {y:DV} (h:d<E.n) (k:S.ev x= .d y):AOp P r E S ⟨some d,.assign x,ty,pos,af,g⟩ d (.d y):=zKQ h k
theorem z0I {x:Operand} {i:Nat} (h:d<E.n) (k:S.ev x= .row i):AOp P r E S ⟨some d,.assign x,ty,pos,af,g⟩ d (.row i):=zKQ h k
theorem zIZ {x:Operand} {i k:Nat} (h:d<E.n) (D:S.ev x= .ptr i k):AOp P r E S ⟨some d,.assign x,ty,pos,af,g⟩ d (.ptr i k):=zKQ h D
section
variable {ops:Array Oper} {o:Oper} {rest:List Oper} {J:AState->Prop} {j t:Nat} {want b c:Bool} {x:AV}
theorem yQW (K:o.guard=some (j,want)) (O:(ops[j]?).bind (·.dst)=some t) (H:o.dst=some d) (T:d<E.n) (D:t<E.n) (Y:S.get t= .d (.v (.bool b)))
    (h:gd want b=true->AOp P r E S o d x) (k:Sq P r E ops rest (S.put d (.cond (gd want b) x)) J):Sq P r E ops (o::rest) S J:=yN7 (z25 K O H T D Y h) k
theorem wI (K:o.guard=some (j,want)) (O:(ops[j]?).bind (·.dst)=some t) (H:o.dst=some d) (T:d<E.n) (D:t<E.n) (Y:S.get t= .cond c (.d (.v (.bool b))))
    (h:(c&&gd want b)=true->AOp P r E S o d x) (k:Sq P r E ops rest (S.put d (.cond (c&&gd want b) x)) J):Sq P r E ops (o::rest) S J:=yN7 (zYX K O H T D Y h) k
theorem yQX (K:o.guard=some (j,want)) (O:(ops[j]?).bind (·.dst)=some t) (H:o.dst=some d) (T:d<E.n) (D:t<E.n) (Y:S.get t= .d (.v (.bool b)))
    (h:gd want b=true->AOp P r E S o d x) (k:DA P r E ops rest (S.put d (.cond (gd want b) x)) J):DA P r E ops (o::rest) S J:=yN8 (z25 K O H T D Y h) k
theorem zE3 (K:o.guard=some (j,want)) (O:(ops[j]?).bind (·.dst)=some t) (H:o.dst=some d) (T:d<E.n) (D:t<E.n) (Y:S.get t= .cond c (.d (.v (.bool b))))
    (h:(c&&gd want b)=true->AOp P r E S o d x) (k:DA P r E ops rest (S.put d (.cond (c&&gd want b) x)) J):DA P r E ops (o::rest) S J:=yN8 (zYX K O H T D Y h) k
end
def yQY (P:Program) (r:Option Nat) (E:Env) (y:Code) (K:Exit->AState->Prop):Exit->AState->Prop
 | .normal,S=>Avc P r E y K S
 | e,S=>K e S
theorem yV {x y:Code} {K:Exit->AState->Prop} (h:Avc P r E x (yQY P r E y K) S):Avc P r E (.seq x y) K S:=
 yJS λJ D=>z2S h λe S' k=>by
  cases e with
  | normal=>exact D S' k
  | _=>exact k
theorem zW {id:Nat} {l:List Oper} {K:Exit->AState->Prop} (D:P.follows .mixedOrders=true) (k:z0H l l.length=true) (h:DA P r E l.toArray l S (K .normal)):Avc P r E (.region id l.toArray true) K S:=
 zF3 l.length D k (by rw[List.take_length,gB];exact h)
theorem zJL {c:Operand} {x y:Code} {K:Exit->AState->Prop} {b:Bool} (k:S.ev c= .d (.v (.bool b))) (h:(b=true->Avc P r E x K S)/\(b=false->Avc P r E y K S)):Avc P r E (.cond c x y) K S:=
 yES k h.1 h.2
end
def AState.app (S:AState) (id:Nat) (news:List DV):AState:=S.setBlk id ((S.blk id).appended news)
section
variable {P:Program} {r:Option Nat} {E:Env} {S:AState} {d:Nat} {ty:TypeId} {pos:String} {af:Array Edge} {g:Option (Nat×Bool)}
theorem yEX (S:AState) (id:Nat) (news:List DV):(S.kill id).app id news=(S.kill id).setBlk id (zUV id (S.blk id) |>.appended news):=by unfold AState.app;rw[zJG]
theorem yEY {t e size bytes:Nat} {z:Value} {s x:Operand} {id:Nat} {sh:Bool} {cells news:List DV} {n m:Nat} (hn:d<E.n) (Y:SlTy P t e size bytes z) (hs:S.ev s= .row id) (hb:S.blk id= .row e size sh cells)
  (hx:S.dv (S.ev x)=some (.sl size news)) (Z:cells.length=n*size) (K:news.length=m*size) (H:0<bytes) (h:(n+m)*bytes<=140737488355328) (T:E.wrB=true) (O:E.nm id=none):
  jQ P r E ⟨some d,.call {callee:= .builtin .append,args:= #[s,x],argTypes:= #[t,t]},ty,pos,af,g⟩ S ((((S.shareAV (S.ev x)).kill id).app id news).put d (.row id)):=by
 have k:n+m<=maxLen:=by
  have:(n+m)*1<=(n+m)*bytes:=gN _ H;simp only[maxLen];omega
 have:=z2U (P:=P) (r:=r) (ty:=ty) (pos:=pos) (af:=af) (g:=g) hn Y hs hb hx Z K h k T O;rw[yEX];obtain⟨ag,D⟩:=zPO (x:=S.ev x) hb;rw[D] at this ⊢;exact this
theorem z6Q {t e size bytes:Nat} {z:Value} {s x:Operand} {id:Nat} {sh:Bool} {cells news:List DV} {n m:Nat} (Z:d<E.n) (T:SlTy P t e size bytes z) (hs:S.ev s= .row id) (hb:S.blk id= .row e size sh cells)
  (K:S.ev x= .d (.sl size news)) (Y:cells.length=n*size) (D:news.length=m*size) (k:0<bytes) (h:(n+m)*bytes<=140737488355328) (O:E.wrB=true) (H:E.nm id=none):
  jQ P r E ⟨some d,.call {callee:= .builtin .append,args:= #[s,x],argTypes:= #[t,t]},ty,pos,af,g⟩ S (((S.kill id).app id news).put d (.row id)):=by
 have:=yEY (P:=P) (r:=r) (ty:=ty) (pos:=pos) (af:=af) (g:=g) Z T hs hb (by rw[K];rfl) Y D k h O H
 rw[K] at this;exact this
theorem zLB {t:TypeId} {x y:Operand} {id off eb:Nat} {cells:List AV} {u:DV} (K:OneTy P t) (O:S.ev x= .ptr id off) (hb:S.blk id= .box eb cells) (h:off<cells.length)
  (k:S.ev y= .d u) (D:(AV.d u).one=true) (H:E.wrB=true):jQ P r E ⟨none,.store t x y,ty,pos,af,g⟩ S (S.setBlk id (.box eb (cells.set off (.d u)))):=by
 have:=zJH (P:=P) (r:=r) (E:=E) (ty:=ty) (pos:=pos) (af:=af) (g:=g) (y:=y) K O hb h (by rw[k];exact D) (by rw[k];rfl) H
 rwa [k] at this
theorem zT9 {t:TypeId} {x y:Operand} {id off eb i:Nat} {cells:List AV} (K:OneTy P t) (O:S.ev x= .ptr id off) (hb:S.blk id= .box eb cells) (h:off<cells.length)
  (k:S.ev y= .row i) (D:zTL S (.row i)=true) (H:E.wrB=true):jQ P r E ⟨none,.store t x y,ty,pos,af,g⟩ S (S.setBlk id (.box eb (cells.set off (.row i)))):=by
 have:=zJH (P:=P) (r:=r) (E:=E) (ty:=ty) (pos:=pos) (af:=af) (g:=g) (y:=y) K O hb h (by rw[k];rfl) (by rw[k];exact D) H
 rwa [k] at this
theorem yEZ {f:FuncId} {xs:List Operand} {ats:Array TypeId} {h:List AV} {ds H:List DV} (O:d<E.n) (D:xs.map S.ev=h) (k:S.dvL h=some ds) (K:zE P f ds H) (hG:E.gdt=uB P:=by rfl):
  jQ P r E ⟨some d,.call {callee:= .value (.func f),args:=xs.toArray,argTypes:=ats},ty,pos,af,g⟩ S ((S.shareL h).put d (zYP H)):=by
 subst D;exact zYQ O k K hG
theorem SatAt.newImm {A:Act} {w:World} {I:Im} {ρ:Nat->Value} {C:Nat->Prop} (K:SatAt E S A w I ρ C) {e size n:Nat} {xs:List Value} {cells:List DV} (T:cells.length=n*size) (H:Reps w I xs cells) (Z:∀x∈xs,x.oneCell'=true):
  ∃D:Im,SatAt E S A (w.alloc (.cells xs.toArray e)) D ρ C/\Rep (w.alloc (.cells xs.toArray e)) D (.slice (some ⟨w.heap.size,0,none⟩) n n) (.sl size cells):=by
 have O:∀b j,I b j->b<w.heap.size:=λb j h=>(K.old b j h).1;have hg:=K.grow (w':=w.alloc (.cells xs.toArray e)) ((Below.refl _ _).alloc (dC _) _)
 let D:Im:=λb j=>I b j\/b=w.heap.size
 have k:∀b j,I b j->D b j:=λ_ _ h=> .inl h;refine⟨D,hg.widen (B:=w.heap.size) k (λb j hi=>?_) (λi b hi hb=>(K.blt i b hi hb).2) (E.size _ _ _ K.frame) (λb hc=>E.csize _ _ _ K.frame b hc),?_⟩
 ·rcases hi with hi | hi
  ·exact⟨by simp;have:=O b j hi;omega,.inl hi⟩
  ·exact⟨by simp;omega,.inr (by omega)⟩
 ·by_cases Y:n=0
  ·subst Y
   have:cells= []:=cP (by simpa using T);subst this;exact .nil _ _ _
  ·refine .sl _ 0 n n size xs cells (by omega) (dC _) T H.1 (λj x hj=>⟨?_,.inr rfl⟩) Z (H.mono (zFM _ O) k).2
   rw[em,World.cell?_alloc_new];simpa using hj
theorem yE0 {t e size bytes:Nat} {z:Value} {len:Nat} {K:List (Nat×Operand)} {ds:List DV} (hn:d<E.n) (hT:SlTy P t e size bytes z) (H:K=zB3 0 (K.map Prod.snd)) (Y:K.length=len)
    (O:unD ((K.map Prod.snd).map S.ev)=some ds) (aj:ds.all (okDV size)=true) (ay:len*size<=16777216):
    jQ P r E ⟨some d,.buildSlice t len K.toArray,ty,pos,af,g⟩ S (S.put d (.d (.sl size (ds.flatMap vN)))):=
  zAQ (by simp) λA w I ρ C hs=>by
    generalize al:K.map Prod.snd=xs at H O;obtain⟨ag,ah⟩:=zJJ S O;obtain⟨I1,h1,h2,h3⟩:=SatAt.dvL _ hs (zCC hs xs) ag;rw[ah] at h2;obtain⟨a1,a2,a3,a4⟩:=zSI h3 aj;have D:(xs.map A.eval).length=len:=by rw[<-Y,<-al];simp
    have ai:ds.length=len:=by rw[<-h3.1];exact D
    obtain⟨I2,ac,ab⟩:=h2.newImm (e:=e) (size:=size) (n:=len) (by rw[a4,ai]) a1 a2;refine⟨.slice (some ⟨w.heap.size,0,none⟩) len len,_,?_,I2,_,C,ac.put hn ab⟩;obtain⟨i,hi,hz,ax,au⟩:=hT.info;have k:=z2W size (xs.map A.eval) 0 ((Array.range (len*size)).map ((if len*size=0 then (#[]:Array Value) else z.cells)[· % (if len*size=0 then (#[]:Array Value) else z.cells).size]!)) a3 (by simp[<-D]);have Z:K.toArray.map (λp:Nat×Operand=>(p.1,A.eval p.2))=(zB3 0 (xs.map A.eval)).toArray:=by
      rw[H,eO,zMB]
    have aa:¬(len*size > 2 ^ 24):=by omega
    simp only[gz,iz,dO,em,D] at k;rw[dE (by simp)] at k;simp only[et] at k ⊢;simp only[execOp,Instr.buildSlice,cQ,dJ hT.und,cV,hT.size w,aa,cY,dT];by_cases h0:len*size=0
    · have T:len=0:=by
        rcases Nat.mul_eq_zero.1 h0 with h | h
        · exact h
        · have:=hT.pos;omega
      have ak:xs= []:=cP (by simpa[T] using D);subst ak;subst T;simp[Z,zB3,Instr.fill,newRow,Array.range_zero']
    · simp only[h0,cY] at k ⊢
      simp[zeroValue,typeInfo,hi,hz,Z,k,newRow]
theorem yE1 {t e size bytes:Nat} {z:Value} {len:Nat} {k:List (Nat×Operand)} {ds cells:List DV} (Y:d<E.n) (Z:SlTy P t e size bytes z) (H:k=zB3 0 (k.map Prod.snd)) (D:k.length=len)
  (K:unD ((k.map Prod.snd).map S.ev)=some ds) (O:ds.all (okDV size)=true) (T:len*size<=16777216) (hc:ds.flatMap vN=cells):
  AOp P r E S ⟨some d,.buildSlice t len k.toArray,ty,pos,af,g⟩ d (.d (.sl size cells)):=
 ⟨rfl,Y,λS' h=>by
  subst hc;have he:(k.map Prod.snd).map S'.ev=(k.map Prod.snd).map S.ev:=gt λx hx=>h.ev (by simp[Op.operands];simpa using hx)
  exact yE0 Y Z H D (by rw[he];exact K) O T⟩
end
open Go.RowKit
def dby (n:Int):DV:= .v (.int .u8 n)
def DV.bytes (l:List Int):DV:= .sl 1 (l.map dby)
section
variable {P:Program} {r:Option Nat} {E:Env} {S:AState} {d:Nat} {ty:TypeId} {pos:String} {af:Array Edge} {g:Option (Nat×Bool)}
theorem yQZ {k:IntKind} {x y:Operand} {a b:Int} {ats:Array TypeId} (K:d<E.n) (T:S.ev x= .d (.v (.int k a))) (Y:S.ev y= .d (.v (.int k b))):
  AOp P r E S ⟨some d,.call {callee:= .builtin .min,args:= #[x,y],argTypes:=ats},ty,pos,af,g⟩ d (.d (.v (.int k (min a b)))):=
 ⟨rfl,K,λS' h=>jI rfl K (by simp) λA w I ρ C O=>by
  have D:=(h.ev (x:=x) (by simp[Op.operands,Call.operands])).trans T;have H:=(h.ev (x:=y) (by simp[Op.operands,Call.operands])).trans Y;simp only[execOp,resolve,eO,eA,fD,O.val D,O.val H];simp[invoke,builtin,Builtin.min_,Builtin.min2];split<;>omega⟩
theorem z9B {k:IntKind} {x y:Operand} {a b:Int} {ats:Array TypeId} (K:d<E.n) (T:S.ev x= .d (.v (.int k a))) (Y:S.ev y= .d (.v (.int k b))):
  AOp P r E S ⟨some d,.call {callee:= .builtin .max,args:= #[x,y],argTypes:=ats},ty,pos,af,g⟩ d (.d (.v (.int k (max a b)))):=
 ⟨rfl,K,λS' h=>jI rfl K (by simp) λA w I ρ C O=>by
  have D:=(h.ev (x:=x) (by simp[Op.operands,Call.operands])).trans T;have H:=(h.ev (x:=y) (by simp[Op.operands,Call.operands])).trans Y;simp only[execOp,resolve,eO,eA,fD,O.val D,O.val H];simp[invoke,builtin,Builtin.max_,Builtin.max2];split<;>omega⟩
theorem yE2 {t:TypeId} {x O:Operand} {s:ByteArray} {k:Nat} {kk:IntKind} {i:Int} (T:d<E.n) (hu:P.underlying t=some .string) (hx:S.ev x= .d (.v (.string s))) (hi:S.ev O= .d (.v (.int kk i))) (hk:i=(k:Int)) (D:k<s.size):
  AOp P r E S ⟨some d,.index t x O,ty,pos,af,g⟩ d (.d (.v (.int .u8 (s.data.toList.getD k 0).toNat))):=
 ⟨rfl,T,λS' h=>jI rfl T (by simp) λA w I ρ C Y=>by
  subst hk;have K:=(h.ev (x:=x) (by simp[Op.operands])).trans hx;have H:=(h.ev (x:=O) (by simp[Op.operands])).trans hi;have Z:s[k]? =some (s.data.toList.getD k 0):=by
   have h2:k<s.data.size:=D;have:s[k]? =some s[k]:=by simp[getElem?_pos,D]
   rw[this];simp only[List.getD,Array.getElem?_toList,fJ h2];rfl
  simp only[execOp,Y.val K,Y.val H];simp[Instr.index,asIntOf,dJ hu,Z]⟩
theorem wG (w:World) (k:IntKind) (i y:Nat) (D:BoundsCode) (h:i<=y):(Instr.sliceBound (.int k i) y D).run P w= .ok i w:=by simp[Instr.sliceBound,asIntOf,h]
structure Bd (S:AState) (n:Nat) (lo hi:Option Operand) (l h:Nat):Prop where
 lo:match lo with
  | none=>l=0
  | some x=> ∃k i,S.ev x= .d (.v (.int k i))/\i=(l:Int)
 hi:match hi with
  | none=>h=n
  | some x=> ∃k i,S.ev x= .d (.v (.int k i))/\i=(h:Int)
 le:l<=h
 len:h<=n
theorem zOR (w:World) {t e size:Nat} (Y:P.underlying t=some (.slice e)) (O:(sizeOf e).run P w= .ok size w) (A:Option Addr) (n c l h:Nat) (lo hi:Option Value) (K:lo=none/\l=0\/∃k,lo=some (.int k l)) (H:hi=none/\h=n\/∃k,hi=some (.int k h))
    (D:l<=h) (hn:h<=n) (Z:n<=c):(Instr.sliceAt t (.slice A n c) lo hi none).run P w= .ok (.slice (if c=l then A else A.map (·.add (l*size))) (h-l) (c-l)) w:=by
  have hb:(Instr.sliceBounds true n c lo hi none).run P w= .ok (l,h,c) w:=by
    rcases K with ⟨rfl,rfl⟩ | ⟨k,rfl⟩<;>rcases H with ⟨rfl,rfl⟩ | ⟨T,rfl⟩
    · simp[Instr.sliceBounds]
    · simp[Instr.sliceBounds,wG (P:=P) w T h c _ (by omega)]
    · simp[Instr.sliceBounds,wG (P:=P) w k l h _ D]
    · simp[Instr.sliceBounds,wG (P:=P) w T h c _ (by omega),wG (P:=P) w k l h _ D]
  simp[Instr.sliceAt,Instr.slice,dJ Y,hb,O]
theorem Bd.vals {n l h:Nat} {lo hi:Option Operand} (hb:Bd S n lo hi l h) {A:Act} {w:World} {I:Im} {ρ:Nat->Value} {C:Nat->Prop} (H:SatAt E S A w I ρ C):
  (lo.map A.eval=none/\l=0\/∃k,lo.map A.eval=some (.int k l))/\(hi.map A.eval=none/\h=n\/∃k,hi.map A.eval=some (.int k h)):=by
 constructor
 ·cases lo with
  | none=>exact .inl ⟨rfl,hb.lo⟩
  | some x=>obtain⟨k,i,D,rfl⟩:=hb.lo;exact .inr ⟨k,by simp[H.val D]⟩
 ·cases hi with
  | none=>exact .inl ⟨rfl,hb.hi⟩
  | some x=>obtain⟨k,i,D,rfl⟩:=hb.hi;exact .inr ⟨k,by simp[H.val D]⟩
theorem Bd.agree {n l h:Nat} {lo hi:Option Operand} {t:TypeId} {x:Operand} {O:Option Operand} {S':AState} (hb:Bd S n lo hi l h) (K:Agree S S' ⟨some d,.slice t x lo hi O,ty,pos,af,g⟩):Bd S' n lo hi l h:=by
 refine⟨?_,?_,hb.le,hb.len⟩;cases lo with
 | none=>exact hb.lo
 | some y=>obtain⟨k,i,D,H⟩:=hb.lo;exact⟨k,i,(K.ev (by simp[Op.operands])).trans D,H⟩
 cases hi with
 | none=>exact hb.hi
 | some y=>obtain⟨k,i,D,H⟩:=hb.hi;exact⟨k,i,(K.ev (by simp[Op.operands])).trans D,H⟩
theorem zY2 {w:World} {I:Im} {A:Option Addr} {n c l h size:Nat} {cells:List DV} (hr:Rep w I (.slice A n c) (.sl size cells)) (hl:cells.length=n*size) (hp:0<size) (ag:l<=h) (hn:h<=n):
    Rep w I (.slice (if c=l then A else A.map (·.add (l*size))) (h-l) (c-l)) (.sl size ((cells.take (h*size)).drop (l*size))):=by
  by_cases Z:h-l=0
  · have:(cells.take (h*size)).drop (l*size)= []:=by
      apply dE;rw[dZ];have:h*size<=l*size:=dU _ (by omega);omega
    rw[this,Z];exact .nil _ _ _
  · obtain⟨A',n',c',xs,hv,Y,ad,T,h1,O⟩:=Rep.sl_inv hr
    cases hv;obtain⟨b,off,rfl,K⟩:=O (by omega);rw[dN (by omega)];simp only[e6,zAC];have ab:h*size<=n*size:=dU _ hn;have D:((cells.take (h*size)).drop (l*size)).length=(h-l)*size:=by
      rw[eH,dZ,hl,Nat.sub_mul];omega
    have k:=(T.take (h*size)).drop (l*size);refine .sl b (off+l*size) (h-l) (c-l) size ((xs.take (h*size)).drop (l*size)) _ (by omega) (by omega) D k.1 (λj x H=>?_) (λx hx=>h1 x (eD (eP hx))) k.2;rw[eQ,d6] at H;split at H
    · rw[fV];exact K _ x H
    · cases H
theorem zSM {t e size bytes:Nat} {z:Value} {x:Operand} {lo hi:Option Operand} {cells k:List DV} {n l h:Nat} (hn:d<E.n) (K:SlTy P t e size bytes z) (hx:S.ev x= .d (.sl size cells)) (hl:cells.length=n*size)
  (hb:Bd S n lo hi l h) (hc:(cells.take (h*size)).drop (l*size)=k):AOp P r E S ⟨some d,.slice t x lo hi none,ty,pos,af,g⟩ d (.d (.sl size k)):=
 ⟨rfl,hn,λS' ha=>z7 rfl hn (by simp) λA w I ρ C hs=>by
  have Z:=hs.ev x;rw[(ha.ev (x:=x) (by simp[Op.operands])).trans hx] at Z;have D:Rep w I (A.eval x) (.sl size cells):=Z;obtain⟨A',n',c,xs,hv,H,T,_⟩:=Rep.sl_inv D;obtain rfl:=zIO T hl K.pos;obtain⟨Y,O⟩:=(hb.agree ha).vals hs;subst hc;rw[hv] at D;refine⟨_,?_,zY2 D hl K.pos hb.le hb.len⟩;simp only[execOp,hv,cQ,gv,zOR w K.und (K.size w) A' n' c l h _ _ Y O hb.le hb.len H];rfl⟩
theorem yJV {w:World} {I:Im} {ρ:Nat->Value} {M:Nat->Prop} {id e size:Nat} {sh:Bool} {cells:List DV} {n:Nat} (h:BlkOk w I ρ M id (.row e size sh cells)) (hl:cells.length=n*size):
  ∃A c,ρ id= .slice A n c/\n<=c/\(0<n->∃b,blockOf (ρ id)=some b/\A=some ⟨b,0,none⟩):=by
 obtain⟨Z,n',xs,H,k,_⟩:=h;obtain rfl:=zIO H hl Z.1;rcases k.2 with ⟨D,rfl⟩ | ⟨Y,O,T,D,_,_,K,_⟩
 ·exact⟨_,_,D,by omega,λh=>absurd h (by omega)⟩
 ·exact⟨_,_,D,K,λ_=>⟨Y,by rw[D];rfl,rfl⟩⟩
theorem z3C {t e size bytes:Nat} {z:Value} {x:Operand} {lo hi:Option Operand} {id:Nat} {sh:Bool} {cells:List DV} {n l h:Nat} (hn:d<E.n) (hT:SlTy P t e size bytes z) (hx:S.ev x= .row id) (Y:S.blk id= .row e size sh cells) (hl:cells.length=n*size)
    (hb:Bd S n lo hi l h):AOp P r E S ⟨some d,.slice t x lo hi none,ty,pos,af,g⟩ d (.rs id (l*size) (h-l)):=
  ⟨rfl,hn,λS' K=>z7 rfl hn (by simp) λA w I ρ C hs=>by
    have h1:=hs.ev x;rw[(K.ev (x:=x) (by simp[Op.operands])).trans hx] at h1;have hv:A.eval x= ρ id:=h1;have hk:=hs.blks id;rw[(K.blk id).trans Y] at hk;obtain⟨H,c,ac,D,k⟩:=yJV hk hl;obtain⟨aa,Z⟩:=(hb.agree K).vals hs;have ai:=hb.len;have al:=hb.le;refine⟨_,?_,(if c=l then H else H.map (·.add (l*size))),c-l,rfl,by omega,λh0=>?_⟩
    · simp only[execOp,hv,ac,cQ,gv,zOR w hT.und (hT.size w) H n c l h _ _ aa Z hb.le hb.len D]
      rfl
    · obtain⟨b,O,T⟩:=k (by omega)
      refine⟨b,O,?_⟩;rw[dN (by omega),T];simp[zAC]⟩
theorem SatAt.congr' {S':AState} {A:Act} {w:World} {I:Im} {ρ:Nat->Value} {C:Nat->Prop} (h:SatAt E S A w I ρ C) (K:∀t,S'.get t=S.get t) (k:∀i,S'.blk i=S.blk i):SatAt E S' A w I ρ C:=
 ⟨λt=>by rw[K];exact h.tmps t,λi=>by rw[k];exact h.blks i,λi Y b O hi H=>h.dist i Y b O (by rw[<-k];exact hi) (by rw[<-k];exact H),by have:=h.frame;unfold AState.ghost at this ⊢;rw[K];exact this,h.sub,h.old,h.size,h.defers,h.cI,λi b hi D=>h.cB i b (by rw[<-k];exact hi) D,λi v T hi=>h.nm i v T (by rw[<-k];exact hi)⟩
def spl (cells:List DV) (off:Nat) (news:List DV):List DV:=cells.take off++news++cells.drop (off+news.length)
theorem zME {t e size:Nat} (T:P.underlying t=some (.slice e)) (w w':World) (H:(sizeOf e).run P w= .ok size w) (D B:Option Addr) (K Y m O:Nat) (ys:List Value)
  (h:(Builtin.firstCells size (Nat.min m K) (.slice B m O)).run P w= .ok ys.toArray w) (k:match D with | some a=>(storeCells a ys).run P w= .ok () w' | none=>w'=w):
  (Builtin.copy_ #[t,t] ty #[.slice D K Y,.slice B m O]).run P w= .ok (.int .i64 (Nat.min m K)) w':=by
 cases D with
 | none=>simp only at k;subst k;simp[Builtin.copy_,dJ T,Builtin.lenOf,H,h,goInt]
 | some a=>simp only at k;simp[Builtin.copy_,dJ T,Builtin.lenOf,H,h,k,goInt]
theorem z9C {k:TypeId} {x:Operand} {u:DV} (T:d<E.n) (Y:S.ev x= .d u) (O:(AV.d u).one=true) (H:E.nm d=none):
  jQ P r E ⟨some d,.box k x,ty,pos,af,g⟩ S (((S.kill d).setBlk d (.box k [.d u])).put d (.ptr d 0)):=
 zAQ (by simp) λA w I ρ C K=>by
  have h:=K.ev x;rw[Y] at h;have D:=zP2 K.blks h O (by intro _ e;cases e)
  have hb:=K.newBox (id:=d) (e:=k) (arr:= #[A.eval x]) (cells:=[.d u]) (Pw.cons h Pw.nil) (by simpa using D) H;refine⟨.pointer (some ⟨w.heap.size,0,none⟩),w.alloc (.cells #[A.eval x] k),?_,I,_,C,hb.put T ⟨w.heap.size,by simp[upd,blockOf],rfl⟩⟩;simp only[execOp,Instr.box,newVar,zLM D];simp[newRow]
theorem zT {t id e:Nat} {cells:List AV} {ds:List DV} (hn:t<E.n) (ht:S.get t= .ptr id 0) (hb:S.blk id= .box e cells) (Y:unD cells=some ds):zGS E S ((S.setBlk id .none).put t (.d (.pt ds))):=by
 rintro a w ⟨I,ρ,C,h⟩
 have hk:=h.blks id;rw[hb] at hk;obtain⟨b,arr,T,hM,hh,h1,D,hI⟩:=hk;have Z:S.blk id≠ .none:=by rw[hb];simp
 have aa:=h.blt id b Z (by rw[T];rfl)
 have O:Reps w I arr.toList ds:=by
  clear hb hh h1;generalize arr.toList=xs at D
  induction cells generalizing xs ds with
  | nil=>simp[unD] at Y;subst Y;have:xs= []:=cP D.1;subst this;exact Pw.nil
  | cons c cells ih=>
   cases xs with
   | nil=>have:=D.1;simp at this
   | cons x xs=>
    cases c with
    | d y=>
     simp only[unD] at Y;cases hu:unD cells with
     | none=>simp[hu] at Y
     | some ys=>
      simp[hu] at Y;subst Y;exact Pw.cons (D.2 0 x (.d y) rfl rfl) (ih hu xs ⟨by have:=D.1;simpa using this,λj u z hu hz=>D.2 (j+1) u z (by simpa using hu) (by simpa using hz)⟩)
    | _=>simp[unD] at Y
 let I':Im:=λH j=>I H j\/H=b
 have k:∀b j,I b j->I' b j:=λ_ _ h=> .inl h;have key:∀i,(S.setBlk id .none).blk i≠ .none->S.blk i≠ .none/\i≠id:=by
  intro i hi;rw[yQ] at hi;by_cases e:id=i;subst e;simp at hi;simp only[e,cY] at hi;exact⟨hi,λe'=>e e'.symm⟩
 refine⟨I',ρ,C,⟨λu=>?_,λi=>?_,λi i' H ah hi ag=>h.dist i i' H ah (key i hi).1 (key i' ag).1,by rw[zDR _ _ hn];exact h.frame,λb j hi=>k b j (h.sub b j hi),λH j hi=>?_,h.size,h.defers,λH j hi=>?_,λi H hi K=>h.cB i H (key i hi).1 K,λi v hv hi=>h.nm i v hv (key i hi).1⟩⟩
 rw[zB1];by_cases e:t=u;subst e;simp only[dH];have:=h.tmps t;rw[ht] at this;obtain⟨H,K,hv⟩:=this;rw[T] at K;simp[blockOf] at K;subst K;rw[hv];have ai:=O.mono (k6 I w) k;exact Rep.pt b 0 arr.toList ds O.1 (λj x hj=>⟨by rw[em,e9 w b j arr e (0,0) hh];simpa using hj,.inr rfl⟩) h1 ai.2
 simp only[e,cY];exact(h.tmps u).mono (k6 I w) k;show BlkOk w I' ρ E.mine i ((S.setBlk id .none).blk i);by_cases e:id=i;subst e;rw[yQ];simp only[dH];trivial;rw[yQ,dN e];refine(h.blks i).widenI k λb2 j hx ad hi=>?_;rcases hi with hi | hi
 exact hi;subst hi;exact absurd ad (h.dist id i b2 e Z hx (by rw[T];rfl))
 rcases hi with hi | hi;exact h.old H j hi;subst hi;exact⟨aa.2,.inr aa.1⟩;rcases hi with hi | hi;exact h.cI H j hi;subst hi;exact h.cB id H Z (by rw[T];rfl)
theorem yBS {t:TypeId} {x:Operand} {cells:List DV} {e:DV} (Y:d<E.n) (Z:OneTy P t) (hx:S.ev x= .d (.pt cells)) (T:cells[0]? =some e):
  AOp P r E S ⟨some d,.load t x,ty,pos,af,g⟩ d (.d e):=
 ⟨rfl,Y,λS' ha=>z7 rfl Y (by simp) λA w I ρ C hs=>by
  have h:=hs.ev x;rw[(ha.ev (x:=x) (by simp[Op.operands])).trans hx] at h;have O:Rep w I (A.eval x) (.pt cells):=h;generalize hv:A.eval x=v at O;cases O with
  | pt b o xs cells K D h1 hr=>
   have H:0<xs.length:=by rw[K];exact(c8.1 T).1
   have k:=cS H;refine⟨xs[0],?_,hr 0 _ e k T⟩;have:=(D 0 _ k).1;simp only[fE] at this;simp only[execOp,hv,cQ,zHT w Z b o _ this];rfl⟩
theorem z6R {f:FuncId} {h:List Operand} {ds:List DV} (T:d<E.n) (D:unD (h.map S.ev)=some ds):
  AOp P r E S ⟨some d,.makeFunc (.func f) #[] h.toArray,ty,pos,af,g⟩ d (.d (.fn f ds)):=
 ⟨rfl,T,λS' ha=>z7 rfl T (by simp) λA w I ρ C hs=>by
  have O:h.map S'.ev=h.map S.ev:=gt λx hx=>ha.ev (by simp[Op.operands];simpa using hx)
  rw[<-O] at D;obtain⟨Y,Z⟩:=zJJ S' D;have k:Reps w I (h.map A.eval) ds:=by
   have:=zCC hs h;generalize h.map A.eval=vs at this ⊢;generalize h.map S'.ev=K at this D;clear Y Z O
   induction K generalizing vs ds with
   | nil=>simp[unD] at D;subst D;have:vs= []:=cP this.1;subst this;exact Pw.nil
   | cons c cells ih=>
    cases vs with
    | nil=>have:=this.1;simp at this
    | cons x xs=>
     cases c with
     | d y=>
      simp only[unD] at D;cases H:unD cells with
      | none=>simp[H] at D
      | some ys=>
       simp[H] at D;subst D;exact Pw.cons (this.2 0 x (.d y) rfl rfl) (ih xs ⟨by have:=this.1;simpa using this,λj u z H hz=>this.2 (j+1) u z (by simpa using H) (by simpa using hz)⟩ H)
     | _=>simp[unD] at D
  refine⟨.func (.func f) #[] (h.map A.eval).toArray,?_,.fn f _ ds k.1 k.2⟩;simp[execOp,Instr.makeFunc]⟩
theorem yJW {f:FuncId} {x:Operand} {xs:List Operand} {ats:Array TypeId} {h ds rs:List DV} (hn:d<E.n) (hx:S.ev x= .d (.fn f h)) (aa:unD (xs.map S.ev)=some ds) (hc:zE P f (ds++h) rs) (hG:E.gdt=uB P:=by rfl):
  AOp P r E S ⟨some d,.call {callee:= .value x,args:=xs.toArray,argTypes:=ats},ty,pos,af,g⟩ d (zYP rs):=
 ⟨rfl,hn,λS' ha=>by
  have he:xs.map S'.ev=xs.map S.ev:=gt λx hx=>ha.ev (by simp[Op.operands,Call.operands,hx]);rw[<-he] at aa;obtain⟨an,ao⟩:=zJJ S' aa
  rintro A w K Q ⟨I,ρ,C,hs⟩ hk
  obtain⟨⟨fn,hf,Y,O⟩,T⟩:=hc;obtain⟨I1,h1,H,h3⟩:=SatAt.dvL _ hs (zCC hs xs) an;rw[ao] at H;have ah:=hs.ev x;rw[(ha.ev (x:=x) (by simp[Op.operands,Call.operands])).trans hx] at ah;have k:Rep w I (A.eval x) (.fn f h):=ah;generalize au:A.eval x=vx at k;cases k with
  | fn f D h am al=>
   have Z:Reps w I1 D h:=⟨am,λj u z hu hz=>(al j u z hu hz).mono (k6 I w) h1⟩;have ak:=T w I1 (xs.map A.eval++D) (λb j hi=>(H.old b j hi).1) (hG▸H.gl) (Pw.append h3 Z);refine⟨λf _=>trivial,?_⟩;rw[Oper.semAt_eq _ _ _ (by simp)];have ad:(execOp A.eval ⟨some d,.call {callee:= .value x,args:=xs.toArray,argTypes:=ats},ty,pos,af,g⟩).run P w= .ok (.enter f (xs.map A.eval++D).toArray) w:=by
    simp only[execOp,resolve,au,Deferred.ofValue];have ap:¬fn.name= "runtime.NumGoroutine" :=by simpa using Y
    have aq:¬fn.body=none:=by intro e;simp[e] at O
    simp[invoke,callFunc,hf,ap,aq,eO]
   rw[ad];refine⟨by simp[fen,Fence.wide],?_⟩;show CallsIn Fence.wide 0 P f _ w _;refine gG.2 (ak.mono ?_)
   rintro e w' ⟨v,I',rfl,hb,ag,ab,ac⟩
   refine hk _ _ ⟨I',ρ,C,SatAt.put ?_ hn (zNO ac)⟩;have h4:=H.grow hb;exact h4.widen ag ab (λi b hi ai=>(H.blt i b hi ai).2) (E.size _ _ _ H.frame) (λb hc=>E.csize _ _ _ H.frame b hc)⟩
end
open Go.RowKit
section
variable {P:Program} {r:Option Nat} {E:Env} {S:AState} {d:Nat} {ty:TypeId} {pos:String} {af:Array Edge} {g:Option (Nat×Bool)}
def DV.isV:DV->Bool
 | .v _=>true
 | _=>false
theorem yE4 {w w':World} {I D:Im} {xs:List Value} {ds:List DV} (h:Reps w I xs ds) (K:ds.all DV.isV=true):Reps w' D xs ds:=by
 refine⟨h.1,λj x d O k=>?_⟩;have:=eC.1 K d (eV k);have H:=h.2 j x d O k;cases d with
 | v u=>cases H;exact .v _
 | _=>simp[DV.isV] at this
def Env.own (w0:World) (I0:Im) (v:Value) (n:Nat) (Y:n<=1000000):Env where
 B:=w0.heap.size
 I0:=I0
 n:=n
 fr:=λ_ C w=>(w0.grownBy w v.ownBlock/\Same I0 w0 w)/\(∀b j,I0 b j->b<w0.heap.size)/\∀b,¬C b
 wrB:=true
 nle:=Y
 mine:=λb=>w0.heap.size<=b\/v.ownBlock=some b
 mineB:=λ_ h=> .inl h
 nm:=λ_=>none
 size:=λ_ _ _ h=>h.1.1.size
 csize:=λ_ _ _ h b hb=>absurd hb (h.2.2 b)
 grow:=λ_ _ w w' h hb=>⟨⟨⟨hb.os.trans h.1.1.os,hb.tape.trans h.1.1.tape,hb.output.trans h.1.1.output,d9 h.1.1.size hb.size,λk H D=>(hb.block k (eT H h.1.1.size)).trans (h.1.1.block k H D)⟩,
  λb j hi=>(KeepB.of (hb.block b (eT (h.2.1 b j hi) h.1.1.size))).trans (h.1.2 b j hi)⟩,h.2⟩
 wr:=λ_ _ _ w w' row h K Z T=>⟨⟨⟨K.os.trans h.1.1.os,K.tape.trans h.1.1.tape,K.output.trans h.1.1.output,d9 h.1.1.size K.size,λk H D=>(K.block k (eT H h.1.1.size) (λe=>by
   rcases (Z k e).1 with h1 | h1
   ·omega
   ·exact D h1.symm)).trans (h.1.1.block k H D)⟩,λb j hi=>(T b j hi).trans (h.1.2 b j hi)⟩,h.2⟩
 turn:=λ_ _ _ w w' l h hl O T=>⟨⟨⟨O.os.trans h.1.1.os,O.tape.trans h.1.1.tape,O.output.trans h.1.1.output,by rw[O.size];exact h.1.1.size,λk H D=>(O.blk k (by omega)).trans (h.1.1.block k H D)⟩,λb j hi=>(T b j hi).trans (h.1.2 b j hi)⟩,h.2⟩
 gdt:=λ_=>none
 gl:=λ_ _ _ _=>GlI.none
end
end Go.AV

